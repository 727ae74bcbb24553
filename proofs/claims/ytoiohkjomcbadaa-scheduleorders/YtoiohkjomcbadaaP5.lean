/- Part 5 of the proof of: ScheduleOrders: for every input the law returns true -/
import Derived.Test.YtoiohkjomcbadaaP4
namespace Go.Proofs.Ytoiohkjomcbadaa
open Go Sy
set_option maxRecDepth 100000
set_option maxHeartbeats 4000000
set_option linter.unusedVariables false
set_option linter.unusedSimpArgs false
abbrev gw (l : List Wn) (i : Nat) : Wn := l.getD i dWn
theorem lastW_succ (l : List Wn) (i : Nat) : lastW l (i + 1) = (gw l i).t := by unfold lastW; rw [if_neg (by omega)]; rfl
theorem fn88 (l : List Wn) (hl : l.length ≤ 140737488355328) : Sy.Fn Try.prog 88 [aN l] (bv (wnB l)) := by
  refine Fn_of_W mixed Xt88 rfl ?_
  repeat' (first | refine w1g ?_ | refine w1l ?_ | refine w1q ?_ | refine w1b ?_ | refine w1p ?_ | ((first | refine w1r ?_ | refine w1k ?_ | refine w1e ?_); (refine sy1 ?_; try exact True.intro)) | refine an2 ?_ | fail)
  refine W_loopU (fun i : Nat => [(3, iv (lastW l i)), (8, iv i)]) (fun i => []) (fun i => i ≤ l.length ∧ ∀ j, j < i → wnAt (lastW l j) (l.getD j dWn) = true) (fun i => l.length - i) 0 ⟨by omega, fun j hj => by omega⟩ (by rfl) (by rfl) (fun i hi => ?_)
  obtain ⟨hi, hall⟩ := hi
  (refine sy1 ?_; try exact True.intro)
  repeat' (first | refine w1g ?_ | refine w1l ?_ | refine w1q ?_ | refine w1b ?_ | refine w1p ?_ | ((first | refine w1r ?_ | refine w1k ?_ | refine w1e ?_); (refine sy1 ?_; try exact True.intro)) | refine an2 ?_ | fail)
  refine W_condD (by rfl) (fun h5 => ?_) (fun h5 => ?_)
  · have hlt : i < l.length := by omega
    have hn1 := lastW_succ l i
    have hgi : l.getD i dWn = gw l i := rfl
    have hok : wnAt (lastW l i) (gw l i) = (decide (lastW l i ≤ (gw l i).f) && decide ((gw l i).f < (gw l i).t) && decide ((gw l i).t ≤ 1099511627776)) := rfl
    generalize gw l i = x at hn1 hgi hok
    repeat' (first | refine w1g ?_ | refine w1l ?_ | refine w1q ?_ | refine w1b ?_ | refine w1p ?_ | ((first | refine w1r ?_ | refine w1k ?_ | refine w1e ?_); simp (maxSteps := 400000) (disch := omega) only [push_cast, ↓reduceIte, reduceCtorEq, Nat.reduceAdd, Nat.reduceSub, Nat.reduceEqDiff, Nat.reduceLeDiff, Nat.reduceLT, Nat.reduceBEq, Nat.reduceDiv, Nat.reduceMod, Nat.reducePow, Nat.reduceMul, Int.reduceToNat, Int.reduceLT, Int.reduceLE, hgi]) | refine an2 ?_ | fail)
    refine W_cond (by rfl) (fun hb => ?_) (fun hb => ?_)
    · have e : wnAt (lastW l i) (l.getD i dWn) = false := by
        rw [hgi, hok]
        simp only [Bool.or_eq_true, decide_eq_true_eq, Bool.and_eq_false_iff, decide_eq_false_iff_not] at hb ⊢
        omega
      rw [wnB_no hlt e]
      repeat' (first | refine w1g ?_ | refine w1l ?_ | refine w1q ?_ | refine w1b ?_ | refine w1p ?_ | ((first | refine w1r ?_ | refine w1k ?_ | refine w1e ?_); (refine sy1 ?_; try exact True.intro)) | refine an2 ?_ | fail)
      exact W_ret ⟨[_], ⟨rfl, rfl⟩, rfl⟩
    · have e : wnAt (lastW l i) (l.getD i dWn) = true := by
        rw [hgi, hok]
        simp only [Bool.or_eq_false_iff, decide_eq_false_iff_not, Bool.and_eq_true, decide_eq_true_eq] at hb ⊢
        omega
      repeat' (first | refine w1g ?_ | refine w1l ?_ | refine w1q ?_ | refine w1b ?_ | refine w1p ?_ | ((first | refine w1r ?_ | refine w1k ?_ | refine w1e ?_); (refine sy1 ?_; try exact True.intro)) | refine an2 ?_ | fail)
      refine ⟨i + 1, ⟨by omega, up_all hall e⟩, by omega, by rfl, ?_⟩
      rw [hn1]
      (refine syE ?_; try exact True.intro)
  · rw [wnB_yes (fun j hj => hall j (by omega))]
    repeat' (first | refine w1g ?_ | refine w1l ?_ | refine w1q ?_ | refine w1b ?_ | refine w1p ?_ | ((first | refine w1r ?_ | refine w1k ?_ | refine w1e ?_); (refine sy1 ?_; try exact True.intro)) | refine an2 ?_ | fail)
    exact W_ret ⟨[_], ⟨rfl, rfl⟩, rfl⟩
theorem fn56 (l : List Wn) (hl : l.length ≤ 140737488355328) : Sy.Fn Try.prog 56 [aN l] (bv (wnB l)) := by
  refine Fn_of_W mixed Xt56 rfl ?_
  repeat' (first | refine w1g ?_ | refine w1l ?_ | refine w1q ?_ | refine w1b ?_ | refine w1p ?_ | ((first | refine w1r ?_ | refine w1k ?_ | refine w1e ?_); (refine sy1 ?_; try exact True.intro)) | refine an2 ?_ | fail)
  refine W_loopU (fun i : Nat => [(3, iv (lastW l i)), (4, iv i)]) (fun i => []) (fun i => i ≤ l.length ∧ ∀ j, j < i → wnAt (lastW l j) (l.getD j dWn) = true) (fun i => l.length - i) 0 ⟨by omega, fun j hj => by omega⟩ (by rfl) (by rfl) (fun i hi => ?_)
  obtain ⟨hi, hall⟩ := hi
  (refine sy1 ?_; try exact True.intro)
  repeat' (first | refine w1g ?_ | refine w1l ?_ | refine w1q ?_ | refine w1b ?_ | refine w1p ?_ | ((first | refine w1r ?_ | refine w1k ?_ | refine w1e ?_); (refine sy1 ?_; try exact True.intro)) | refine an2 ?_ | fail)
  refine W_condD (by rfl) (fun h5 => ?_) (fun h5 => ?_)
  · have hlt : i < l.length := by omega
    have hn1 := lastW_succ l i
    have hgi : l.getD i dWn = gw l i := rfl
    have hok : wnAt (lastW l i) (gw l i) = (decide (lastW l i ≤ (gw l i).f) && decide ((gw l i).f < (gw l i).t) && decide ((gw l i).t ≤ 1099511627776)) := rfl
    generalize gw l i = x at hn1 hgi hok
    repeat' (first | refine w1g ?_ | refine w1l ?_ | refine w1q ?_ | refine w1b ?_ | refine w1p ?_ | ((first | refine w1r ?_ | refine w1k ?_ | refine w1e ?_); simp (maxSteps := 400000) (disch := omega) only [push_cast, ↓reduceIte, reduceCtorEq, Nat.reduceAdd, Nat.reduceSub, Nat.reduceEqDiff, Nat.reduceLeDiff, Nat.reduceLT, Nat.reduceBEq, Nat.reduceDiv, Nat.reduceMod, Nat.reducePow, Nat.reduceMul, Int.reduceToNat, Int.reduceLT, Int.reduceLE, hgi]) | refine an2 ?_ | fail)
    refine W_cond (by rfl) (fun hb => ?_) (fun hb => ?_)
    · have e : wnAt (lastW l i) (l.getD i dWn) = false := by
        rw [hgi, hok]
        simp only [Bool.or_eq_true, decide_eq_true_eq, Bool.and_eq_false_iff, decide_eq_false_iff_not] at hb ⊢
        omega
      rw [wnB_no hlt e]
      repeat' (first | refine w1g ?_ | refine w1l ?_ | refine w1q ?_ | refine w1b ?_ | refine w1p ?_ | ((first | refine w1r ?_ | refine w1k ?_ | refine w1e ?_); (refine sy1 ?_; try exact True.intro)) | refine an2 ?_ | fail)
      exact W_ret ⟨[_], ⟨rfl, rfl⟩, rfl⟩
    · have e : wnAt (lastW l i) (l.getD i dWn) = true := by
        rw [hgi, hok]
        simp only [Bool.or_eq_false_iff, decide_eq_false_iff_not, Bool.and_eq_true, decide_eq_true_eq] at hb ⊢
        omega
      repeat' (first | refine w1g ?_ | refine w1l ?_ | refine w1q ?_ | refine w1b ?_ | refine w1p ?_ | ((first | refine w1r ?_ | refine w1k ?_ | refine w1e ?_); simp (maxSteps := 400000) (disch := omega) only [push_cast, ↓reduceIte, reduceCtorEq, Nat.reduceAdd, Nat.reduceSub, Nat.reduceEqDiff, Nat.reduceLeDiff, Nat.reduceLT, Nat.reduceBEq, Nat.reduceDiv, Nat.reduceMod, Nat.reducePow, Nat.reduceMul, Int.reduceToNat, Int.reduceLT, Int.reduceLE, hgi]) | refine an2 ?_ | fail)
      refine ⟨i + 1, ⟨by omega, up_all hall e⟩, by omega, by rfl, ?_⟩
      rw [hn1]
      (refine syE ?_; try exact True.intro)
  · rw [wnB_yes (fun j hj => hall j (by omega))]
    repeat' (first | refine w1g ?_ | refine w1l ?_ | refine w1q ?_ | refine w1b ?_ | refine w1p ?_ | ((first | refine w1r ?_ | refine w1k ?_ | refine w1e ?_); (refine sy1 ?_; try exact True.intro)) | refine an2 ?_ | fail)
    exact W_ret ⟨[_], ⟨rfl, rfl⟩, rfl⟩
def fAt (mi fr : Int) (w : Wn) : Bool := decide (max fr w.f + mi ≤ w.t)
theorem fst_at {mi fr : Int} : ∀ {l : List Wn} {i : Nat}, i < l.length → (∀ j, j < i → fAt mi fr (l.getD j dWn) = false) → fAt mi fr (l.getD i dWn) = true → fstW mi fr l = max fr (l.getD i dWn).f
  | w :: l, 0, _, _, h => by
    simp only [fAt, List.getD_cons_zero, decide_eq_true_eq] at h
    simp only [fstW, List.getD_cons_zero]
    rw [if_pos h]
  | w :: l, i + 1, hi, hj, h => by
    have h0 := hj 0 (by omega)
    simp only [fAt, List.getD_cons_zero, decide_eq_false_iff_not] at h0
    simp only [fstW]
    rw [if_neg h0, List.getD_cons_succ]
    exact fst_at (by simpa using hi) (fun j hl => by have := hj (j + 1) (by omega); rwa [List.getD_cons_succ] at this) (by rwa [List.getD_cons_succ] at h)
theorem fst_none {mi fr : Int} : ∀ {l : List Wn}, (∀ j, j < l.length → fAt mi fr (l.getD j dWn) = false) → fstW mi fr l = -1
  | [], _ => rfl
  | w :: l, hj => by
    have h0 := hj 0 (by simp)
    simp only [fAt, List.getD_cons_zero, decide_eq_false_iff_not] at h0
    simp only [fstW]
    rw [if_neg h0]
    exact fst_none (fun j hl => by have := hj (j + 1) (by simpa using hl); rwa [List.getD_cons_succ] at this)
def fstV (mi fr : Int) (l : List Wn) : Int := if 0 ≤ fstW mi fr l then fstW mi fr l else 0
theorem fn64 (l : List Wn) (mi fr : Int) (hl : l.length ≤ 140737488355328) (hw : WnOk 0 l) (hm : 0 ≤ mi ∧ mi ≤ 10080) (hf : -1125899906842624 ≤ fr ∧ fr ≤ 1125899906842624) : Sy.Fn Try.prog 64 [aN l, iv mi, iv fr] (.tup [iv (fstV mi fr l), bv (decide (0 ≤ fstW mi fr l))]) := by
  refine Fn_of_W mixed Xt64 rfl ?_
  repeat' (first | refine w1g ?_ | refine w1l ?_ | refine w1q ?_ | refine w1b ?_ | refine w1p ?_ | ((first | refine w1r ?_ | refine w1k ?_ | refine w1e ?_); (refine sy1 ?_; try exact True.intro)) | refine an2 ?_ | fail)
  refine W_loopU (fun i : Nat => [(13, iv i)]) (fun i => []) (fun i => i ≤ l.length ∧ ∀ j, j < i → fAt mi fr (l.getD j dWn) = false) (fun i => l.length - i) 0 ⟨by omega, fun j hj => by omega⟩ (by rfl) (by rfl) (fun i hi => ?_)
  obtain ⟨hi, hall⟩ := hi
  (refine sy1 ?_; try exact True.intro)
  repeat' (first | refine w1g ?_ | refine w1l ?_ | refine w1q ?_ | refine w1b ?_ | refine w1p ?_ | ((first | refine w1r ?_ | refine w1k ?_ | refine w1e ?_); (refine sy1 ?_; try exact True.intro)) | refine an2 ?_ | fail)
  refine W_condD (by rfl) (fun h5 => ?_) (fun h5 => ?_)
  · have hlt : i < l.length := by omega
    have hok := hw.all _ (getD_mem' dWn l i hlt)
    have hat := fst_at (mi := mi) (fr := fr) hlt hall
    have hno := @up_all _ i hall
    unfold fAt at hat hno
    have hgi : l.getD i dWn = gw l i := rfl
    generalize gw l i = x at hgi
    rw [hgi] at hat hno hok
    have hM : max fr x.f = fr ∨ max fr x.f = x.f := by omega
    have hM2 : 0 ≤ max fr x.f := by omega
    obtain ⟨M, hMe⟩ : ∃ M, max fr x.f = M := ⟨_, rfl⟩
    rw [hMe] at hat hno hM hM2
    repeat' (first | refine w1g ?_ | refine w1l ?_ | refine w1q ?_ | refine w1b ?_ | refine w1p ?_ | ((first | refine w1r ?_ | refine w1k ?_ | refine w1e ?_); simp (maxSteps := 400000) (disch := omega) only [push_cast, ↓reduceIte, reduceCtorEq, Nat.reduceAdd, Nat.reduceSub, Nat.reduceEqDiff, Nat.reduceLeDiff, Nat.reduceLT, Nat.reduceBEq, Nat.reduceDiv, Nat.reduceMod, Nat.reducePow, Nat.reduceMul, Int.reduceToNat, Int.reduceLT, Int.reduceLE, hgi, hMe]) | refine an2 ?_ | fail)
    refine W_condD (by rfl) (fun hb => ?_) (fun hb => ?_)
    · have e := hat (decide_eq_true hb)
      have e2 : fstV mi fr l = M := by unfold fstV; rw [e, if_pos hM2]
      rw [e2, e, decide_eq_true hM2]
      repeat' (first | refine w1g ?_ | refine w1l ?_ | refine w1q ?_ | refine w1b ?_ | refine w1p ?_ | ((first | refine w1r ?_ | refine w1k ?_ | refine w1e ?_); (refine sy1 ?_; try exact True.intro)) | refine an2 ?_ | fail)
      exact W_ret ⟨[_, _], ⟨rfl, rfl, rfl⟩, rfl⟩
    · repeat' (first | refine w1g ?_ | refine w1l ?_ | refine w1q ?_ | refine w1b ?_ | refine w1p ?_ | ((first | refine w1r ?_ | refine w1k ?_ | refine w1e ?_); (refine sy1 ?_; try exact True.intro)) | refine an2 ?_ | fail)
      refine ⟨i + 1, ⟨by omega, hno (decide_eq_false hb)⟩, by omega, by rfl, ?_⟩
      (refine syE ?_; try exact True.intro)
  · have e := fst_none (mi := mi) (fr := fr) (l := l) (fun j hj => hall j (by omega))
    have e2 : fstV mi fr l = 0 := by unfold fstV; rw [e]; rfl
    rw [e2, e]
    repeat' (first | refine w1g ?_ | refine w1l ?_ | refine w1q ?_ | refine w1b ?_ | refine w1p ?_ | ((first | refine w1r ?_ | refine w1k ?_ | refine w1e ?_); (refine sy1 ?_; try exact True.intro)) | refine an2 ?_ | fail)
    exact W_ret ⟨[_, _], ⟨rfl, rfl, rfl⟩, rfl⟩
end Go.Proofs.Ytoiohkjomcbadaa

namespace Go.Proofs.Ytoiohkjomcbadaa
open Go Sy
set_option maxRecDepth 100000
set_option maxHeartbeats 4000000
set_option linter.unusedVariables false
set_option linter.unusedSimpArgs false
structure Gj (j : Jb) : Prop where
  t : j.ts.length ≤ 30
  a : j.af.length ≤ 120
  m : j.tm.length ≤ 20
  w : ∀ i, i < j.ts.length → (gt j.ts i).ws.length ≤ 40
theorem Gj.wm {j : Jb} (h : Gj j) {t : Tk} (ht : t ∈ j.ts) : t.ws.length ≤ 40 := by
  obtain ⟨i, hi⟩ := List.mem_iff_getElem?.1 ht
  have h1 := (List.getElem?_eq_some_iff.1 hi).1
  have := h.w i h1
  simp only [gt, List.getD, hi, Option.getD_some] at this
  exact this
theorem dec_nat (a b : Nat) : decide ((a : Int) < (b : Int)) = decide (a < b) := by
  rw [Bool.eq_iff_iff, decide_eq_true_eq, decide_eq_true_eq]; omega
theorem fn85 (t : Tk) : Sy.Fn Try.prog 85 [.agg (cT t)] (bv (decide (32 < t.ws.length))) := by
  refine Fn_of_W mixed Xt85 rfl ?_
  rw [← dec_nat 32]
  repeat' (first | refine w1g ?_ | refine w1l ?_ | refine w1q ?_ | refine w1b ?_ | refine w1p ?_ | ((first | refine w1r ?_ | refine w1k ?_ | refine w1e ?_); (refine sy1 ?_; try exact True.intro)) | refine an2 ?_ | fail)
  exact W_ret ⟨[_], ⟨rfl, rfl⟩, rfl⟩
theorem tk_neg (n : Nat) (t : Tk) : (!inR t.mi 0 10080 || !wnB t.ws || decide (t.tm < -1) || decide ((n : Int) ≤ t.tm)) = !tkB n t := by
  unfold tkB
  generalize inR t.mi 0 10080 = b1
  generalize wnB t.ws = b2
  rw [Bool.eq_iff_iff]
  cases b1 <;> cases b2 <;> simp only [Bool.not_true, Bool.not_false, Bool.true_or, Bool.false_or, Bool.true_and, Bool.false_and, Bool.or_eq_true, decide_eq_true_eq, Bool.not_eq_true', Bool.and_eq_false_iff, decide_eq_false_iff_not, reduceCtorEq, true_or] <;> omega
theorem fn86 (j : Jb) (t : Tk) (h : t.ws.length ≤ 40) : Sy.Fn Try.prog 86 [.agg (cT t), .fp (cJ j) 0] (bv (!tkB j.tm.length t)) := by
  refine Fn_of_W mixed Xt86 rfl ?_
  repeat' (first | refine w1g ?_ | refine w1l ?_ | refine w1q ?_ | refine w1b ?_ | refine w1p ?_ | ((first | refine w1r ?_ | refine w1k ?_ | refine w1e ?_ | refine CallC.now (fn87 _ _ _) ?_ | refine CallC.go _ (fun _ => ⟨trivial, fn88 _ (by omega)⟩) rfl ?_); (refine sy1 ?_; try exact True.intro)) | refine an2 ?_ | fail)
  rw [tk_neg]
  exact W_ret ⟨[_], ⟨rfl, rfl⟩, rfl⟩
theorem af_neg (n : Nat) (a : Af) : (decide (min a.a a.b < 0) || decide ((n : Int) ≤ max a.a a.b) || a.a == a.b || !inR a.g (-1048576) 1048576) = !afB n a := by
  unfold afB
  generalize inR a.g (-1048576) 1048576 = b1
  rw [Bool.eq_iff_iff]
  cases b1 <;> simp only [Bool.not_true, Bool.not_false, Bool.or_true, Bool.or_false, Bool.and_true, Bool.and_false, Bool.or_eq_true, decide_eq_true_eq, Bool.not_eq_true', Bool.and_eq_false_iff, decide_eq_false_iff_not, reduceCtorEq, Bool.not_eq_false', beq_iff_eq] <;> omega
theorem fn89 (j : Jb) (a : Af) : Sy.Fn Try.prog 89 [.agg (cA a), .fp (cJ j) 0] (bv (!afB j.ts.length a)) := by
  refine Fn_of_W mixed Xt89 rfl ?_
  repeat' (first | refine w1g ?_ | refine w1l ?_ | refine w1q ?_ | refine w1b ?_ | refine w1p ?_ | ((first | refine w1r ?_ | refine w1k ?_ | refine w1e ?_ | refine CallC.go _ (fun _ => ⟨trivial, fn87 _ _ _⟩) rfl ?_); (refine sy1 ?_; try exact True.intro)) | refine an2 ?_ | fail)
  rw [← af_neg]
  exact W_ret ⟨[_], ⟨rfl, rfl⟩, rfl⟩
theorem fn90 (x : Int) : Sy.Fn Try.prog 90 [iv x] (bv (!tmB x)) := by
  refine Fn_of_W mixed Xt90 rfl ?_
  repeat' (first | refine w1g ?_ | refine w1l ?_ | refine w1q ?_ | refine w1b ?_ | refine w1p ?_ | ((first | refine w1r ?_ | refine w1k ?_ | refine w1e ?_ | refine CallC.now (fn87 _ _ _) ?_); (refine sy1 ?_; try exact True.intro)) | refine an2 ?_ | fail)
  exact W_ret ⟨[_], ⟨rfl, rfl⟩, rfl⟩
theorem many_eq (j : Jb) : manyJ j = ((decide ((24 : Int) < j.ts.length) || decide ((96 : Int) < j.af.length) || decide ((6 : Int) < j.tm.length)) || j.ts.any fun t => decide (32 < t.ws.length)) := by
  unfold manyJ
  rw [← dec_nat 24, ← dec_nat 96, ← dec_nat 6]; rfl
theorem bad_eq (j : Jb) : badJ j = ((j.ts.length : Int) == 0 || j.ts.any (fun t => !tkB j.tm.length t) || j.af.any (fun a => !afB j.ts.length a) || j.tm.any fun x => !tmB x) := by
  unfold badJ
  congr 3
  rw [Bool.eq_iff_iff, decide_eq_true_eq, beq_iff_eq]; omega
theorem fn39 (j : Jb) (h : Gj j) : Sy.Fn Try.prog 39 [aJ j] (iv (chkJ j)) := by
  refine Fn_of_W mixed Xt39 rfl ?_
  have h1 := h.t
  have h2 := h.a
  have h3 := h.m
  have c84a := fn84 j.ts (by omega) 85 [] [] (fun t => decide (32 < t.ws.length)) (fun t _ => fn85 t)
  have c84b := fn84 j.ts (by omega) 86 [] [.fp (cJ j) 0] (fun t => !tkB j.tm.length t) (fun t ht => fn86 j t (h.wm ht))
  have c62 := fn62 j.af (by omega) 89 [] [.fp (cJ j) 0] (fun a => !afB j.ts.length a) (fun a _ => fn89 j a)
  have c91 := fn91 j.tm (by omega) 90 [] [] (fun x => !tmB x) (fun x _ => fn90 x)
  have e1 := many_eq j
  have e2 := bad_eq j
  have e3 : chkJ j = if manyJ j = true then 6 else if badJ j = true then 2 else 0 := rfl
  generalize chkJ j = E at *
  generalize manyJ j = b1 at *
  generalize badJ j = b2 at *
  repeat' (first | refine w1g ?_ | refine w1l ?_ | refine w1q ?_ | refine w1b ?_ | refine w1p ?_ | ((first | refine w1r ?_ | refine w1k ?_ | refine w1e ?_); (refine sy1 ?_; try exact True.intro)) | refine an2 ?_ | fail)
  refine W_cond (by rfl) (fun hb => ?_) (fun hb => ?_)
  · rw [hb, Bool.true_or] at e1
    rw [e3, e1, if_pos rfl]
    repeat' (first | refine w1g ?_ | refine w1l ?_ | refine w1q ?_ | refine w1b ?_ | refine w1p ?_ | ((first | refine w1r ?_ | refine w1k ?_ | refine w1e ?_); (refine sy1 ?_; try exact True.intro)) | refine an2 ?_ | fail)
    exact W_ret ⟨[_], ⟨rfl, rfl⟩, rfl⟩
  rw [hb, Bool.false_or] at e1
  rw [← e1] at c84a
  repeat' (first | refine w1g ?_ | refine w1l ?_ | refine w1q ?_ | refine w1b ?_ | refine w1p ?_ | ((first | refine w1r ?_ | refine w1k ?_ | refine w1e ?_ | refine CallC.now (c84a) ?_); (refine sy1 ?_; try exact True.intro)) | refine an2 ?_ | fail)
  refine W_cond (by rfl) (fun hb => ?_) (fun hb => ?_)
  · rw [e3, hb, if_pos rfl]
    repeat' (first | refine w1g ?_ | refine w1l ?_ | refine w1q ?_ | refine w1b ?_ | refine w1p ?_ | ((first | refine w1r ?_ | refine w1k ?_ | refine w1e ?_); (refine sy1 ?_; try exact True.intro)) | refine an2 ?_ | fail)
    exact W_ret ⟨[_], ⟨rfl, rfl⟩, rfl⟩
  rw [hb, if_neg (by decide)] at e3
  repeat' (first | refine w1g ?_ | refine w1l ?_ | refine w1q ?_ | refine w1b ?_ | refine w1p ?_ | ((first | refine w1r ?_ | refine w1k ?_ | refine w1e ?_ | refine CallC.go _ (fun _ => ⟨trivial, c84b⟩) rfl ?_ | refine CallC.go _ (fun _ => ⟨trivial, c62⟩) rfl ?_ | refine CallC.go _ (fun _ => ⟨trivial, c91⟩) rfl ?_); (refine sy1 ?_; try exact True.intro)) | refine an2 ?_ | fail)
  rw [← e2]
  refine W_cond (by rfl) (fun hb => ?_) (fun hb => ?_)
  · rw [e3, hb, if_pos rfl]
    repeat' (first | refine w1g ?_ | refine w1l ?_ | refine w1q ?_ | refine w1b ?_ | refine w1p ?_ | ((first | refine w1r ?_ | refine w1k ?_ | refine w1e ?_); (refine sy1 ?_; try exact True.intro)) | refine an2 ?_ | fail)
    exact W_ret ⟨[_], ⟨rfl, rfl⟩, rfl⟩
  · rw [e3, hb, if_neg (by decide)]
    repeat' (first | refine w1g ?_ | refine w1l ?_ | refine w1q ?_ | refine w1b ?_ | refine w1p ?_ | ((first | refine w1r ?_ | refine w1k ?_ | refine w1e ?_); (refine sy1 ?_; try exact True.intro)) | refine an2 ?_ | fail)
    exact W_ret ⟨[_], ⟨rfl, rfl⟩, rfl⟩
theorem chk_many {j : Jb} (h : manyJ j = true) : chkJ j = 6 := by unfold chkJ; rw [if_pos h]
theorem chk_bad {j : Jb} (h : manyJ j = false) (h2 : badJ j = true) : chkJ j = 2 := by unfold chkJ; rw [h, if_neg (by decide), if_pos h2]
theorem chk_good {j : Jb} (h : manyJ j = false) (h2 : badJ j = false) : chkJ j = 0 := by unfold chkJ; rw [h, if_neg (by decide), h2, if_neg (by decide)]
theorem bad_t {j : Jb} {i : Nat} (hi : i < j.ts.length) (h : tkB j.tm.length (gt j.ts i) = false) : badJ j = true := by
  unfold badJ
  rw [any_yes (q := fun t => !tkB j.tm.length t) dTk hi (by show (!tkB j.tm.length (gt j.ts i)) = true; rw [h]; rfl)]; simp
theorem bad_a {j : Jb} {i : Nat} (hi : i < j.af.length) (h : afB j.ts.length (j.af.getD i dAf) = false) : badJ j = true := by
  unfold badJ
  rw [any_yes (q := fun a => !afB j.ts.length a) dAf hi (by show (!afB j.ts.length (j.af.getD i dAf)) = true; rw [h]; rfl)]; simp
theorem bad_m {j : Jb} {i : Nat} (hi : i < j.tm.length) (h : tmB (j.tm.getD i 0) = false) : badJ j = true := by
  unfold badJ
  rw [any_yes (q := fun x => !tmB x) 0 hi (by show (!tmB (j.tm.getD i 0)) = true; rw [h]; rfl)]; simp
theorem af_neg2 (n : Nat) (a : Af) : (decide (a.a < 0) || decide ((n : Int) ≤ a.a) || decide (a.b < 0) || decide ((n : Int) ≤ a.b) || a.a == a.b || !inR a.g (-1048576) 1048576) = !afB n a := by
  unfold afB
  generalize inR a.g (-1048576) 1048576 = b1
  rw [Bool.eq_iff_iff]
  cases b1 <;> simp only [Bool.not_true, Bool.not_false, Bool.or_true, Bool.or_false, Bool.and_true, Bool.and_false, Bool.or_eq_true, decide_eq_true_eq, Bool.not_eq_true', Bool.and_eq_false_iff, decide_eq_false_iff_not, reduceCtorEq, Bool.not_eq_false', beq_iff_eq] <;> omega
theorem fn17 (j : Jb) (h : Gj j) : Sy.Fn Try.prog 17 [aJ j] (iv (chkJ j)) := by
  refine Fn_of_W mixed Xt17 rfl ?_
  have h1 := h.t
  have h2 := h.a
  have h3 := h.m
  have e1 := many_eq j
  repeat' (first | refine w1g ?_ | refine w1l ?_ | refine w1q ?_ | refine w1b ?_ | refine w1p ?_ | ((first | refine w1r ?_ | refine w1k ?_ | refine w1e ?_); (refine sy1 ?_; try exact True.intro)) | refine an2 ?_ | fail)
  refine W_cond (by rfl) (fun hb => ?_) (fun hb => ?_)
  · rw [hb, Bool.true_or] at e1
    rw [chk_many e1]
    repeat' (first | refine w1g ?_ | refine w1l ?_ | refine w1q ?_ | refine w1b ?_ | refine w1p ?_ | ((first | refine w1r ?_ | refine w1k ?_ | refine w1e ?_); (refine sy1 ?_; try exact True.intro)) | refine an2 ?_ | fail)
    exact W_ret ⟨[_], ⟨rfl, rfl⟩, rfl⟩
  rw [hb, Bool.false_or] at e1
  repeat' (first | refine w1g ?_ | refine w1l ?_ | refine w1q ?_ | refine w1b ?_ | refine w1p ?_ | ((first | refine w1r ?_ | refine w1k ?_ | refine w1e ?_); (refine sy1 ?_; try exact True.intro)) | refine an2 ?_ | fail)
  refine W_loopU (fun i : Nat => [(3, iv i)]) (fun i => []) (fun i => i ≤ j.ts.length ∧ ∀ k, k < i → decide (32 < (j.ts.getD k dTk).ws.length) = false) (fun i => j.ts.length - i) 0 ⟨by omega, fun j hj => by omega⟩ (by rfl) (by rfl) (fun i hi => ?_)
  obtain ⟨hi, hall⟩ := hi
  (refine sy1 ?_; try exact True.intro)
  repeat' (first | refine w1g ?_ | refine w1l ?_ | refine w1q ?_ | refine w1b ?_ | refine w1p ?_ | ((first | refine w1r ?_ | refine w1k ?_ | refine w1e ?_); (refine sy1 ?_; try exact True.intro)) | refine an2 ?_ | fail)
  refine W_condD (by rfl) (fun h5 => ?_) (fun h5 => ?_)
  · have hlt : i < j.ts.length := by omega
    repeat' (first | refine w1g ?_ | refine w1l ?_ | refine w1q ?_ | refine w1b ?_ | refine w1p ?_ | ((first | refine w1r ?_ | refine w1k ?_ | refine w1e ?_); (refine sy1 ?_; try exact True.intro)) | refine an2 ?_ | fail)
    refine W_condD (by rfl) (fun hb => ?_) (fun hb => ?_)
    · rw [any_yes (q := fun t : Tk => decide (32 < t.ws.length)) dTk hlt (decide_eq_true (by omega))] at e1
      rw [chk_many e1]
      repeat' (first | refine w1g ?_ | refine w1l ?_ | refine w1q ?_ | refine w1b ?_ | refine w1p ?_ | ((first | refine w1r ?_ | refine w1k ?_ | refine w1e ?_); (refine sy1 ?_; try exact True.intro)) | refine an2 ?_ | fail)
      exact W_ret ⟨[_], ⟨rfl, rfl⟩, rfl⟩
    · repeat' (first | refine w1g ?_ | refine w1l ?_ | refine w1q ?_ | refine w1b ?_ | refine w1p ?_ | ((first | refine w1r ?_ | refine w1k ?_ | refine w1e ?_); (refine sy1 ?_; try exact True.intro)) | refine an2 ?_ | fail)
      refine ⟨i + 1, ⟨by omega, up_all hall (decide_eq_false (by omega))⟩, by omega, by rfl, ?_⟩
      (refine syE ?_; try exact True.intro)
  rw [any_no (q := fun t : Tk => decide (32 < t.ws.length)) dTk (fun k hk => hall k (by omega))] at e1
  clear hall h5 hi hb
  repeat' (first | refine w1g ?_ | refine w1l ?_ | refine w1q ?_ | refine w1b ?_ | refine w1p ?_ | ((first | refine w1r ?_ | refine w1k ?_ | refine w1e ?_); (refine sy1 ?_; try exact True.intro)) | refine an2 ?_ | fail)
  refine W_condD (by rfl) (fun hb => ?_) (fun hb => ?_)
  · rw [chk_bad e1 (by unfold badJ; rw [decide_eq_true (by omega)]; simp)]
    repeat' (first | refine w1g ?_ | refine w1l ?_ | refine w1q ?_ | refine w1b ?_ | refine w1p ?_ | ((first | refine w1r ?_ | refine w1k ?_ | refine w1e ?_); (refine sy1 ?_; try exact True.intro)) | refine an2 ?_ | fail)
    exact W_ret ⟨[_], ⟨rfl, rfl⟩, rfl⟩
  repeat' (first | refine w1g ?_ | refine w1l ?_ | refine w1q ?_ | refine w1b ?_ | refine w1p ?_ | ((first | refine w1r ?_ | refine w1k ?_ | refine w1e ?_); (refine sy1 ?_; try exact True.intro)) | refine an2 ?_ | fail)
  refine W_loopU (fun i : Nat => [(4, iv i)]) (fun i => []) (fun i => i ≤ j.ts.length ∧ ∀ k, k < i → (!tkB j.tm.length (j.ts.getD k dTk)) = false) (fun i => j.ts.length - i) 0 ⟨by omega, fun j hj => by omega⟩ (by rfl) (by rfl) (fun i hi => ?_)
  obtain ⟨hi, hall⟩ := hi
  (refine sy1 ?_; try exact True.intro)
  repeat' (first | refine w1g ?_ | refine w1l ?_ | refine w1q ?_ | refine w1b ?_ | refine w1p ?_ | ((first | refine w1r ?_ | refine w1k ?_ | refine w1e ?_); (refine sy1 ?_; try exact True.intro)) | refine an2 ?_ | fail)
  refine W_condD (by rfl) (fun h5 => ?_) (fun h5 => ?_)
  · have hlt : i < j.ts.length := by omega
    have hgi : j.ts.getD i dTk = gt j.ts i := rfl
    have hwl := h.w i hlt
    have hbad := fun q => bad_t (j := j) hlt q
    have hno := @up_all _ i hall
    have hne := tk_neg j.tm.length (gt j.ts i)
    rw [hgi] at hno
    generalize gt j.ts i = x at *
    repeat' (first | refine w1g ?_ | refine w1l ?_ | refine w1q ?_ | refine w1b ?_ | refine w1p ?_ | ((first | refine w1r ?_ | refine w1k ?_ | refine w1e ?_ | refine CallC.now (fn55 _ _ _) ?_ | refine CallC.go _ (fun _ => ⟨trivial, fn56 _ (by omega)⟩) rfl ?_); simp (maxSteps := 400000) (disch := omega) only [push_cast, ↓reduceIte, reduceCtorEq, Nat.reduceAdd, Nat.reduceSub, Nat.reduceEqDiff, Nat.reduceLeDiff, Nat.reduceLT, Nat.reduceBEq, Nat.reduceDiv, Nat.reduceMod, Nat.reducePow, Nat.reduceMul, Int.reduceToNat, Int.reduceLT, Int.reduceLE, hgi]) | refine an2 ?_ | fail)
    rw [hne]
    refine W_cond (by rfl) (fun hb => ?_) (fun hb => ?_)
    · rw [chk_bad e1 (hbad (by simpa using hb))]
      repeat' (first | refine w1g ?_ | refine w1l ?_ | refine w1q ?_ | refine w1b ?_ | refine w1p ?_ | ((first | refine w1r ?_ | refine w1k ?_ | refine w1e ?_); (refine sy1 ?_; try exact True.intro)) | refine an2 ?_ | fail)
      exact W_ret ⟨[_], ⟨rfl, rfl⟩, rfl⟩
    · repeat' (first | refine w1g ?_ | refine w1l ?_ | refine w1q ?_ | refine w1b ?_ | refine w1p ?_ | ((first | refine w1r ?_ | refine w1k ?_ | refine w1e ?_); (refine sy1 ?_; try exact True.intro)) | refine an2 ?_ | fail)
      refine ⟨i + 1, ⟨by omega, hno hb⟩, by omega, by rfl, ?_⟩
      (refine syE ?_; try exact True.intro)
  have q1 := any_no (q := fun t : Tk => !tkB j.tm.length t) dTk (fun k hk => hall k (by omega))
  clear hall h5 hi
  repeat' (first | refine w1g ?_ | refine w1l ?_ | refine w1q ?_ | refine w1b ?_ | refine w1p ?_ | ((first | refine w1r ?_ | refine w1k ?_ | refine w1e ?_); (refine sy1 ?_; try exact True.intro)) | refine an2 ?_ | fail)
  refine W_loopU (fun i : Nat => [(6, iv i)]) (fun i => []) (fun i => i ≤ j.af.length ∧ ∀ k, k < i → (!afB j.ts.length (j.af.getD k dAf)) = false) (fun i => j.af.length - i) 0 ⟨by omega, fun j hj => by omega⟩ (by rfl) (by rfl) (fun i hi => ?_)
  obtain ⟨hi, hall⟩ := hi
  (refine sy1 ?_; try exact True.intro)
  repeat' (first | refine w1g ?_ | refine w1l ?_ | refine w1q ?_ | refine w1b ?_ | refine w1p ?_ | ((first | refine w1r ?_ | refine w1k ?_ | refine w1e ?_); (refine sy1 ?_; try exact True.intro)) | refine an2 ?_ | fail)
  refine W_condD (by rfl) (fun h5 => ?_) (fun h5 => ?_)
  · have hlt : i < j.af.length := by omega
    have hbad := fun q => bad_a (j := j) hlt q
    have hno := @up_all _ i hall
    have hne := af_neg2 j.ts.length (j.af.getD i dAf)
    repeat' (first | refine w1g ?_ | refine w1l ?_ | refine w1q ?_ | refine w1b ?_ | refine w1p ?_ | ((first | refine w1r ?_ | refine w1k ?_ | refine w1e ?_ | refine CallC.go _ (fun _ => ⟨trivial, fn55 _ _ _⟩) rfl ?_); (refine sy1 ?_; try exact True.intro)) | refine an2 ?_ | fail)
    rw [hne]
    refine W_cond (by rfl) (fun hb => ?_) (fun hb => ?_)
    · rw [chk_bad e1 (hbad (by simpa using hb))]
      repeat' (first | refine w1g ?_ | refine w1l ?_ | refine w1q ?_ | refine w1b ?_ | refine w1p ?_ | ((first | refine w1r ?_ | refine w1k ?_ | refine w1e ?_); (refine sy1 ?_; try exact True.intro)) | refine an2 ?_ | fail)
      exact W_ret ⟨[_], ⟨rfl, rfl⟩, rfl⟩
    · repeat' (first | refine w1g ?_ | refine w1l ?_ | refine w1q ?_ | refine w1b ?_ | refine w1p ?_ | ((first | refine w1r ?_ | refine w1k ?_ | refine w1e ?_); (refine sy1 ?_; try exact True.intro)) | refine an2 ?_ | fail)
      refine ⟨i + 1, ⟨by omega, hno hb⟩, by omega, by rfl, ?_⟩
      (refine syE ?_; try exact True.intro)
  have q2 := any_no (q := fun a : Af => !afB j.ts.length a) dAf (fun k hk => hall k (by omega))
  clear hall h5 hi
  repeat' (first | refine w1g ?_ | refine w1l ?_ | refine w1q ?_ | refine w1b ?_ | refine w1p ?_ | ((first | refine w1r ?_ | refine w1k ?_ | refine w1e ?_); (refine sy1 ?_; try exact True.intro)) | refine an2 ?_ | fail)
  refine W_loopU (fun i : Nat => [(8, iv i)]) (fun i => []) (fun i => i ≤ j.tm.length ∧ ∀ k, k < i → (!tmB (j.tm.getD k 0)) = false) (fun i => j.tm.length - i) 0 ⟨by omega, fun j hj => by omega⟩ (by rfl) (by rfl) (fun i hi => ?_)
  obtain ⟨hi, hall⟩ := hi
  (refine sy1 ?_; try exact True.intro)
  repeat' (first | refine w1g ?_ | refine w1l ?_ | refine w1q ?_ | refine w1b ?_ | refine w1p ?_ | ((first | refine w1r ?_ | refine w1k ?_ | refine w1e ?_); (refine sy1 ?_; try exact True.intro)) | refine an2 ?_ | fail)
  refine W_condD (by rfl) (fun h5 => ?_) (fun h5 => ?_)
  · have hlt : i < j.tm.length := by omega
    have hbad := fun q => bad_m (j := j) hlt q
    have hno := @up_all _ i hall
    have hne : tmB (j.tm.getD i 0) = inR (j.tm.getD i 0) 0 1048576 := rfl
    repeat' (first | refine w1g ?_ | refine w1l ?_ | refine w1q ?_ | refine w1b ?_ | refine w1p ?_ | ((first | refine w1r ?_ | refine w1k ?_ | refine w1e ?_ | refine CallC.now (fn55 _ _ _) ?_); (refine sy1 ?_; try exact True.intro)) | refine an2 ?_ | fail)
    rw [← hne]
    refine W_cond (by rfl) (fun hb => ?_) (fun hb => ?_)
    · rw [chk_bad e1 (hbad (by simpa using hb))]
      repeat' (first | refine w1g ?_ | refine w1l ?_ | refine w1q ?_ | refine w1b ?_ | refine w1p ?_ | ((first | refine w1r ?_ | refine w1k ?_ | refine w1e ?_); (refine sy1 ?_; try exact True.intro)) | refine an2 ?_ | fail)
      exact W_ret ⟨[_], ⟨rfl, rfl⟩, rfl⟩
    · repeat' (first | refine w1g ?_ | refine w1l ?_ | refine w1q ?_ | refine w1b ?_ | refine w1p ?_ | ((first | refine w1r ?_ | refine w1k ?_ | refine w1e ?_); (refine sy1 ?_; try exact True.intro)) | refine an2 ?_ | fail)
      refine ⟨i + 1, ⟨by omega, hno hb⟩, by omega, by rfl, ?_⟩
      (refine syE ?_; try exact True.intro)
  have q3 := any_no (q := fun x : Int => !tmB x) 0 (fun k hk => hall k (by omega))
  have e2 : badJ j = false := by
    unfold badJ
    rw [q1, q2, q3, decide_eq_false (by omega)]; rfl
  rw [chk_good e1 e2]
  repeat' (first | refine w1g ?_ | refine w1l ?_ | refine w1q ?_ | refine w1b ?_ | refine w1p ?_ | ((first | refine w1r ?_ | refine w1k ?_ | refine w1e ?_); (refine sy1 ?_; try exact True.intro)) | refine an2 ?_ | fail)
  exact W_ret ⟨[_], ⟨rfl, rfl⟩, rfl⟩
end Go.Proofs.Ytoiohkjomcbadaa

namespace Go.Proofs.Ytoiohkjomcbadaa
open Go Sy
set_option maxRecDepth 100000
set_option maxHeartbeats 4000000
set_option linter.unusedVariables false
set_option linter.unusedSimpArgs false
theorem w58 (j : Jb) (t : Int) (h : j.ts.length ≤ 30) : W Try.prog 26 Xn58_0 (init [aJ j, iv t]) (FinO [.t 4] 3 1 0 cI (memT j t)) := by
  repeat' (first | refine w1g ?_ | refine w1l ?_ | refine w1q ?_ | refine w1b ?_ | refine w1p ?_ | ((first | refine w1r ?_ | refine w1k ?_ | refine w1e ?_); (refine sy1 ?_; try exact True.intro)) | refine an2 ?_ | fail)
  refine W_le (le_adopt 5 3 1 0 cI (by omega) rfl) ?_
  (refine sy1 ?_; try exact True.intro)
  refine W_loopU (fun i : Nat => [(5, .row 7 (memK j t i).length), (11, iv i)]) (fun i => [(7, .row (memK j t i).length 3 1 0 cI (memK j t i))]) (fun i => i ≤ j.ts.length) (fun i => j.ts.length - i) 0 (by omega) (by rfl) (by rfl) (fun i hi => ?_)
  have hl := memK_len j t i
  have hs := memK_succ j t i
  have hm : isM j t i = ((gt j.ts i).tm == t) := rfl
  have hgt : j.ts.getD i dTk = gt j.ts i := rfl
  (refine sy1 ?_; try exact True.intro)
  repeat' (first | refine w1g ?_ | refine w1l ?_ | refine w1q ?_ | refine w1b ?_ | refine w1p ?_ | ((first | refine w1r ?_ | refine w1k ?_ | refine w1e ?_); (refine sy1 ?_; try exact True.intro)) | refine an2 ?_ | fail)
  refine W_condD (by rfl) (fun h5 => ?_) (fun h5 => ?_)
  · have hlt : i < j.ts.length := by omega
    rw [hm] at hs
    generalize gt j.ts i = x at hs hgt hm
    repeat' (first | refine w1g ?_ | refine w1l ?_ | refine w1q ?_ | refine w1b ?_ | refine w1p ?_ | ((first | refine w1r ?_ | refine w1k ?_ | refine w1e ?_); simp (maxSteps := 400000) (disch := omega) only [push_cast, ↓reduceIte, reduceCtorEq, Nat.reduceAdd, Nat.reduceSub, Nat.reduceEqDiff, Nat.reduceLeDiff, Nat.reduceLT, Nat.reduceBEq, Nat.reduceDiv, Nat.reduceMod, Nat.reducePow, Nat.reduceMul, Int.reduceToNat, Int.reduceLT, Int.reduceLE, hgt]) | refine an2 ?_ | fail)
    refine W_cond (by rfl) (fun hb => ?_) (fun hb => ?_)
    · rw [hb, if_pos rfl] at hs
      repeat' (first | refine w1g ?_ | refine w1l ?_ | refine w1q ?_ | refine w1b ?_ | refine w1p ?_ | ((first | refine w1r ?_ | refine w1k ?_ | refine w1e ?_); (refine sy1 ?_; try exact True.intro)) | refine an2 ?_ | fail)
      refine ⟨rfl, trivial, Int, 0, cI, [(i : Int)], rfl, by omega, fun x _ => ⟨rfl, rfl⟩, rfl, ?_⟩
      (refine sy1 ?_; try exact True.intro)
      refine ⟨rfl, ⟨Nat.le_of_ble_eq_true rfl, rfl⟩, trivial, [(i : Int)], rfl, by first | omega | (simp; omega), by first | omega | (simp; omega), ?_⟩
      (refine sy1 ?_; try exact True.intro)
      repeat' (first | refine w1g ?_ | refine w1l ?_ | refine w1q ?_ | refine w1b ?_ | refine w1p ?_ | ((first | refine w1r ?_ | refine w1k ?_ | refine w1e ?_); (refine sy1 ?_; try exact True.intro)) | refine an2 ?_ | fail)
      refine ⟨i + 1, by omega, by omega, by rfl, ?_⟩
      rw [hs, List.length_append]
      (refine syE ?_; try exact True.intro)
    · rw [hb, if_neg (by decide), List.append_nil] at hs
      repeat' (first | refine w1g ?_ | refine w1l ?_ | refine w1q ?_ | refine w1b ?_ | refine w1p ?_ | ((first | refine w1r ?_ | refine w1k ?_ | refine w1e ?_); (refine sy1 ?_; try exact True.intro)) | refine an2 ?_ | fail)
      refine ⟨i + 1, by omega, by omega, by rfl, ?_⟩
      rw [hs]
      (refine syE ?_; try exact True.intro)
  · obtain rfl : i = j.ts.length := by omega
    repeat' (first | refine w1g ?_ | refine w1l ?_ | refine w1q ?_ | refine w1b ?_ | refine w1p ?_ | ((first | refine w1r ?_ | refine w1k ?_ | refine w1e ?_); (refine sy1 ?_; try exact True.intro)) | refine an2 ?_ | fail)
    exact W_ret ⟨_, _, ⟨rfl, rfl⟩, rfl⟩
theorem fn58 (j : Jb) (t : Int) (h : j.ts.length ≤ 30) : Sy.Fn Try.prog 58 [aJ j, iv t] (aI (memT j t)) := Fn_of_W mixed Xt58 rfl (W_mono' (w58 j t h) fin_of_finO)
theorem fo58 (j : Jb) (t : Int) (h : j.ts.length ≤ 30) : FnO Try.prog 58 [aJ j, iv t] 3 1 0 cI (memT j t) := FnO_of_W mixed Xt58 rfl (fun x _ => rfl) (w58 j t h)
theorem eq_at {a b : List Int} (hl : a.length = b.length) (h : ∀ i, i < a.length → a.getD i 0 = b.getD i 0) : a = b := by
  apply List.ext_getElem hl
  intro i h1 h2
  have := h i h1
  simpa [List.getD, List.getElem?_eq_getElem h1, List.getElem?_eq_getElem h2] using this
theorem fn92 (a b : List Int) (hl : a.length ≤ 140737488355328) : Sy.Fn Try.prog 92 [aI a, aI b] (bv (decide (a = b))) := by
  refine Fn_of_W mixed Xt92 rfl ?_
  repeat' (first | refine w1g ?_ | refine w1l ?_ | refine w1q ?_ | refine w1b ?_ | refine w1p ?_ | ((first | refine w1r ?_ | refine w1k ?_ | refine w1e ?_); (refine sy1 ?_; try exact True.intro)) | refine an2 ?_ | fail)
  refine W_cond (by rfl) (fun hb => ?_) (fun hb => ?_)
  · have e : a ≠ b := fun q => by rw [q] at hb; simp at hb
    rw [decide_eq_false e]
    repeat' (first | refine w1g ?_ | refine w1l ?_ | refine w1q ?_ | refine w1b ?_ | refine w1p ?_ | ((first | refine w1r ?_ | refine w1k ?_ | refine w1e ?_); (refine sy1 ?_; try exact True.intro)) | refine an2 ?_ | fail)
    exact W_ret ⟨[_], ⟨rfl, rfl⟩, rfl⟩
  have hab : a.length = b.length := by
    have := bne_eq_false_iff_eq.1 hb
    omega
  repeat' (first | refine w1g ?_ | refine w1l ?_ | refine w1q ?_ | refine w1b ?_ | refine w1p ?_ | ((first | refine w1r ?_ | refine w1k ?_ | refine w1e ?_); (refine sy1 ?_; try exact True.intro)) | refine an2 ?_ | fail)
  refine W_loopU (fun i : Nat => [(13, iv i)]) (fun i => []) (fun i => i ≤ a.length ∧ ∀ k, k < i → a.getD k 0 = b.getD k 0) (fun i => a.length - i) 0 ⟨by omega, fun j hj => by omega⟩ (by rfl) (by rfl) (fun i hi => ?_)
  obtain ⟨hi, hall⟩ := hi
  (refine sy1 ?_; try exact True.intro)
  repeat' (first | refine w1g ?_ | refine w1l ?_ | refine w1q ?_ | refine w1b ?_ | refine w1p ?_ | ((first | refine w1r ?_ | refine w1k ?_ | refine w1e ?_); (refine sy1 ?_; try exact True.intro)) | refine an2 ?_ | fail)
  refine W_condD (by rfl) (fun h5 => ?_) (fun h5 => ?_)
  · have hlt : i < a.length := by omega
    repeat' (first | refine w1g ?_ | refine w1l ?_ | refine w1q ?_ | refine w1b ?_ | refine w1p ?_ | ((first | refine w1r ?_ | refine w1k ?_ | refine w1e ?_); (refine sy1 ?_; try exact True.intro)) | refine an2 ?_ | fail)
    refine W_cond (by rfl) (fun hb => ?_) (fun hb => ?_)
    · have e : a ≠ b := fun q => by rw [q] at hb; simp at hb
      rw [decide_eq_false e]
      repeat' (first | refine w1g ?_ | refine w1l ?_ | refine w1q ?_ | refine w1b ?_ | refine w1p ?_ | ((first | refine w1r ?_ | refine w1k ?_ | refine w1e ?_); (refine sy1 ?_; try exact True.intro)) | refine an2 ?_ | fail)
      exact W_ret ⟨[_], ⟨rfl, rfl⟩, rfl⟩
    · repeat' (first | refine w1g ?_ | refine w1l ?_ | refine w1q ?_ | refine w1b ?_ | refine w1p ?_ | ((first | refine w1r ?_ | refine w1k ?_ | refine w1e ?_); (refine sy1 ?_; try exact True.intro)) | refine an2 ?_ | fail)
      refine ⟨i + 1, ⟨by omega, up_all hall (bne_eq_false_iff_eq.1 hb)⟩, by omega, by rfl, ?_⟩
      (refine syE ?_; try exact True.intro)
  · rw [decide_eq_true (eq_at hab (fun k hk => hall k (by omega)))]
    repeat' (first | refine w1g ?_ | refine w1l ?_ | refine w1q ?_ | refine w1b ?_ | refine w1p ?_ | ((first | refine w1r ?_ | refine w1k ?_ | refine w1e ?_); (refine sy1 ?_; try exact True.intro)) | refine an2 ?_ | fail)
    exact W_ret ⟨[_], ⟨rfl, rfl⟩, rfl⟩
theorem fn94 (l : List Int) : Sy.Fn Try.prog 94 [aI l] (.clo 125 [] [.fp [aI l] 0]) := by
  refine Fn_of_W mixed Xt94 rfl ?_
  repeat' (first | refine w1g ?_ | refine w1l ?_ | refine w1q ?_ | refine w1b ?_ | refine w1p ?_ | ((first | refine w1r ?_ | refine w1k ?_ | refine w1e ?_); (refine sy1 ?_; try exact True.intro)) | refine an2 ?_ | fail)
  exact W_ret ⟨[_], ⟨rfl, rfl⟩, rfl⟩
theorem take_succ_getD (l : List Int) (i : Nat) (h : i < l.length) : l.take (i + 1) = l.take i ++ [l.getD i 0] := by
  rw [List.take_add_one, List.getD]
  simp [List.getElem?_eq_getElem h]
theorem fo134 (l : List Int) (hl : l.length ≤ 1000000) : FnO Try.prog 134 [.v (.slice none 0 0), .clo 125 [] [.fp [aI l] 0]] 3 1 0 cI l := by
  refine FnO_of_W mixed Xt134 rfl (fun x _ => rfl) ?_
  repeat' (first | refine w1g ?_ | refine w1l ?_ | refine w1q ?_ | refine w1b ?_ | refine w1p ?_ | ((first | refine w1r ?_ | refine w1k ?_ | refine w1e ?_); (refine sy1 ?_; try exact True.intro)) | refine an2 ?_ | fail)
  refine W_rfn (.inl rfl) (fun lp R hR => Inl_of_W mixed Xt125 rfl (fun vs => ?_))
  (refine sy1 ?_; try exact True.intro)
  repeat' (first | refine w1g ?_ | refine w1l ?_ | refine w1q ?_ | refine w1b ?_ | refine w1p ?_ | ((first | refine w1r ?_ | refine w1k ?_ | refine w1e ?_); (refine sy1 ?_; try exact True.intro)) | refine an2 ?_ | fail)
  refine W_le (le_adoptC 0 0 3 1 (0 : Int) cI (by omega) _ rfl rfl (by simp)) ?_
  (refine sy1 ?_; try exact True.intro)
  refine W_loopU (fun i : Nat => [(7, iv i)]) (fun i => [(0, .cells [.row 8 i]), (8, .row i 3 1 0 cI (l.take i))]) (fun i => i ≤ l.length) (fun i => l.length - i) 0 (by omega) (by rfl) (by rfl) (fun i hi => ?_)
  (refine sy1 ?_; try exact True.intro)
  repeat' (first | refine w1g ?_ | refine w1l ?_ | refine w1q ?_ | refine w1b ?_ | refine w1p ?_ | ((first | refine w1r ?_ | refine w1k ?_ | refine w1e ?_); (refine sy1 ?_; try exact True.intro)) | refine an2 ?_ | fail)
  refine W_condD (by rfl) (fun h5 => ?_) (fun h5 => ?_)
  · have hlt : i < l.length := by omega
    have e4 := take_succ_getD l i hlt
    have hlen : (l.take i).length = i := by rw [List.length_take]; omega
    obtain ⟨x, hx⟩ : ∃ x, l.getD i 0 = x := ⟨_, rfl⟩
    rw [hx] at e4
    generalize l.take i = y at *
    repeat' (first | refine w1g ?_ | refine w1l ?_ | refine w1q ?_ | refine w1b ?_ | refine w1p ?_ | ((first | refine w1r ?_ | refine w1k ?_ | refine w1e ?_); simp (maxSteps := 400000) (disch := omega) only [push_cast, ↓reduceIte, reduceCtorEq, Nat.reduceAdd, Nat.reduceSub, Nat.reduceEqDiff, Nat.reduceLeDiff, Nat.reduceLT, Nat.reduceBEq, Nat.reduceDiv, Nat.reduceMod, Nat.reducePow, Nat.reduceMul, Int.reduceToNat, Int.reduceLT, Int.reduceLE, hx]) | refine an2 ?_ | fail)
    refine StopC.yld (fun hpc => ⟨trivial, Yl_of_W (k := 3) mixed hR rfl rfl rfl (fun vs2 => ?_)⟩) (fun hpc => absurd (by simp [pc]) hpc)
    (refine sy1 ?_; try exact True.intro)
    repeat' (first | refine w1g ?_ | refine w1l ?_ | refine w1q ?_ | refine w1b ?_ | refine w1p ?_ | ((first | refine w1r ?_ | refine w1k ?_ | refine w1e ?_); (refine sy1 ?_; try exact True.intro)) | refine an2 ?_ | fail)
    refine ⟨_, rfl, ?_⟩
    (refine sy1 ?_; try exact True.intro)
    repeat' (first | refine w1g ?_ | refine w1l ?_ | refine w1q ?_ | refine w1b ?_ | refine w1p ?_ | ((first | refine w1r ?_ | refine w1k ?_ | refine w1e ?_); (refine sy1 ?_; try exact True.intro)) | refine an2 ?_ | fail)
    refine ⟨rfl, trivial, Int, 0, cI, [x], rfl, by omega, fun x _ => ⟨rfl, rfl⟩, rfl, ?_⟩
    (refine sy1 ?_; try exact True.intro)
    refine ⟨rfl, ⟨Nat.le_of_ble_eq_true rfl, rfl⟩, trivial, [x], rfl, by first | omega | (simp; omega), by first | omega | (simp; omega), ?_⟩
    (refine sy1 ?_; try exact True.intro)
    refine ⟨_, _, rfl, rfl, ?_⟩
    (refine sy1 ?_; try exact True.intro)
    refine W_cond (by rfl) (fun h => by cases h) (fun _ => ?_)
    repeat' (first | refine w1g ?_ | refine w1l ?_ | refine w1q ?_ | refine w1b ?_ | refine w1p ?_ | ((first | refine w1r ?_ | refine w1k ?_ | refine w1e ?_); (refine sy1 ?_; try exact True.intro)) | refine an2 ?_ | fail)
    refine ⟨i + 1, by omega, by omega, by rfl, ?_⟩
    rw [e4]
    (refine syE ?_; try exact True.intro)
  · obtain rfl : i = l.length := by omega
    rw [List.take_length]
    repeat' (first | refine w1g ?_ | refine w1l ?_ | refine w1q ?_ | refine w1b ?_ | refine w1p ?_ | ((first | refine w1r ?_ | refine w1k ?_ | refine w1e ?_); (refine sy1 ?_; try exact True.intro)) | refine an2 ?_ | fail)
    refine ⟨_, _, rfl, rfl, ⟨_, _, rfl, by rw [hR.st]; simp, ?_⟩⟩
    rw [hR.pe]
    simp (maxSteps := 400000) (disch := omega) only [push_cast, ↓reduceIte, reduceCtorEq, Nat.reduceAdd, Nat.reduceSub, Nat.reduceEqDiff, Nat.reduceLeDiff, Nat.reduceLT, Nat.reduceBEq, Nat.reduceDiv, Nat.reduceMod, Nat.reducePow, Nat.reduceMul, Int.reduceToNat, Int.reduceLT, Int.reduceLE, EndP]
    repeat' (first | refine w1g ?_ | refine w1l ?_ | refine w1q ?_ | refine w1b ?_ | refine w1p ?_ | ((first | refine w1r ?_ | refine w1k ?_ | refine w1e ?_); (refine sy1 ?_; try exact True.intro)) | refine an2 ?_ | fail)
    exact W_ret ⟨_, _, ⟨rfl, rfl⟩, rfl⟩
theorem fo123 (l : List Int) (hl : l.length ≤ 1000000) : FnO Try.prog 123 [.clo 125 [] [.fp [aI l] 0]] 3 1 0 cI l := by
  refine FnO_of_W mixed Xt123 rfl (fun x _ => rfl) ?_
  have c := fo134 l hl
  repeat' (first | refine w1g ?_ | refine w1l ?_ | refine w1q ?_ | refine w1b ?_ | refine w1p ?_ | ((first | refine w1r ?_ | refine w1k ?_ | refine w1e ?_); (refine sy1 ?_; try exact True.intro)) | refine an2 ?_ | (refine CallC.inl (Inl_of_FnO c (by rfl) ?_); (refine sy1 ?_; try exact True.intro)) | fail)
  exact W_ret ⟨_, _, ⟨rfl, rfl⟩, rfl⟩
def laysSr : Go.Shelf.Ren := ⟨fun x => if x = 125 then 136 else if x = 128 then 148 else if x = 129 then 149 else if x = 189 then 124 else if x = 215 then 156 else if x = 216 then 145 else if x = 257 then 135 else if x = 294 then 139 else if x = 295 then 140 else if x = 296 then 141 else if x = 297 then 142 else if x = 298 then 143 else if x = 299 then 144 else if x = 300 then 146 else if x = 301 then 147 else if x = 328 then 151 else if x = 329 then 152 else if x = 330 then 153 else if x = 331 then 154 else if x = 332 then 155 else if x = 343 then 158 else x, fun x => if x = 0 then 0 else if x = 3 then 3 else if x = 4 then 4 else if x = 5 then 5 else if x = 9 then 9 else if x = 28 then 52 else if x = 46 then 125 else if x = 51 then 181 else if x = 53 then 183 else if x = 131 then 178 else if x = 182 then 172 else if x = 183 then 173 else if x = 218 then 184 else if x = 222 then 188 else if x = 228 then 190 else if x = 229 then 191 else x, fun x => x⟩
theorem laysS : Go.Proofs.Lays.n189 Try.prog laysSr := {
  mixed := mixed
  f125 := by kernel_rfl
  f128 := by kernel_rfl
  f129 := by kernel_rfl
  f189 := by kernel_rfl
  f215 := by kernel_rfl
  f216 := by kernel_rfl
  f257 := by kernel_rfl
  f294 := by kernel_rfl
  f295 := by kernel_rfl
  f296 := by kernel_rfl
  f297 := by kernel_rfl
  f298 := by kernel_rfl
  f299 := by kernel_rfl
  f300 := by kernel_rfl
  f301 := by kernel_rfl
  f328 := by kernel_rfl
  f329 := by kernel_rfl
  f330 := by kernel_rfl
  f331 := by kernel_rfl
  f332 := by kernel_rfl
  f343 := by kernel_rfl
  t0 := by kernel_rfl
  a0 := fun w => by kernel_rfl
  z0 := fun w => by kernel_rfl
  v0 := fun w => by kernel_rfl
  t3 := by kernel_rfl
  a3 := fun w => by kernel_rfl
  z3 := fun w => by kernel_rfl
  v3 := fun w => by kernel_rfl
  t4 := by kernel_rfl
  a4 := fun w => by kernel_rfl
  z4 := fun w => by kernel_rfl
  v4 := fun w => by kernel_rfl
  t5 := by kernel_rfl
  a5 := fun w => by kernel_rfl
  z5 := fun w => by kernel_rfl
  v5 := fun w => by kernel_rfl
  t9 := by kernel_rfl
  a9 := fun w => by kernel_rfl
  z9 := fun w => by kernel_rfl
  v9 := fun w => by kernel_rfl
  t28 := by kernel_rfl
  a28 := fun w => by kernel_rfl
  z28 := fun w => by kernel_rfl
  v28 := fun w => by kernel_rfl
  t46 := by kernel_rfl
  a46 := fun w => by kernel_rfl
  z46 := fun w => by kernel_rfl
  v46 := fun w => by kernel_rfl
  t51 := by kernel_rfl
  a51 := fun w => by kernel_rfl
  z51 := fun w => by kernel_rfl
  v51 := fun w => by kernel_rfl
  t53 := by kernel_rfl
  a53 := fun w => by kernel_rfl
  z53 := fun w => by kernel_rfl
  v53 := fun w => by kernel_rfl
  t131 := by kernel_rfl
  a131 := fun w => by kernel_rfl
  z131 := fun w => by kernel_rfl
  v131 := fun w => by kernel_rfl
  t182 := by kernel_rfl
  a182 := fun w => by kernel_rfl
  z182 := fun w => by kernel_rfl
  v182 := fun w => by kernel_rfl
  t183 := by kernel_rfl
  a183 := fun w => by kernel_rfl
  z183 := fun w => by kernel_rfl
  v183 := fun w => by kernel_rfl
  t218 := by kernel_rfl
  a218 := fun w => by kernel_rfl
  z218 := fun w => by kernel_rfl
  v218 := fun w => by kernel_rfl
  t222 := by kernel_rfl
  a222 := fun w => by kernel_rfl
  z222 := fun w => by kernel_rfl
  v222 := fun w => by kernel_rfl
  t228 := by kernel_rfl
  a228 := fun w => by kernel_rfl
  z228 := fun w => by kernel_rfl
  v228 := fun w => by kernel_rfl
  t229 := by kernel_rfl
  a229 := fun w => by kernel_rfl
  z229 := fun w => by kernel_rfl
  v229 := fun w => by kernel_rfl }
theorem sort_body : hasBody Try.prog (laysSr.f 189) = true := by kernel_rfl
theorem fn93 (l : List Int) (hl : l.length ≤ 1000000) : Sy.Fn Try.prog 93 [.clo 125 [] [.fp [aI l] 0]] (aI (srt l)) := by
  refine Fn_of_W mixed Xt93 rfl ?_
  have c := fo123 l hl
  repeat' (first | refine w1g ?_ | refine w1l ?_ | refine w1q ?_ | refine w1b ?_ | refine w1p ?_ | ((first | refine w1r ?_ | refine w1k ?_ | refine w1e ?_); (refine sy1 ?_; try exact True.intro)) | refine an2 ?_ | (refine CallC.inl (Inl_of_FnO c (by rfl) ?_); (refine sy1 ?_; try exact True.intro)) | fail)
  refine CallC.inl (Inl_sortI laysS sort_body (k := 2) (st := 0) (T := 3) (d := 0) (F := cI) (l := l) (fun x => rfl) (by rfl) (by omega) ?_)
  (refine sy1 ?_; try exact True.intro)
  repeat' (first | refine w1g ?_ | refine w1l ?_ | refine w1q ?_ | refine w1b ?_ | refine w1p ?_ | ((first | refine w1r ?_ | refine w1k ?_ | refine w1e ?_); (refine sy1 ?_; try exact True.intro)) | refine an2 ?_ | fail)
  exact W_ret ⟨[_], ⟨rfl, rfl⟩, rfl⟩
theorem ord_no {j : Jb} {o : List (List Int)} {t : Nat} (ht : t < o.length) (h : rowB j t (o.getD t []) = false) : ordB j o = false := by
  unfold ordB
  rw [← Bool.not_eq_true, List.all_eq_true]
  intro q
  rw [q t (List.mem_range.2 ht)] at h; cases h
theorem ord_yes {j : Jb} {o : List (List Int)} (h : ∀ t, t < o.length → rowB j t (o.getD t []) = true) : ordB j o = true := by
  unfold ordB
  rw [List.all_eq_true]
  exact fun t ht => h t (List.mem_range.1 ht)
structure Go' (o : List (List Int)) : Prop where
  n : o.length ≤ 20
  r : ∀ t, t < o.length → (o.getD t []).length ≤ 40
theorem fn40 (j : Jb) (o : List (List Int)) (h : Gj j) (ho : Go' o) : Sy.Fn Try.prog 40 [aJ j, aO o] (iv (chkO j o)) := by
  refine Fn_of_W mixed Xt40 rfl ?_
  have c39 := fn39 j h
  have hn := ho.n
  have hm := h.m
  have ht := h.t
  have e : chkO j o = if chkJ j = 0 then (if o.length = j.tm.length then (if ordB j o = true then 0 else 2) else 17) else chkJ j := rfl
  generalize chkO j o = E at *
  generalize chkJ j = E1 at *
  repeat' (first | refine w1g ?_ | refine w1l ?_ | refine w1q ?_ | refine w1b ?_ | refine w1p ?_ | ((first | refine w1r ?_ | refine w1k ?_ | refine w1e ?_ | refine CallC.now (c39) ?_); (refine sy1 ?_; try exact True.intro)) | refine an2 ?_ | fail)
  refine W_cond (by rfl) (fun hb => ?_) (fun hb => ?_)
  · rw [if_neg (by simpa using hb)] at e
    rw [e]
    repeat' (first | refine w1g ?_ | refine w1l ?_ | refine w1q ?_ | refine w1b ?_ | refine w1p ?_ | ((first | refine w1r ?_ | refine w1k ?_ | refine w1e ?_); (refine sy1 ?_; try exact True.intro)) | refine an2 ?_ | fail)
    exact W_ret ⟨[_], ⟨rfl, rfl⟩, rfl⟩
  rw [if_pos (by simpa using hb)] at e
  repeat' (first | refine w1g ?_ | refine w1l ?_ | refine w1q ?_ | refine w1b ?_ | refine w1p ?_ | ((first | refine w1r ?_ | refine w1k ?_ | refine w1e ?_); (refine sy1 ?_; try exact True.intro)) | refine an2 ?_ | fail)
  refine W_cond (by rfl) (fun hb => ?_) (fun hb => ?_)
  · rw [if_neg (by have := bne_iff_ne.1 hb; omega)] at e
    rw [e]
    repeat' (first | refine w1g ?_ | refine w1l ?_ | refine w1q ?_ | refine w1b ?_ | refine w1p ?_ | ((first | refine w1r ?_ | refine w1k ?_ | refine w1e ?_); (refine sy1 ?_; try exact True.intro)) | refine an2 ?_ | fail)
    exact W_ret ⟨[_], ⟨rfl, rfl⟩, rfl⟩
  rw [if_pos (by have := bne_eq_false_iff_eq.1 hb; omega)] at e
  rw [e]
  clear hb
  repeat' (first | refine w1g ?_ | refine w1l ?_ | refine w1q ?_ | refine w1b ?_ | refine w1p ?_ | ((first | refine w1r ?_ | refine w1k ?_ | refine w1e ?_); (refine sy1 ?_; try exact True.intro)) | refine an2 ?_ | fail)
  refine W_loopU (fun i : Nat => [(21, iv i)]) (fun i => []) (fun i => i ≤ o.length ∧ ∀ k, k < i → rowB j k (o.getD k []) = true) (fun i => o.length - i) 0 ⟨by omega, fun j hj => by omega⟩ (by rfl) (by rfl) (fun i hi => ?_)
  obtain ⟨hi, hall⟩ := hi
  (refine sy1 ?_; try exact True.intro)
  repeat' (first | refine w1g ?_ | refine w1l ?_ | refine w1q ?_ | refine w1b ?_ | refine w1p ?_ | ((first | refine w1r ?_ | refine w1k ?_ | refine w1e ?_); (refine sy1 ?_; try exact True.intro)) | refine an2 ?_ | fail)
  refine W_condD (by rfl) (fun h5 => ?_) (fun h5 => ?_)
  · have hlt : i < o.length := by omega
    have hr := ho.r i hlt
    have c94 := fn94 (o.getD i [])
    have c93 := fn93 (o.getD i []) (by omega)
    have c58 := fn58 j i ht
    have c92 := fn92 (srt (o.getD i [])) (memT j i) (by unfold srt; rw [List.length_mergeSort]; omega)
    have hrb : decide (srt (o.getD i []) = memT j i) = rowB j i (o.getD i []) := rfl
    rw [hrb] at c92
    have hno := @up_all _ i hall
    have hon := fun q => ord_no (j := j) (o := o) hlt q
    generalize rowB j i (o.getD i []) = b at *
    generalize srt (o.getD i []) = sl at *
    repeat' (first | refine w1g ?_ | refine w1l ?_ | refine w1q ?_ | refine w1b ?_ | refine w1p ?_ | ((first | refine w1r ?_ | refine w1k ?_ | refine w1e ?_ | refine CallC.now (c94) ?_ | refine CallC.now (c93) ?_ | refine CallC.now (c58) ?_ | refine CallC.now (c92) ?_); (refine sy1 ?_; try exact True.intro)) | refine an2 ?_ | fail)
    refine W_cond (by rfl) (fun hb => ?_) (fun hb => ?_)
    · rw [hon (by simpa using hb), if_neg (by decide)]
      repeat' (first | refine w1g ?_ | refine w1l ?_ | refine w1q ?_ | refine w1b ?_ | refine w1p ?_ | ((first | refine w1r ?_ | refine w1k ?_ | refine w1e ?_); (refine sy1 ?_; try exact True.intro)) | refine an2 ?_ | fail)
      exact W_ret ⟨[_], ⟨rfl, rfl⟩, rfl⟩
    · repeat' (first | refine w1g ?_ | refine w1l ?_ | refine w1q ?_ | refine w1b ?_ | refine w1p ?_ | ((first | refine w1r ?_ | refine w1k ?_ | refine w1e ?_); (refine sy1 ?_; try exact True.intro)) | refine an2 ?_ | fail)
      refine ⟨i + 1, ⟨by omega, hno (by simpa using hb)⟩, by omega, by rfl, ?_⟩
      (refine syE ?_; try exact True.intro)
  · rw [ord_yes (fun k hk => hall k (by omega)), if_pos rfl]
    repeat' (first | refine w1g ?_ | refine w1l ?_ | refine w1q ?_ | refine w1b ?_ | refine w1p ?_ | ((first | refine w1r ?_ | refine w1k ?_ | refine w1e ?_); (refine sy1 ?_; try exact True.intro)) | refine an2 ?_ | fail)
    exact W_ret ⟨[_], ⟨rfl, rfl⟩, rfl⟩
end Go.Proofs.Ytoiohkjomcbadaa

namespace Go.Proofs.Ytoiohkjomcbadaa
open Go Sy
set_option maxRecDepth 100000
set_option maxHeartbeats 4000000
set_option linter.unusedVariables false
set_option linter.unusedSimpArgs false
theorem perm_of {l : List Int} : ∀ {m : List Int}, l.Nodup → (∀ x ∈ l, x ∈ m) → l.length = m.length → l.Perm m := by
  induction l with
  | nil =>
    intro m _ _ h
    have : m = [] := List.length_eq_zero_iff.1 (by simpa using h.symm)
    rw [this]
  | cons x l ih =>
    intro m hn hs hl
    have hx := hs x List.mem_cons_self
    have hn' := List.nodup_cons.1 hn
    refine List.Perm.trans (List.Perm.cons x (ih (m := m.erase x) hn'.2 (fun y hy => ?_) ?_)) (List.perm_cons_erase hx).symm
    · exact (List.mem_erase_of_ne (fun e => hn'.1 (by rw [← e]; exact hy))).2 (hs y (List.mem_cons_of_mem _ hy))
    · rw [List.length_erase_of_mem hx, ← hl]; simp
def goodR (j : Jb) (t : Nat) (l : List Int) (k : Nat) : Bool := decide (0 ≤ gi l k) && decide (gi l k < j.ts.length) && ((gt j.ts (gi l k).toNat).tm == t) && !decide (gi l k ∈ l.take k)
theorem nodup_of {l : List Int} (h : ∀ k, k < l.length → gi l k ∉ l.take k) : l.Nodup := by
  refine List.pairwise_iff_getElem.2 fun i k hi hk hik => ?_
  intro e
  refine h k hk ?_
  have e2 : gi l k = l[k] := by simp [gi, List.getD, List.getElem?_eq_getElem hk]
  rw [e2, ← e]
  have : (l.take k)[i]'(by rw [List.length_take]; omega) = l[i] := List.getElem_take
  rw [← this]
  exact List.getElem_mem _
theorem row_yes {j : Jb} {t : Nat} {l : List Int} (hl : l.length = (memT j t).length) (h : ∀ k, k < l.length → goodR j t l k = true) : rowB j t l = true := by
  rw [rowB_iff]
  have key : ∀ k, k < l.length → (0 ≤ gi l k ∧ gi l k < j.ts.length ∧ (gt j.ts (gi l k).toNat).tm = t) ∧ gi l k ∉ l.take k := fun k hk => by
    have := h k hk
    unfold goodR at this
    simp only [Bool.and_eq_true, decide_eq_true_eq, beq_iff_eq, Bool.not_eq_true', decide_eq_false_iff_not] at this
    exact ⟨⟨this.1.1.1, this.1.1.2, this.1.2⟩, this.2⟩
  refine perm_of (nodup_of fun k hk => (key k hk).2) (fun x hx => ?_) hl
  obtain ⟨k, hk⟩ := List.mem_iff_getElem?.1 hx
  have h1 := (List.getElem?_eq_some_iff.1 hk).1
  have e : gi l k = x := by simp [gi, List.getD, hk]
  have := (key k h1).1
  rw [e] at this
  exact memT_iff.2 ⟨this.1, by omega, this.2.2⟩
theorem row_no {j : Jb} {t : Nat} {l : List Int} {k : Nat} (hk : k < l.length) (h : goodR j t l k = false) : rowB j t l = false := by
  rw [← Bool.not_eq_true, rowB_iff]
  intro hp
  have hm := memT_iff.1 (hp.mem_iff.1 (getD_mem' 0 l k hk))
  have hn : l.Nodup := hp.nodup_iff.2 (memK_nodup j t _)
  have : goodR j t l k = true := by
    unfold goodR
    simp only [Bool.and_eq_true, decide_eq_true_eq, beq_iff_eq, Bool.not_eq_true', decide_eq_false_iff_not]
    refine ⟨⟨⟨hm.1, ?_⟩, hm.2.2⟩, fun hx => ?_⟩
    · have := hm.1
      have := hm.2.1
      show gi l k < _
      have : gi l k = l.getD k 0 := rfl
      omega
    · obtain ⟨i, hi⟩ := List.mem_iff_getElem?.1 hx
      have h1 := (List.getElem?_eq_some_iff.1 hi).1
      rw [List.length_take] at h1
      have h2 : gi l i = gi l k := by
        have := (List.getElem?_eq_some_iff.1 hi).2
        rw [List.getElem_take] at this
        simp only [gi, List.getD, List.getElem?_eq_getElem (show i < l.length by omega), Option.getD_some]
        exact this
      exact nodup_getD hn (by omega) hk h2
  rw [this] at h; cases h
theorem row_short {j : Jb} {t : Nat} {l : List Int} (h : l.length ≠ (memT j t).length) : rowB j t l = false := by
  rw [← Bool.not_eq_true, rowB_iff]
  exact fun hp => h hp.length_eq
theorem fn57 (j : Jb) (t : Int) (h : j.ts.length ≤ 30) : Sy.Fn Try.prog 57 [aJ j, iv t] (iv (memT j t).length) := by
  refine Fn_of_W mixed Xt57 rfl ?_
  repeat' (first | refine w1g ?_ | refine w1l ?_ | refine w1q ?_ | refine w1b ?_ | refine w1p ?_ | ((first | refine w1r ?_ | refine w1k ?_ | refine w1e ?_); (refine sy1 ?_; try exact True.intro)) | refine an2 ?_ | fail)
  refine W_loopU (fun i : Nat => [(5, iv (memK j t i).length), (6, iv i)]) (fun i => []) (fun i => i ≤ j.ts.length) (fun i => j.ts.length - i) 0 (by omega) (by rfl) (by rfl) (fun i hi => ?_)
  have hl := memK_len j t i
  have hs := memK_succ j t i
  have hm : isM j t i = ((gt j.ts i).tm == t) := rfl
  have hgt : j.ts.getD i dTk = gt j.ts i := rfl
  (refine sy1 ?_; try exact True.intro)
  repeat' (first | refine w1g ?_ | refine w1l ?_ | refine w1q ?_ | refine w1b ?_ | refine w1p ?_ | ((first | refine w1r ?_ | refine w1k ?_ | refine w1e ?_); (refine sy1 ?_; try exact True.intro)) | refine an2 ?_ | fail)
  refine W_condD (by rfl) (fun h5 => ?_) (fun h5 => ?_)
  · have hlt : i < j.ts.length := by omega
    rw [hm] at hs
    generalize gt j.ts i = x at hs hgt hm
    repeat' (first | refine w1g ?_ | refine w1l ?_ | refine w1q ?_ | refine w1b ?_ | refine w1p ?_ | ((first | refine w1r ?_ | refine w1k ?_ | refine w1e ?_); simp (maxSteps := 400000) (disch := omega) only [push_cast, ↓reduceIte, reduceCtorEq, Nat.reduceAdd, Nat.reduceSub, Nat.reduceEqDiff, Nat.reduceLeDiff, Nat.reduceLT, Nat.reduceBEq, Nat.reduceDiv, Nat.reduceMod, Nat.reducePow, Nat.reduceMul, Int.reduceToNat, Int.reduceLT, Int.reduceLE, hgt]) | refine an2 ?_ | fail)
    refine W_cond (by rfl) (fun hb => ?_) (fun hb => ?_)
    · rw [hb, if_pos rfl] at hs
      repeat' (first | refine w1g ?_ | refine w1l ?_ | refine w1q ?_ | refine w1b ?_ | refine w1p ?_ | ((first | refine w1r ?_ | refine w1k ?_ | refine w1e ?_); (refine sy1 ?_; try exact True.intro)) | refine an2 ?_ | fail)
      refine ⟨i + 1, by omega, by omega, by rfl, ?_⟩
      rw [hs, List.length_append]
      (refine syE ?_; try exact True.intro)
    · rw [hb, if_neg (by decide), List.append_nil] at hs
      repeat' (first | refine w1g ?_ | refine w1l ?_ | refine w1q ?_ | refine w1b ?_ | refine w1p ?_ | ((first | refine w1r ?_ | refine w1k ?_ | refine w1e ?_); (refine sy1 ?_; try exact True.intro)) | refine an2 ?_ | fail)
      refine ⟨i + 1, by omega, by omega, by rfl, ?_⟩
      rw [hs]
      (refine syE ?_; try exact True.intro)
  · obtain rfl : i = j.ts.length := by omega
    repeat' (first | refine w1g ?_ | refine w1l ?_ | refine w1q ?_ | refine w1b ?_ | refine w1p ?_ | ((first | refine w1r ?_ | refine w1k ?_ | refine w1e ?_); (refine sy1 ?_; try exact True.intro)) | refine an2 ?_ | fail)
    exact W_ret ⟨[_], ⟨rfl, rfl⟩, rfl⟩
theorem fn68 (l : List Int) (x : Int) (hl : l.length ≤ 140737488355328) : Sy.Fn Try.prog 68 [aI l, iv x] (bv (decide (x ∈ l))) := by
  refine Fn_of_W mixed Xt68 rfl ?_
  repeat' (first | refine w1g ?_ | refine w1l ?_ | refine w1q ?_ | refine w1b ?_ | refine w1p ?_ | ((first | refine w1r ?_ | refine w1k ?_ | refine w1e ?_); (refine sy1 ?_; try exact True.intro)) | refine an2 ?_ | fail)
  refine W_loopU (fun i : Nat => [(5, iv i)]) (fun i => []) (fun i => i ≤ l.length ∧ ∀ j, j < i → gi l j ≠ x) (fun i => l.length - i) 0 ⟨by omega, fun j hj => by omega⟩ (by rfl) (by rfl) (fun i hi => ?_)
  obtain ⟨hi, hp⟩ := hi
  (refine sy1 ?_; try exact True.intro)
  repeat' (first | refine w1g ?_ | refine w1l ?_ | refine w1q ?_ | refine w1b ?_ | refine w1p ?_ | ((first | refine w1r ?_ | refine w1k ?_ | refine w1e ?_); (refine sy1 ?_; try exact True.intro)) | refine an2 ?_ | fail)
  refine W_condD (by rfl) (fun h => ?_) (fun h => ?_)
  · have hlt : i < l.length := by omega
    repeat' (first | refine w1g ?_ | refine w1l ?_ | refine w1q ?_ | refine w1b ?_ | refine w1p ?_ | ((first | refine w1r ?_ | refine w1k ?_ | refine w1e ?_); (refine sy1 ?_; try exact True.intro)) | refine an2 ?_ | fail)
    refine W_cond (by rfl) (fun hb => ?_) (fun hb => ?_)
    · have e : x ∈ l := by
        rw [beq_iff_eq] at hb
        rw [← hb]; exact getD_mem' 0 l i hlt
      rw [decide_eq_true e]
      repeat' (first | refine w1g ?_ | refine w1l ?_ | refine w1q ?_ | refine w1b ?_ | refine w1p ?_ | ((first | refine w1r ?_ | refine w1k ?_ | refine w1e ?_); (refine sy1 ?_; try exact True.intro)) | refine an2 ?_ | fail)
      exact W_ret ⟨[_], ⟨rfl, rfl⟩, rfl⟩
    · repeat' (first | refine w1g ?_ | refine w1l ?_ | refine w1q ?_ | refine w1b ?_ | refine w1p ?_ | ((first | refine w1r ?_ | refine w1k ?_ | refine w1e ?_); (refine sy1 ?_; try exact True.intro)) | refine an2 ?_ | fail)
      refine ⟨i + 1, ⟨by omega, up_all hp (by simpa using hb)⟩, by omega, by rfl, ?_⟩
      (refine syE ?_; try exact True.intro)
  · have e : x ∉ l := fun q => by
      obtain ⟨j, hj⟩ := List.mem_iff_getElem?.1 q
      have h1 := (List.getElem?_eq_some_iff.1 hj).1
      exact hp j (by omega) (by simp [gi, List.getD, hj])
    rw [decide_eq_false e]
    repeat' (first | refine w1g ?_ | refine w1l ?_ | refine w1q ?_ | refine w1b ?_ | refine w1p ?_ | ((first | refine w1r ?_ | refine w1k ?_ | refine w1e ?_); (refine sy1 ?_; try exact True.intro)) | refine an2 ?_ | fail)
    exact W_ret ⟨[_], ⟨rfl, rfl⟩, rfl⟩
theorem fn41 (j : Jb) (o : List (List Int)) (h : Gj j) (ho : Go' o) : Sy.Fn Try.prog 41 [aJ j, aO o] (iv (chkO j o)) := by
  refine Fn_of_W mixed Xt41 rfl ?_
  have c17 := fn17 j h
  have hn := ho.n
  have hm := h.m
  have ht := h.t
  have e : chkO j o = if chkJ j = 0 then (if o.length = j.tm.length then (if ordB j o = true then 0 else 2) else 17) else chkJ j := rfl
  generalize chkO j o = E at *
  generalize chkJ j = E1 at *
  repeat' (first | refine w1g ?_ | refine w1l ?_ | refine w1q ?_ | refine w1b ?_ | refine w1p ?_ | ((first | refine w1r ?_ | refine w1k ?_ | refine w1e ?_ | refine CallC.now (c17) ?_); (refine sy1 ?_; try exact True.intro)) | refine an2 ?_ | fail)
  refine W_cond (by rfl) (fun hb => ?_) (fun hb => ?_)
  · rw [if_neg (by simpa using hb)] at e
    rw [e]
    repeat' (first | refine w1g ?_ | refine w1l ?_ | refine w1q ?_ | refine w1b ?_ | refine w1p ?_ | ((first | refine w1r ?_ | refine w1k ?_ | refine w1e ?_); (refine sy1 ?_; try exact True.intro)) | refine an2 ?_ | fail)
    exact W_ret ⟨[_], ⟨rfl, rfl⟩, rfl⟩
  rw [if_pos (by simpa using hb)] at e
  repeat' (first | refine w1g ?_ | refine w1l ?_ | refine w1q ?_ | refine w1b ?_ | refine w1p ?_ | ((first | refine w1r ?_ | refine w1k ?_ | refine w1e ?_); (refine sy1 ?_; try exact True.intro)) | refine an2 ?_ | fail)
  refine W_cond (by rfl) (fun hb => ?_) (fun hb => ?_)
  · rw [if_neg (by have := bne_iff_ne.1 hb; omega)] at e
    rw [e]
    repeat' (first | refine w1g ?_ | refine w1l ?_ | refine w1q ?_ | refine w1b ?_ | refine w1p ?_ | ((first | refine w1r ?_ | refine w1k ?_ | refine w1e ?_); (refine sy1 ?_; try exact True.intro)) | refine an2 ?_ | fail)
    exact W_ret ⟨[_], ⟨rfl, rfl⟩, rfl⟩
  rw [if_pos (by have := bne_eq_false_iff_eq.1 hb; omega)] at e
  rw [e]
  clear hb
  repeat' (first | refine w1g ?_ | refine w1l ?_ | refine w1q ?_ | refine w1b ?_ | refine w1p ?_ | ((first | refine w1r ?_ | refine w1k ?_ | refine w1e ?_); (refine sy1 ?_; try exact True.intro)) | refine an2 ?_ | fail)
  refine W_loopU (fun i : Nat => [(6, iv i)]) (fun i => []) (fun i => i ≤ o.length ∧ ∀ k, k < i → rowB j k (o.getD k []) = true) (fun i => o.length - i) 0 ⟨by omega, fun j hj => by omega⟩ (by rfl) (by rfl) (fun i hi => ?_)
  obtain ⟨hi, hall⟩ := hi
  (refine sy1 ?_; try exact True.intro)
  repeat' (first | refine w1g ?_ | refine w1l ?_ | refine w1q ?_ | refine w1b ?_ | refine w1p ?_ | ((first | refine w1r ?_ | refine w1k ?_ | refine w1e ?_); (refine sy1 ?_; try exact True.intro)) | refine an2 ?_ | fail)
  refine W_condD (by rfl) (fun h5 => ?_) (fun h5 => ?_)
  · have hlt : i < o.length := by omega
    have hr := ho.r i hlt
    have c57 := fn57 j i ht
    have hno := @up_all _ i hall
    have hon := fun q => ord_no (j := j) (o := o) hlt q
    have hrs := fun q => row_short (j := j) (t := i) (l := o.getD i []) q
    have hry := fun q p => row_yes (j := j) (t := i) (l := o.getD i []) q p
    have hrn := fun k (hk : k < (o.getD i []).length) q => row_no (j := j) (t := i) (l := o.getD i []) hk q
    have c68 := fun k x => fn68 ((o.getD i []).take k) x (by rw [List.length_take]; omega)
    have hgr : o.getD i [] = gr o i := rfl
    have hgd : ∀ k, goodR j i (gr o i) k = (decide (0 ≤ gi (gr o i) k) && decide (gi (gr o i) k < j.ts.length) && ((gt j.ts (gi (gr o i) k).toNat).tm == (i : Int)) && !decide (gi (gr o i) k ∈ (gr o i).take k)) := fun _ => rfl
    rw [hgr] at hr hno hon hrs hry hrn c68
    generalize gr o i = R at *
    repeat' (first | refine w1g ?_ | refine w1l ?_ | refine w1q ?_ | refine w1b ?_ | refine w1p ?_ | ((first | refine w1r ?_ | refine w1k ?_ | refine w1e ?_ | refine CallC.now (c57) ?_); simp (maxSteps := 400000) (disch := omega) only [push_cast, ↓reduceIte, reduceCtorEq, Nat.reduceAdd, Nat.reduceSub, Nat.reduceEqDiff, Nat.reduceLeDiff, Nat.reduceLT, Nat.reduceBEq, Nat.reduceDiv, Nat.reduceMod, Nat.reducePow, Nat.reduceMul, Int.reduceToNat, Int.reduceLT, Int.reduceLE, hgr]) | refine an2 ?_ | fail)
    refine W_cond (by rfl) (fun hb => ?_) (fun hb => ?_)
    · rw [hon (hrs (by have := bne_iff_ne.1 hb; omega)), if_neg (by decide)]
      repeat' (first | refine w1g ?_ | refine w1l ?_ | refine w1q ?_ | refine w1b ?_ | refine w1p ?_ | ((first | refine w1r ?_ | refine w1k ?_ | refine w1e ?_); (refine sy1 ?_; try exact True.intro)) | refine an2 ?_ | fail)
      exact W_ret ⟨[_], ⟨rfl, rfl⟩, rfl⟩
    have hlen : R.length = (memT j i).length := by have := bne_eq_false_iff_eq.1 hb; omega
    repeat' (first | refine w1g ?_ | refine w1l ?_ | refine w1q ?_ | refine w1b ?_ | refine w1p ?_ | ((first | refine w1r ?_ | refine w1k ?_ | refine w1e ?_); (refine sy1 ?_; try exact True.intro)) | refine an2 ?_ | fail)
    refine W_loopU (fun k : Nat => [(7, iv k)]) (fun k => []) (fun k => k ≤ R.length ∧ ∀ q, q < k → goodR j i R q = true) (fun k => R.length - k) 0 ⟨by omega, fun j hj => by omega⟩ (by rfl) (by rfl) (fun k hk => ?_)
    obtain ⟨hk, hgo⟩ := hk
    (refine sy1 ?_; try exact True.intro)
    repeat' (first | refine w1g ?_ | refine w1l ?_ | refine w1q ?_ | refine w1b ?_ | refine w1p ?_ | ((first | refine w1r ?_ | refine w1k ?_ | refine w1e ?_); simp (maxSteps := 400000) (disch := omega) only [push_cast, ↓reduceIte, reduceCtorEq, Nat.reduceAdd, Nat.reduceSub, Nat.reduceEqDiff, Nat.reduceLeDiff, Nat.reduceLT, Nat.reduceBEq, Nat.reduceDiv, Nat.reduceMod, Nat.reducePow, Nat.reduceMul, Int.reduceToNat, Int.reduceLT, Int.reduceLE, hgr]) | refine an2 ?_ | fail)
    refine W_condD (by rfl) (fun h6 => ?_) (fun h6 => ?_)
    · have hkl : k < R.length := by omega
      have hrn := hrn k hkl
      have hgd := hgd k
      have hno2 := @up_all _ k hgo
      have c68 := c68 k (gi R k)
      have hgk : R.getD k 0 = gi R k := rfl
      generalize goodR j i R k = G at *
      generalize gi R k = x at *
      have hgt : ∀ k, j.ts.getD k dTk = gt j.ts k := fun _ => rfl
      generalize decide (x ∈ R.take k) = d at *
      repeat' (first | refine w1g ?_ | refine w1l ?_ | refine w1q ?_ | refine w1b ?_ | refine w1p ?_ | ((first | refine w1r ?_ | refine w1k ?_ | refine w1e ?_ | refine CallC.go _ (fun _ => ⟨trivial, c68⟩) rfl ?_); simp (maxSteps := 400000) (disch := omega) only [push_cast, ↓reduceIte, reduceCtorEq, Nat.reduceAdd, Nat.reduceSub, Nat.reduceEqDiff, Nat.reduceLeDiff, Nat.reduceLT, Nat.reduceBEq, Nat.reduceDiv, Nat.reduceMod, Nat.reducePow, Nat.reduceMul, Int.reduceToNat, Int.reduceLT, Int.reduceLE, hgr, hgk, hgt]) | refine an2 ?_ | fail)
      refine W_cond (by rfl) (fun hb => ?_) (fun hb => ?_)
      · have hg : G = false := by
          rw [hgd]
          simp only [Bool.or_eq_true, decide_eq_true_eq, bne_iff_ne] at hb
          cases d
          · simp only [Bool.not_false, Bool.and_true, Bool.and_eq_false_iff, decide_eq_false_iff_not, beq_eq_false_iff_ne]
            simp only [Bool.false_eq_true, or_false] at hb
            rcases hb with (hb | hb) | hb
            · exact .inl (.inl (by omega))
            · exact .inl (.inr (by omega))
            · exact .inr hb
          · simp
        rw [hon (hrn hg), if_neg (by decide)]
        repeat' (first | refine w1g ?_ | refine w1l ?_ | refine w1q ?_ | refine w1b ?_ | refine w1p ?_ | ((first | refine w1r ?_ | refine w1k ?_ | refine w1e ?_); (refine sy1 ?_; try exact True.intro)) | refine an2 ?_ | fail)
        exact W_ret ⟨[_], ⟨rfl, rfl⟩, rfl⟩
      · have hg : G = true := by
          rw [hgd]
          simp only [Bool.or_eq_false_iff, decide_eq_false_iff_not, bne_eq_false_iff_eq] at hb
          simp only [Bool.and_eq_true, decide_eq_true_eq, beq_iff_eq, Bool.not_eq_true']
          exact ⟨⟨⟨by omega, by omega⟩, hb.1.2⟩, hb.2⟩
        repeat' (first | refine w1g ?_ | refine w1l ?_ | refine w1q ?_ | refine w1b ?_ | refine w1p ?_ | ((first | refine w1r ?_ | refine w1k ?_ | refine w1e ?_); (refine sy1 ?_; try exact True.intro)) | refine an2 ?_ | fail)
        refine ⟨k + 1, ⟨by omega, hno2 hg⟩, by omega, by rfl, ?_⟩
        (refine syE ?_; try exact True.intro)
    · rw [show rowB j i R = true from hry hlen (fun q hq => hgo q (by omega))] at hno
      repeat' (first | refine w1g ?_ | refine w1l ?_ | refine w1q ?_ | refine w1b ?_ | refine w1p ?_ | ((first | refine w1r ?_ | refine w1k ?_ | refine w1e ?_); (refine sy1 ?_; try exact True.intro)) | refine an2 ?_ | fail)
      refine ⟨i + 1, ⟨by omega, hno rfl⟩, by omega, by rfl, ?_⟩
      (refine syE ?_; try exact True.intro)
  · rw [ord_yes (fun k hk => hall k (by omega)), if_pos rfl]
    repeat' (first | refine w1g ?_ | refine w1l ?_ | refine w1q ?_ | refine w1b ?_ | refine w1p ?_ | ((first | refine w1r ?_ | refine w1k ?_ | refine w1e ?_); (refine sy1 ?_; try exact True.intro)) | refine an2 ?_ | fail)
    exact W_ret ⟨[_], ⟨rfl, rfl⟩, rfl⟩
def grtB (j : Jb) : Bool := (decide (30 < j.ts.length) || decide (120 < j.af.length) || decide (20 < j.tm.length)) || (j.ts.any fun t => decide (40 < t.ws.length)) || (decide (chkJ j = 0) && decide (8 < j.ts.length))
def widB (o : List (List Int)) : Bool := decide (20 < o.length) || o.any fun l => decide (40 < l.length)
theorem grt_ok {j : Jb} (h : grtB j = false) : Gj j ∧ (chkJ j = 0 → j.ts.length ≤ 8) := by
  unfold grtB at h
  simp only [Bool.or_eq_false_iff, decide_eq_false_iff_not, Bool.and_eq_false_iff] at h
  obtain ⟨⟨⟨⟨h1, h2⟩, h3⟩, h4⟩, h5⟩ := h
  refine ⟨⟨by omega, by omega, by omega, fun i hi => ?_⟩, fun q => ?_⟩
  · have := any_false h4 _ (getD_mem' dTk j.ts i hi)
    rw [decide_eq_false_iff_not] at this
    show (j.ts.getD i dTk).ws.length ≤ 40
    omega
  · rcases h5 with h5 | h5
    · exact absurd q h5
    · omega
theorem wid_ok {o : List (List Int)} (h : widB o = false) : Go' o := by
  unfold widB at h
  simp only [Bool.or_eq_false_iff, decide_eq_false_iff_not] at h
  refine ⟨by omega, fun t ht => ?_⟩
  have := any_false h.2 _ (getD_mem' [] o t ht)
  rw [decide_eq_false_iff_not] at this
  omega
theorem fn23 (o : List (List Int)) (hl : o.length ≤ 140737488355328) : Sy.Fn Try.prog 23 [aO o] (bv (widB o)) := by
  refine Fn_of_W mixed Xt23 rfl ?_
  have e : widB o = (decide ((20 : Int) < o.length) || o.any fun l => decide (40 < l.length)) := by unfold widB; rw [← dec_nat 20]; rfl
  repeat' (first | refine w1g ?_ | refine w1l ?_ | refine w1q ?_ | refine w1b ?_ | refine w1p ?_ | ((first | refine w1r ?_ | refine w1k ?_ | refine w1e ?_); (refine sy1 ?_; try exact True.intro)) | refine an2 ?_ | fail)
  refine W_cond (by rfl) (fun hb => ?_) (fun hb => ?_)
  · rw [e, hb, Bool.true_or]
    repeat' (first | refine w1g ?_ | refine w1l ?_ | refine w1q ?_ | refine w1b ?_ | refine w1p ?_ | ((first | refine w1r ?_ | refine w1k ?_ | refine w1e ?_); (refine sy1 ?_; try exact True.intro)) | refine an2 ?_ | fail)
    exact W_ret ⟨[_], ⟨rfl, rfl⟩, rfl⟩
  rw [hb, Bool.false_or] at e
  rw [e]
  repeat' (first | refine w1g ?_ | refine w1l ?_ | refine w1q ?_ | refine w1b ?_ | refine w1p ?_ | ((first | refine w1r ?_ | refine w1k ?_ | refine w1e ?_); (refine sy1 ?_; try exact True.intro)) | refine an2 ?_ | fail)
  refine W_loopU (fun i : Nat => [(3, iv i)]) (fun i => []) (fun i => i ≤ o.length ∧ ∀ k, k < i → decide (40 < (o.getD k []).length) = false) (fun i => o.length - i) 0 ⟨by omega, fun j hj => by omega⟩ (by rfl) (by rfl) (fun i hi => ?_)
  obtain ⟨hi, hall⟩ := hi
  (refine sy1 ?_; try exact True.intro)
  repeat' (first | refine w1g ?_ | refine w1l ?_ | refine w1q ?_ | refine w1b ?_ | refine w1p ?_ | ((first | refine w1r ?_ | refine w1k ?_ | refine w1e ?_); (refine sy1 ?_; try exact True.intro)) | refine an2 ?_ | fail)
  refine W_condD (by rfl) (fun h5 => ?_) (fun h5 => ?_)
  · have hlt : i < o.length := by omega
    repeat' (first | refine w1g ?_ | refine w1l ?_ | refine w1q ?_ | refine w1b ?_ | refine w1p ?_ | ((first | refine w1r ?_ | refine w1k ?_ | refine w1e ?_); (refine sy1 ?_; try exact True.intro)) | refine an2 ?_ | fail)
    refine W_condD (by rfl) (fun hb => ?_) (fun hb => ?_)
    · rw [any_yes (q := fun l : List Int => decide (40 < l.length)) [] hlt (decide_eq_true (by omega))]
      repeat' (first | refine w1g ?_ | refine w1l ?_ | refine w1q ?_ | refine w1b ?_ | refine w1p ?_ | ((first | refine w1r ?_ | refine w1k ?_ | refine w1e ?_); (refine sy1 ?_; try exact True.intro)) | refine an2 ?_ | fail)
      exact W_ret ⟨[_], ⟨rfl, rfl⟩, rfl⟩
    · repeat' (first | refine w1g ?_ | refine w1l ?_ | refine w1q ?_ | refine w1b ?_ | refine w1p ?_ | ((first | refine w1r ?_ | refine w1k ?_ | refine w1e ?_); (refine sy1 ?_; try exact True.intro)) | refine an2 ?_ | fail)
      refine ⟨i + 1, ⟨by omega, up_all hall (decide_eq_false (by omega))⟩, by omega, by rfl, ?_⟩
      (refine syE ?_; try exact True.intro)
  · rw [any_no (q := fun l : List Int => decide (40 < l.length)) [] (fun k hk => hall k (by omega))]
    repeat' (first | refine w1g ?_ | refine w1l ?_ | refine w1q ?_ | refine w1b ?_ | refine w1p ?_ | ((first | refine w1r ?_ | refine w1k ?_ | refine w1e ?_); (refine sy1 ?_; try exact True.intro)) | refine an2 ?_ | fail)
    exact W_ret ⟨[_], ⟨rfl, rfl⟩, rfl⟩
theorem fn16 (j : Jb) (h1 : j.ts.length ≤ 140737488355328) : Sy.Fn Try.prog 16 [aJ j] (bv (grtB j)) := by
  refine Fn_of_W mixed Xt16 rfl ?_
  have e : grtB j = ((decide ((30 : Int) < j.ts.length) || decide ((120 : Int) < j.af.length) || decide ((20 : Int) < j.tm.length)) || (j.ts.any fun t => decide (40 < t.ws.length)) || (decide (chkJ j = 0) && decide (8 < j.ts.length))) := by
    unfold grtB; rw [← dec_nat 30, ← dec_nat 120, ← dec_nat 20]; rfl
  repeat' (first | refine w1g ?_ | refine w1l ?_ | refine w1q ?_ | refine w1b ?_ | refine w1p ?_ | ((first | refine w1r ?_ | refine w1k ?_ | refine w1e ?_); (refine sy1 ?_; try exact True.intro)) | refine an2 ?_ | fail)
  refine W_cond (by rfl) (fun hb => ?_) (fun hb => ?_)
  · rw [e, hb, Bool.true_or, Bool.true_or]
    repeat' (first | refine w1g ?_ | refine w1l ?_ | refine w1q ?_ | refine w1b ?_ | refine w1p ?_ | ((first | refine w1r ?_ | refine w1k ?_ | refine w1e ?_); (refine sy1 ?_; try exact True.intro)) | refine an2 ?_ | fail)
    exact W_ret ⟨[_], ⟨rfl, rfl⟩, rfl⟩
  rw [hb, Bool.false_or] at e
  rw [e]
  repeat' (first | refine w1g ?_ | refine w1l ?_ | refine w1q ?_ | refine w1b ?_ | refine w1p ?_ | ((first | refine w1r ?_ | refine w1k ?_ | refine w1e ?_); (refine sy1 ?_; try exact True.intro)) | refine an2 ?_ | fail)
  refine W_loopU (fun i : Nat => [(3, iv i)]) (fun i => []) (fun i => i ≤ j.ts.length ∧ ∀ k, k < i → decide (40 < (j.ts.getD k dTk).ws.length) = false) (fun i => j.ts.length - i) 0 ⟨by omega, fun j hj => by omega⟩ (by rfl) (by rfl) (fun i hi => ?_)
  obtain ⟨hi, hall⟩ := hi
  (refine sy1 ?_; try exact True.intro)
  repeat' (first | refine w1g ?_ | refine w1l ?_ | refine w1q ?_ | refine w1b ?_ | refine w1p ?_ | ((first | refine w1r ?_ | refine w1k ?_ | refine w1e ?_); (refine sy1 ?_; try exact True.intro)) | refine an2 ?_ | fail)
  refine W_condD (by rfl) (fun h5 => ?_) (fun h5 => ?_)
  · have hlt : i < j.ts.length := by omega
    repeat' (first | refine w1g ?_ | refine w1l ?_ | refine w1q ?_ | refine w1b ?_ | refine w1p ?_ | ((first | refine w1r ?_ | refine w1k ?_ | refine w1e ?_); (refine sy1 ?_; try exact True.intro)) | refine an2 ?_ | fail)
    refine W_condD (by rfl) (fun hb => ?_) (fun hb => ?_)
    · rw [any_yes (q := fun t : Tk => decide (40 < t.ws.length)) dTk hlt (decide_eq_true (by omega)), Bool.true_or]
      repeat' (first | refine w1g ?_ | refine w1l ?_ | refine w1q ?_ | refine w1b ?_ | refine w1p ?_ | ((first | refine w1r ?_ | refine w1k ?_ | refine w1e ?_); (refine sy1 ?_; try exact True.intro)) | refine an2 ?_ | fail)
      exact W_ret ⟨[_], ⟨rfl, rfl⟩, rfl⟩
    · repeat' (first | refine w1g ?_ | refine w1l ?_ | refine w1q ?_ | refine w1b ?_ | refine w1p ?_ | ((first | refine w1r ?_ | refine w1k ?_ | refine w1e ?_); (refine sy1 ?_; try exact True.intro)) | refine an2 ?_ | fail)
      refine ⟨i + 1, ⟨by omega, up_all hall (decide_eq_false (by omega))⟩, by omega, by rfl, ?_⟩
      (refine syE ?_; try exact True.intro)
  · rw [any_no (q := fun t : Tk => decide (40 < t.ws.length)) dTk (fun k hk => hall k (by omega)), Bool.false_or]
    simp only [Bool.or_eq_false_iff, decide_eq_false_iff_not] at hb
    have c17 := fn17 j ⟨by omega, by omega, by omega, fun k hk => by
      have := hall k (by omega)
      rw [decide_eq_false_iff_not] at this
      show (j.ts.getD k dTk).ws.length ≤ 40
      omega⟩
    have e1 : decide (chkJ j = 0) = (chkJ j == 0) := rfl
    rw [e1, show decide (8 < j.ts.length) = decide ((8 : Int) < j.ts.length) from (dec_nat 8 _).symm]
    generalize chkJ j = E at *
    repeat' (first | refine w1g ?_ | refine w1l ?_ | refine w1q ?_ | refine w1b ?_ | refine w1p ?_ | ((first | refine w1r ?_ | refine w1k ?_ | refine w1e ?_ | refine CallC.now (c17) ?_); (refine sy1 ?_; try exact True.intro)) | refine an2 ?_ | fail)
    exact W_ret ⟨[_], ⟨rfl, rfl⟩, rfl⟩
def valB (j : Jb) (o : List (List Int)) : Bool := !grtB j && !widB o && decide (chkO j o = 0)
theorem fn12 (j : Jb) (o : List (List Int)) (h1 : j.ts.length ≤ 140737488355328) (h2 : o.length ≤ 140737488355328) : Sy.Fn Try.prog 12 [aJ j, aO o] (bv (valB j o)) := by
  refine Fn_of_W mixed Xt12 rfl ?_
  have c16 := fn16 j h1
  have c23 := fn23 o h2
  have e : valB j o = (!grtB j && !widB o && (chkO j o == 0)) := rfl
  cases hg : grtB j
  · cases hw : widB o
    · have c41 := fn41 j o (grt_ok hg).1 (wid_ok hw)
      rw [hg] at c16 e
      rw [hw] at c23 e
      rw [e]
      generalize chkO j o = E at *
      repeat' (first | refine w1g ?_ | refine w1l ?_ | refine w1q ?_ | refine w1b ?_ | refine w1p ?_ | ((first | refine w1r ?_ | refine w1k ?_ | refine w1e ?_ | refine CallC.now (c16) ?_ | refine CallC.go _ (fun _ => ⟨trivial, c23⟩) rfl ?_ | refine CallC.go _ (fun _ => ⟨trivial, c41⟩) rfl ?_); (refine sy1 ?_; try exact True.intro)) | refine an2 ?_ | fail)
      exact W_ret ⟨[_], ⟨rfl, rfl⟩, rfl⟩
    · rw [hg] at c16 e
      rw [hw] at c23 e
      rw [e]
      repeat' (first | refine w1g ?_ | refine w1l ?_ | refine w1q ?_ | refine w1b ?_ | refine w1p ?_ | ((first | refine w1r ?_ | refine w1k ?_ | refine w1e ?_ | refine CallC.now (c16) ?_ | refine CallC.go _ (fun _ => ⟨trivial, c23⟩) rfl ?_); (refine sy1 ?_; try exact True.intro)) | refine an2 ?_ | (refine CallC.go (iv 0) (fun hpc => absurd hpc (by simp [pc])) rfl ?_; (refine sy1 ?_; try exact True.intro)) | fail)
      exact W_ret ⟨[_], ⟨rfl, rfl⟩, rfl⟩
  · rw [hg] at c16 e
    rw [e]
    repeat' (first | refine w1g ?_ | refine w1l ?_ | refine w1q ?_ | refine w1b ?_ | refine w1p ?_ | ((first | refine w1r ?_ | refine w1k ?_ | refine w1e ?_ | refine CallC.now (c16) ?_); (refine sy1 ?_; try exact True.intro)) | refine an2 ?_ | fail)
    refine CallC.go (bv false) (fun hpc => absurd hpc (by simp [pc])) rfl ?_
    (refine sy1 ?_; try exact True.intro)
    refine CallC.go (iv 0) (fun hpc => absurd hpc (by simp [pc])) rfl ?_
    (refine sy1 ?_; try exact True.intro)
    repeat' (first | refine w1g ?_ | refine w1l ?_ | refine w1q ?_ | refine w1b ?_ | refine w1p ?_ | ((first | refine w1r ?_ | refine w1k ?_ | refine w1e ?_); (refine sy1 ?_; try exact True.intro)) | refine an2 ?_ | fail)
    exact W_ret ⟨[_], ⟨rfl, rfl⟩, rfl⟩
end Go.Proofs.Ytoiohkjomcbadaa

namespace Go.Proofs.Ytoiohkjomcbadaa
open Go Sy
set_option maxRecDepth 100000
set_option maxHeartbeats 4000000
set_option linter.unusedVariables false
set_option linter.unusedSimpArgs false
theorem fo103 (l : List Af) (hl : l.length ≤ 1000000) : FnO Try.prog 103 [aA l] 39 3 dAf cA l := by
  refine FnO_of_W mixed Xt103 rfl (fun x _ => rfl) ?_
  repeat (first | refine WK_go ?_ | refine W_seqL ?_ | refine W_seq ?_ | refine W_block ?_)
  refine W_regL ?_
  (refine sy1 ?_; try exact True.intro)
  repeat (first | refine WK_go ?_ | refine W_seqL ?_ | refine W_seq ?_ | refine W_block ?_)
  refine W_regX [1] ?_
  simp (maxSteps := 400000) (disch := omega) only [push_cast, ↓reduceIte, reduceCtorEq, Nat.reduceAdd, Nat.reduceSub, Nat.reduceEqDiff, Nat.reduceLeDiff, Nat.reduceLT, Nat.reduceBEq, Nat.reduceDiv, Nat.reduceMod, Nat.reducePow, Nat.reduceMul, Int.reduceToNat, Int.reduceLT, Int.reduceLE, chainX, SpM, List.take_succ_cons, List.take_zero, List.drop_succ_cons, List.drop_zero]
  refine ⟨[], rfl, 3, Af, dAf, cA, l, rfl, fun b hb => ?_⟩
  (refine sy1 ?_; try exact True.intro)
  cases b
  · refine W_cond (by rfl) (fun h => by cases h) (fun _ => ?_)
    repeat' (first | refine w1g ?_ | refine w1l ?_ | refine w1q ?_ | refine w1b ?_ | refine w1p ?_ | ((first | refine w1r ?_ | refine w1k ?_ | refine w1e ?_); (refine sy1 ?_; try exact True.intro)) | refine an2 ?_ | fail)
    refine ⟨rfl, trivial, Af, dAf, cA, [], rfl, by omega, fun x _ => ⟨rfl, rfl⟩, rfl, ?_⟩
    (refine sy1 ?_; try exact True.intro)
    refine ⟨rfl, ⟨Nat.le_of_ble_eq_true rfl, rfl⟩, trivial, l, rfl, by first | omega | (simp; omega), by first | omega | (simp; omega), ?_⟩
    (refine sy1 ?_; try exact True.intro)
    exact W_ret ⟨_, _, ⟨rfl, rfl⟩, rfl⟩
  · refine W_cond (by rfl) (fun _ => ?_) (fun h => by cases h)
    have e : l = [] := by
      cases l with
      | nil => rfl
      | cons x r => have := hb (by simp); cases this
    subst e
    repeat' (first | refine w1g ?_ | refine w1l ?_ | refine w1q ?_ | refine w1b ?_ | refine w1p ?_ | ((first | refine w1r ?_ | refine w1k ?_ | refine w1e ?_); (refine sy1 ?_; try exact True.intro)) | refine an2 ?_ | fail)
    refine W_le (le_adopt 2 39 3 dAf cA (by omega) rfl) ?_
    (refine sy1 ?_; try exact True.intro)
    exact W_ret ⟨_, _, ⟨rfl, rfl⟩, rfl⟩
theorem fo130 (l : List Int) (hl : l.length ≤ 1000000) : FnO Try.prog 130 [aI l] 3 1 0 cI l := by
  refine FnO_of_W mixed Xt130 rfl (fun x _ => rfl) ?_
  repeat (first | refine WK_go ?_ | refine W_seqL ?_ | refine W_seq ?_ | refine W_block ?_)
  refine W_regL ?_
  (refine sy1 ?_; try exact True.intro)
  repeat (first | refine WK_go ?_ | refine W_seqL ?_ | refine W_seq ?_ | refine W_block ?_)
  refine W_regX [1] ?_
  simp (maxSteps := 400000) (disch := omega) only [push_cast, ↓reduceIte, reduceCtorEq, Nat.reduceAdd, Nat.reduceSub, Nat.reduceEqDiff, Nat.reduceLeDiff, Nat.reduceLT, Nat.reduceBEq, Nat.reduceDiv, Nat.reduceMod, Nat.reducePow, Nat.reduceMul, Int.reduceToNat, Int.reduceLT, Int.reduceLE, chainX, SpM, List.take_succ_cons, List.take_zero, List.drop_succ_cons, List.drop_zero]
  refine ⟨[], rfl, 1, Int, 0, cI, l, rfl, fun b hb => ?_⟩
  (refine sy1 ?_; try exact True.intro)
  cases b
  · refine W_cond (by rfl) (fun h => by cases h) (fun _ => ?_)
    repeat' (first | refine w1g ?_ | refine w1l ?_ | refine w1q ?_ | refine w1b ?_ | refine w1p ?_ | ((first | refine w1r ?_ | refine w1k ?_ | refine w1e ?_); (refine sy1 ?_; try exact True.intro)) | refine an2 ?_ | fail)
    refine ⟨rfl, trivial, Int, 0, cI, [], rfl, by omega, fun x _ => ⟨rfl, rfl⟩, rfl, ?_⟩
    (refine sy1 ?_; try exact True.intro)
    refine ⟨rfl, ⟨Nat.le_of_ble_eq_true rfl, rfl⟩, trivial, l, rfl, by first | omega | (simp; omega), by first | omega | (simp; omega), ?_⟩
    (refine sy1 ?_; try exact True.intro)
    exact W_ret ⟨_, _, ⟨rfl, rfl⟩, rfl⟩
  · refine W_cond (by rfl) (fun _ => ?_) (fun h => by cases h)
    have e : l = [] := by
      cases l with
      | nil => rfl
      | cons x r => have := hb (by simp); cases this
    subst e
    repeat' (first | refine w1g ?_ | refine w1l ?_ | refine w1q ?_ | refine w1b ?_ | refine w1p ?_ | ((first | refine w1r ?_ | refine w1k ?_ | refine w1e ?_); (refine sy1 ?_; try exact True.intro)) | refine an2 ?_ | fail)
    refine W_le (le_adopt 2 3 1 0 cI (by omega) rfl) ?_
    (refine sy1 ?_; try exact True.intro)
    exact W_ret ⟨_, _, ⟨rfl, rfl⟩, rfl⟩
theorem w52 (j : Jb) (o : List (List Int)) (h : OkO j o) : W Try.prog 56 Xn52_0 (init [aJ j, aO o]) (FinO [.t 4] 39 3 dAf cA (lks j o)) := by
  have c103 := fo103 j.af (by have := h.na; omega)
  have ho := h.len
  have ht := h.nt
  have hn := h.n
  repeat' (first | refine w1g ?_ | refine w1l ?_ | refine w1q ?_ | refine w1b ?_ | refine w1p ?_ | ((first | refine w1r ?_ | refine w1k ?_ | refine w1e ?_); (refine sy1 ?_; try exact True.intro)) | refine an2 ?_ | (refine CallC.inl (Inl_of_FnO c103 (by rfl) ?_); (refine sy1 ?_; try exact True.intro)) | fail)
  refine W_loopU (fun u : Nat × Nat => [(5, .row 4 u.2), (14, iv u.1)]) (fun u => [(4, .row u.2 39 3 dAf cA (lksK j o u.1))]) (fun u => u.1 ≤ o.length) (fun u => o.length - u.1) (0, 0) (by omega) (by rfl) (by rw [lksK_zero]; rfl) (fun u hi => ?_)
  obtain ⟨i, st⟩ := u
  dsimp only at hi ⊢
  (refine sy1 ?_; try exact True.intro)
  repeat' (first | refine w1g ?_ | refine w1l ?_ | refine w1q ?_ | refine w1b ?_ | refine w1p ?_ | ((first | refine w1r ?_ | refine w1k ?_ | refine w1e ?_); (refine sy1 ?_; try exact True.intro)) | refine an2 ?_ | fail)
  refine W_condD (by rfl) (fun h5 => ?_) (fun h5 => ?_)
  · have hlt : i < o.length := by omega
    have hrl := row_len h hlt
    have hrat := fun k hk => row_at h hlt (i := k) hk
    have hkl := lksK_len h i hi
    have hsu := lksK_succ j o i
    have hrA : ∀ k, rowA j o i k = ⟨gi (gr o i) k, gi (gr o i) (k + 1), (gt j.ts (gi (gr o i) k).toNat).mi + gi j.tm i⟩ := fun _ => rfl
    have hrs := fun k => rowK_succ j o i k
    have hrkl := fun k => rowK_len j o i k
    have hgr : o.getD i [] = gr o i := rfl
    have hr0 : rowK j o i 0 = [] := rfl
    have htm := h.m _ (getD_mem' 0 j.tm i (by omega))
    have htk : ∀ k, k < (gr o i).length → 0 ≤ (gt j.ts (gi (gr o i) k).toNat).mi ∧ (gt j.ts (gi (gr o i) k).toNat).mi ≤ 10080 := fun k hk => by
      have := (h.t _ (hrat k hk).2.1).1
      exact ⟨this.1, this.2.1⟩
    generalize gr o i = R at *
    generalize rowK j o i = RK at *
    generalize hL : lksK j o i = LL at *
    repeat' (first | refine w1g ?_ | refine w1l ?_ | refine w1q ?_ | refine w1b ?_ | refine w1p ?_ | ((first | refine w1r ?_ | refine w1k ?_ | refine w1e ?_); simp (maxSteps := 400000) (disch := omega) only [push_cast, ↓reduceIte, reduceCtorEq, Nat.reduceAdd, Nat.reduceSub, Nat.reduceEqDiff, Nat.reduceLeDiff, Nat.reduceLT, Nat.reduceBEq, Nat.reduceDiv, Nat.reduceMod, Nat.reducePow, Nat.reduceMul, Int.reduceToNat, Int.reduceLT, Int.reduceLE, hgr]) | refine an2 ?_ | fail)
    refine W_loopU (fun v : Nat × Nat => [(5, .row 4 v.2), (8, iv ((v.1 : Int) + 1))]) (fun v => [(4, .row v.2 39 3 dAf cA (LL ++ RK v.1))]) (fun v => v.1 ≤ R.length - 1) (fun v => R.length - v.1) (0, st) (by dsimp only; omega) (by rfl) (by dsimp only; rw [hr0, List.append_nil]; rfl) (fun v hk => ?_)
    obtain ⟨k, st2⟩ := v
    dsimp only at hk ⊢
    (refine sy1 ?_; try exact True.intro)
    repeat' (first | refine w1g ?_ | refine w1l ?_ | refine w1q ?_ | refine w1b ?_ | refine w1p ?_ | ((first | refine w1r ?_ | refine w1k ?_ | refine w1e ?_); (refine sy1 ?_; try exact True.intro)) | refine an2 ?_ | fail)
    refine W_condD (by rfl) (fun h6 => ?_) (fun h6 => ?_)
    · have hkl2 : k + 1 < R.length := by omega
      obtain ⟨a1, a2, a3⟩ := hrat k (by omega)
      obtain ⟨b1, b2, b3⟩ := hrat (k + 1) (by omega)
      have htk := htk k (by omega)
      have hrA := hrA k
      have hrs := hrs k
      have hrkl := hrkl k
      have hgk : R.getD k 0 = gi R k := rfl
      have hgk1 : R.getD (k + 1) 0 = gi R (k + 1) := rfl
      have hgt : ∀ k, j.ts.getD k dTk = gt j.ts k := fun _ => rfl
      have hgm : j.tm.getD i 0 = gi j.tm i := rfl
      have e1 : ((k : Int) + 1).toNat = k + 1 := by omega
      rw [hgm] at htm
      generalize gi R k = x at *
      generalize gi R (k + 1) = y at *
      generalize gi j.tm i = z at *
      have e2 : ((k : Int) + 1 - 1).toNat = k := by omega
      obtain ⟨T, hT⟩ : ∃ T, gt j.ts x.toNat = T := ⟨_, rfl⟩
      rw [hT] at hrA a3 htk
      repeat' (first | refine w1g ?_ | refine w1l ?_ | refine w1q ?_ | refine w1b ?_ | refine w1p ?_ | ((first | refine w1r ?_ | refine w1k ?_ | refine w1e ?_); simp (maxSteps := 400000) (disch := omega) only [push_cast, ↓reduceIte, reduceCtorEq, Nat.reduceAdd, Nat.reduceSub, Nat.reduceEqDiff, Nat.reduceLeDiff, Nat.reduceLT, Nat.reduceBEq, Nat.reduceDiv, Nat.reduceMod, Nat.reducePow, Nat.reduceMul, Int.reduceToNat, Int.reduceLT, Int.reduceLE, hgk, hgk1, hgt, hgm, e1, e2, hT]) | refine an2 ?_ | fail)
      refine ⟨rfl, trivial, Af, dAf, cA, [⟨x, y, T.mi + z⟩], rfl, by omega, fun x _ => ⟨rfl, rfl⟩, rfl, ?_⟩
      (refine sy1 ?_; try exact True.intro)
      refine ⟨rfl, ⟨Nat.le_of_ble_eq_true rfl, rfl⟩, trivial, [⟨x, y, T.mi + z⟩], rfl, by first | omega | (simp; omega), by first | omega | (simp; omega), ?_⟩
      (refine sy1 ?_; try exact True.intro)
      repeat' (first | refine w1g ?_ | refine w1l ?_ | refine w1q ?_ | refine w1b ?_ | refine w1p ?_ | ((first | refine w1r ?_ | refine w1k ?_ | refine w1e ?_); (refine sy1 ?_; try exact True.intro)) | refine an2 ?_ | fail)
      refine ⟨(k + 1, st2 + 1), by dsimp only; omega, by dsimp only; omega, by rfl, ?_⟩
      dsimp only
      rw [hrs, hrA, ← List.append_assoc]
      (refine syE ?_; try exact True.intro)
    · obtain rfl : k = R.length - 1 := by omega
      repeat' (first | refine w1g ?_ | refine w1l ?_ | refine w1q ?_ | refine w1b ?_ | refine w1p ?_ | ((first | refine w1r ?_ | refine w1k ?_ | refine w1e ?_); (refine sy1 ?_; try exact True.intro)) | refine an2 ?_ | fail)
      refine ⟨(i + 1, st2), by dsimp only; omega, by dsimp only; omega, by rfl, ?_⟩
      dsimp only
      rw [hsu]
      (refine syE ?_; try exact True.intro)
  · obtain rfl : i = o.length := by omega
    repeat' (first | refine w1g ?_ | refine w1l ?_ | refine w1q ?_ | refine w1b ?_ | refine w1p ?_ | ((first | refine w1r ?_ | refine w1k ?_ | refine w1e ?_); (refine sy1 ?_; try exact True.intro)) | refine an2 ?_ | fail)
    exact W_ret ⟨_, _, ⟨rfl, rfl⟩, rfl⟩
theorem fn52 (j : Jb) (o : List (List Int)) (h : OkO j o) : Sy.Fn Try.prog 52 [aJ j, aO o] (aA (lks j o)) := Fn_of_W mixed Xt52 rfl (W_mono' (w52 j o h) fin_of_finO)
end Go.Proofs.Ytoiohkjomcbadaa

namespace Go.Proofs.Ytoiohkjomcbadaa
open Go Sy
set_option linter.unusedVariables false
def wfB (mi a : Int) (w : Wn) : Bool := inR a w.f (w.t - mi)
def fitB (mi a : Int) (l : List Wn) : Bool := l.any (wfB mi a)
theorem fitB_iff {mi a : Int} {l : List Wn} : fitB mi a l = true ↔ fitW mi a l := by
  unfold fitB fitW
  rw [List.any_eq_true]
  constructor
  · rintro ⟨w, hw, h⟩
    unfold wfB at h
    rw [inR_iff] at h
    exact ⟨w, hw, h.1, by omega⟩
  · rintro ⟨w, hw, h1, h2⟩
    refine ⟨w, hw, ?_⟩
    unfold wfB
    rw [inR_iff]; omega
def sOk (x : Int) : Bool := inR x 0 1099511627776
def stE (j : Jb) (l : List Int) : Int := if l.length = j.ts.length then (if (l.any fun x => !sOk x) = true then 3 else 0) else 17
def fstI (p : Nat → Bool) (n : Nat) : Int := idxF p (List.range n) 0
theorem getD_range {n i : Nat} (h : i < n) : (List.range n).getD i 0 = i := by
  simp [List.getD, h]
theorem fstI_at {p : Nat → Bool} {n i : Nat} (hi : i < n) (hj : ∀ j, j < i → p j = false) (h : p i = true) : fstI p n = i := by
  unfold fstI
  rw [idxF_at p 0 (List.range n) i 0 (by simpa using hi) (fun j hlt => by rw [getD_range (by omega)]; exact hj j hlt) (by rw [getD_range hi]; exact h)]
  omega
theorem fstI_none {p : Nat → Bool} {n : Nat} (h : ∀ j, j < n → p j = false) : fstI p n = -1 := by
  unfold fstI
  exact idxF_none p 0 _ 0 (fun j hj => by rw [List.length_range] at hj; rw [getD_range hj]; exact h j hj)
theorem fstI_cases (p : Nat → Bool) (n : Nat) : (fstI p n = -1 ∧ ∀ j, j < n → p j = false) ∨ ∃ i, i < n ∧ fstI p n = (i : Int) ∧ p i = true := by
  rcases Classical.em (∃ i, i < n ∧ p i = true) with ⟨i, h1, h2⟩ | h
  · obtain ⟨k, ⟨h3, h4⟩, h5⟩ := min_ex (P := fun i => i < n ∧ p i = true) i ⟨h1, h2⟩
    refine .inr ⟨k, h3, fstI_at h3 (fun j hj => ?_) h4, h4⟩
    rw [← Bool.not_eq_true]
    intro q
    have := h5 j ⟨by omega, q⟩
    omega
  · have h' : ∀ j, j < n → p j = false := fun j hj => by rw [← Bool.not_eq_true]; exact fun q => h ⟨j, hj, q⟩
    exact .inl ⟨fstI_none h', h'⟩
def unP (j : Jb) (l : List Int) (i : Nat) : Bool := !fitB (gt j.ts i).mi (gi l i) (gt j.ts i).ws
def unF (j : Jb) (l : List Int) : Int := fstI (unP j l) j.ts.length
def bkP (l : List Int) (a : Af) : Bool := decide (gi l a.b.toNat < gi l a.a.toNat + a.g)
def bkF (ls : List Af) (l : List Int) : Int := idxF (bkP l) ls 0
def cpE (j : Jb) (o : List (List Int)) (l : List Int) : Int :=
  if chkO j o = 0 then (if stE j l = 0 then (if 0 ≤ unF j l then 21 else if 0 ≤ bkF (lks j o) l then 16 else 0) else stE j l) else chkO j o
def cpI (j : Jb) (o : List (List Int)) (l : List Int) : Int :=
  if chkO j o = 0 then (if stE j l = 0 then (if 0 ≤ unF j l then unF j l else if 0 ≤ bkF (lks j o) l then bkF (lks j o) l else 0) else 0) else 0
theorem stE_ok {j : Jb} {l : List Int} (h : stE j l = 0) : l.length = j.ts.length ∧ ∀ i, i < l.length → 0 ≤ gi l i ∧ gi l i ≤ 1099511627776 := by
  unfold stE at h
  by_cases q : l.length = j.ts.length
  · rw [if_pos q] at h
    refine ⟨q, fun i hi => ?_⟩
    by_cases q2 : (l.any fun x => !sOk x) = true
    · rw [if_pos q2] at h; omega
    · rw [Bool.not_eq_true] at q2
      have := any_false q2 _ (getD_mem' 0 l i hi)
      rw [Bool.not_eq_false'] at this
      unfold sOk at this
      rwa [inR_iff] at this
  · rw [if_neg q] at h; omega
theorem stE_good {j : Jb} {l : List Int} (hl : l.length = j.ts.length) (h : ∀ i, i < l.length → 0 ≤ gi l i ∧ gi l i ≤ 1099511627776) : stE j l = 0 := by
  unfold stE
  rw [if_pos hl, if_neg]
  rw [Bool.not_eq_true, any_no 0 (fun i hi => ?_)]
  show (!sOk (l.getD i 0)) = false
  rw [Bool.not_eq_false']
  unfold sOk
  rw [inR_iff]
  exact h i hi
theorem cpE_iff {j : Jb} {o : List (List Int)} {l : List Int} (ho : chkO j o = 0) : cpE j o l = 0 ↔ l.length = j.ts.length ∧ Rgt j.ts (lks j o) (gi l) := by
  have hO := (chkO_ok ho).1
  have hfl : ∀ i, i < j.ts.length → fitW (gt j.ts i).mi (gi l i) (gt j.ts i).ws → 0 ≤ gi l i ∧ gi l i ≤ 1099511627776 := fun i hi hf => by
    have hk := (hO.t i hi).1
    refine ⟨?_, fit_le hk.2.2 hk.1 hf⟩
    obtain ⟨w, hw, h1, h2⟩ := hf
    have := hk.2.2.all w hw
    omega
  unfold cpE
  rw [if_pos ho]
  constructor
  · intro h
    by_cases hs : stE j l = 0
    · rw [if_pos hs] at h
      obtain ⟨hl, hr⟩ := stE_ok hs
      by_cases hu : 0 ≤ unF j l
      · rw [if_pos hu] at h; omega
      rw [if_neg hu] at h
      by_cases hb : 0 ≤ bkF (lks j o) l
      · rw [if_pos hb] at h; omega
      refine ⟨hl, fun i hi => ?_, fun e he => ?_⟩
      · rcases fstI_cases (unP j l) j.ts.length with ⟨_, h2⟩ | ⟨k, _, h3, _⟩
        · have := h2 i hi
          unfold unP at this
          rw [Bool.not_eq_false'] at this
          exact fitB_iff.1 this
        · unfold unF at hu; omega
      · have h1 := idxF_any (bkP l) (lks j o) 0 (by omega)
        have h2 : (lks j o).any (bkP l) = false := by
          rw [← h1, decide_eq_false_iff_not]; exact hb
        have := any_false h2 e he
        unfold bkP at this
        rw [decide_eq_false_iff_not] at this
        omega
    · rw [if_neg hs] at h; exact absurd h hs
  · rintro ⟨hl, hf, hb⟩
    rw [if_pos (stE_good hl fun i hi => hfl i (by omega) (hf i (by omega)))]
    have h1 : unF j l = -1 := fstI_none fun i hi => by
      unfold unP
      rw [Bool.not_eq_false']
      exact fitB_iff.2 (hf i hi)
    rw [h1, if_neg (by omega)]
    have h2 : bkF (lks j o) l = -1 := idxF_none _ dAf _ _ fun i hi => by
      unfold bkP
      rw [decide_eq_false_iff_not]
      have := hb _ (getD_mem' dAf _ i hi)
      omega
    rw [h2, if_neg (by omega)]
end Go.Proofs.Ytoiohkjomcbadaa

namespace Go.Proofs.Ytoiohkjomcbadaa
open Go Sy
set_option linter.unusedVariables false
theorem ext_getD {α : Type} (d : α) {a b : List α} (hl : a.length = b.length) (h : ∀ i, i < a.length → a.getD i d = b.getD i d) : a = b := by
  apply List.ext_getElem hl
  intro i h1 h2
  have := h i h1
  simpa [List.getD, List.getElem?_eq_getElem h1, List.getElem?_eq_getElem h2] using this
theorem getD_set' {α : Type} (d : α) (l : List α) (i k : Nat) (x : α) (hi : i < l.length) : (l.set i x).getD k d = if i = k then x else l.getD k d := by
  simp only [List.getD, List.getElem?_set]
  by_cases q : i = k
  · rw [if_pos q, if_pos q, if_pos hi]; rfl
  · rw [if_neg q, if_neg q]
def lsF (n : Nat) (f : Nat → Int) : List Int := (List.range n).map f
theorem lsF_len (n : Nat) (f : Nat → Int) : (lsF n f).length = n := by unfold lsF; rw [List.length_map, List.length_range]
theorem lsF_get {n i : Nat} {f : Nat → Int} (h : i < n) : gi (lsF n f) i = f i := by
  simp [gi, lsF, List.getD, h]
theorem lsF_set {n i : Nat} {f : Nat → Int} {x : Int} (h : i < n) : (lsF n f).set i x = lsF n (putF f i x) := by
  refine ext_getD 0 (by rw [List.length_set, lsF_len, lsF_len]) fun k hk => ?_
  rw [List.length_set, lsF_len] at hk
  rw [getD_set' 0 _ _ _ _ (by rw [lsF_len]; exact h)]
  show _ = gi (lsF n (putF f i x)) k
  rw [lsF_get hk]
  show (if i = k then x else gi (lsF n f) k) = _
  rw [lsF_get hk]
  unfold putF
  by_cases q : i = k
  · rw [if_pos q, if_pos q.symm]
  · rw [if_neg q, if_neg (Ne.symm q)]
theorem lsF_rep (n : Nat) (x : Int) : List.replicate n x = lsF n fun _ => x := by
  unfold lsF
  rw [List.map_const', List.length_range]
theorem lsF_congr {n : Nat} {f g : Nat → Int} (h : ∀ i, i < n → f i = g i) : lsF n f = lsF n g := by
  unfold lsF
  exact List.map_congr_left fun i hi => h i (List.mem_range.1 hi)
def rvL {α : Type} (d : α) (l : List α) (k : Nat) : List α := (List.range l.length).map fun i => if i < k ∨ l.length - k ≤ i then l.getD (l.length - 1 - i) d else l.getD i d
theorem rvL_len {α : Type} (d : α) (l : List α) (k : Nat) : (rvL d l k).length = l.length := by unfold rvL; rw [List.length_map, List.length_range]
theorem rvL_get {α : Type} {d : α} {l : List α} {k i : Nat} (h : i < l.length) : (rvL d l k).getD i d = if i < k ∨ l.length - k ≤ i then l.getD (l.length - 1 - i) d else l.getD i d := by
  unfold rvL
  simp [List.getD, h]
theorem rvL_zero {α : Type} (d : α) (l : List α) : rvL d l 0 = l := by
  refine ext_getD d (rvL_len d l 0) fun i hi => ?_
  rw [rvL_len] at hi
  rw [rvL_get hi, if_neg (by omega)]
theorem rvL_step {α : Type} {d : α} {l : List α} {k : Nat} (h : k + 1 < l.length - k) : ((rvL d l k).set k ((rvL d l k).getD (l.length - 1 - k) d)).set (l.length - 1 - k) ((rvL d l k).getD k d) = rvL d l (k + 1) := by
  have hl := rvL_len d l k
  refine ext_getD d (by rw [List.length_set, List.length_set, rvL_len, rvL_len]) fun i hi => ?_
  rw [List.length_set, List.length_set, hl] at hi
  rw [getD_set' d _ _ _ _ (by rw [List.length_set, hl]; omega), getD_set' d _ _ _ _ (by rw [hl]; omega), rvL_get hi, rvL_get (by omega), rvL_get (by omega), rvL_get hi]
  by_cases q1 : l.length - 1 - k = i
  · subst q1
    rw [if_pos rfl, if_neg (by omega), if_pos (by omega)]
    congr 1; omega
  · rw [if_neg q1]
    by_cases q2 : k = i
    · subst q2
      rw [if_pos rfl, if_neg (by omega), if_pos (by omega)]
    · rw [if_neg q2]
      by_cases q3 : i < k ∨ l.length - k ≤ i
      · rw [if_pos q3, if_pos (by omega)]
      · rw [if_neg q3, if_neg (by omega)]
theorem rvL_all {α : Type} {d : α} {l : List α} {k : Nat} (h : l.length ≤ 2 * k + 1) : rvL d l k = l.reverse := by
  refine ext_getD d (by rw [rvL_len, List.length_reverse]) fun i hi => ?_
  rw [rvL_len] at hi
  rw [rvL_get hi]
  have e : l.reverse.getD i d = l.getD (l.length - 1 - i) d := by
    simp only [List.getD, List.getElem?_reverse hi]
  rw [e]
  by_cases q : i < k ∨ l.length - k ≤ i
  · rw [if_pos q]
  · rw [if_neg q]
    congr 1; omega
theorem bst_rng {s : Bs} {e : Lk} {C : Int} (h : ∀ i, 0 ≤ s.far i ∧ s.far i ≤ C) (hg : e.g ≤ 1058656) : ∀ i, 0 ≤ (bst s e).far i ∧ (bst s e).far i ≤ C + 1058656 := by
  intro i
  have := h i
  unfold bst
  split
  · rename_i q
    dsimp only
    unfold putF
    have := h e.a
    have := h e.b
    split <;> omega
  · omega
theorem bfo_rng : ∀ (ls : List Lk) (s : Bs) (C : Int), (∀ i, 0 ≤ s.far i ∧ s.far i ≤ C) → (∀ e ∈ ls, e.g ≤ 1058656) → ∀ i, 0 ≤ (ls.foldl bst s).far i ∧ (ls.foldl bst s).far i ≤ C + (ls.length : Int) * 1058656
  | [], s, C, h, _ => fun i => by have := h i; simp only [List.foldl_nil, List.length_nil]; omega
  | e :: ls, s, C, h, hg => fun i => by
    have h1 := bst_rng h (hg e List.mem_cons_self)
    have h2 := bfo_rng ls (bst s e) (C + 1058656) h1 (fun x hx => hg x (List.mem_cons_of_mem _ hx)) i
    rw [List.foldl_cons, List.length_cons]
    omega
theorem brs_rng {ls : List Lk} (hg : ∀ e ∈ ls, e.g ≤ 1058656) : ∀ (k : Nat) (i : Nat), 0 ≤ (brs ls k).far i ∧ (brs ls k).far i ≤ (k : Int) * ((ls.length : Int) * 1058656)
  | 0, i => by show 0 ≤ (0 : Int) ∧ (0 : Int) ≤ _; omega
  | k + 1, i => by
    have h := bfo_rng ls { brs ls k with last := -1 } _ (fun i => brs_rng hg k i) hg i
    have e : ((k + 1 : Nat) : Int) * ((ls.length : Int) * 1058656) = (k : Int) * ((ls.length : Int) * 1058656) + (ls.length : Int) * 1058656 := by
      rw [Int.natCast_add, Int.add_mul]; simp
    rw [e]
    exact h
def bsK (ls : List Lk) (r j : Nat) : Bs := (ls.take j).foldl bst { brs ls r with last := -1 }
theorem bsK_zero (ls : List Lk) (r : Nat) : bsK ls r 0 = { brs ls r with last := -1 } := rfl
theorem bsK_all (ls : List Lk) (r : Nat) : bsK ls r ls.length = brs ls (r + 1) := by unfold bsK; rw [List.take_length]; rfl
theorem take_snoc {α : Type} (d : α) (l : List α) (i : Nat) (h : i < l.length) : l.take (i + 1) = l.take i ++ [l.getD i d] := by
  rw [List.take_add_one, List.getD]
  simp [List.getElem?_eq_getElem h]
def dLk : Lk := ⟨0, 0, 0⟩
theorem bsK_succ {ls : List Lk} {r j : Nat} (h : j < ls.length) : bsK ls r (j + 1) = bst (bsK ls r j) (ls.getD j dLk) := by
  unfold bsK
  rw [take_snoc dLk ls j h, List.foldl_append]; rfl
theorem bsK_rng {ls : List Lk} (hg : ∀ e ∈ ls, e.g ≤ 1058656) {r j : Nat} (hj : j ≤ ls.length) (i : Nat) : 0 ≤ (bsK ls r j).far i ∧ (bsK ls r j).far i ≤ ((r : Int) + 1) * ((ls.length : Int) * 1058656) := by
  have h := bfo_rng (ls.take j) { brs ls r with last := -1 } _ (fun i => brs_rng hg r i) (fun e he => hg e (List.mem_of_mem_take he)) i
  rw [List.length_take, Nat.min_eq_left hj] at h
  have e : ((r : Int) + 1) * ((ls.length : Int) * 1058656) = (r : Int) * ((ls.length : Int) * 1058656) + (ls.length : Int) * 1058656 := by
    rw [Int.add_mul]; simp
  rw [e]
  have h' : 0 ≤ (bsK ls r j).far i ∧ (bsK ls r j).far i ≤ (r : Int) * ((ls.length : Int) * 1058656) + (j : Int) * 1058656 := h
  omega
theorem bsK_by {n : Nat} {ls : List Lk} (hn : ∀ e ∈ ls, e.a < n ∧ e.b < n) (h0 : 0 < n) (r j : Nat) : ∀ i, i < n → (bsK ls r j).by' i < n :=
  bfo_by (ls.take j) _ (fun e he => hn e (List.mem_of_mem_take he)) (brs_by hn h0 r)
theorem bsK_last {n : Nat} {ls : List Lk} (hn : ∀ e ∈ ls, e.a < n ∧ e.b < n) (r j : Nat) : -1 ≤ (bsK ls r j).last ∧ (bsK ls r j).last < n := by
  obtain ⟨h1, h2, _⟩ := bfo_last (n := n) (ls.take j) { brs ls r with last := -1 } (fun e he => hn e (List.mem_of_mem_take he)) ⟨by dsimp only; omega, by dsimp only; omega⟩
  exact ⟨h1, h2⟩
theorem lkL_get {ls : List Af} {i : Nat} (h : i < ls.length) : (lkL ls).getD i dLk = lkO (ls.getD i dAf) := by
  simp [lkL, List.getD, h]
end Go.Proofs.Ytoiohkjomcbadaa

namespace Go.Proofs.Ytoiohkjomcbadaa
open Go Sy
set_option maxRecDepth 100000
set_option maxHeartbeats 4000000
set_option linter.unusedVariables false
set_option linter.unusedSimpArgs false
theorem fn119 (mi a : Int) (w : Wn) (h : -1099511627776 ≤ w.t ∧ w.t ≤ 1099511627776) (hm : 0 ≤ mi ∧ mi ≤ 10080) : Sy.Fn Try.prog 119 [.agg (cN w), .fp [iv a] 0, .fp [iv mi] 0] (bv (wfB mi a w)) := by
  refine Fn_of_W mixed Xt119 rfl ?_
  repeat' (first | refine w1g ?_ | refine w1l ?_ | refine w1q ?_ | refine w1b ?_ | refine w1p ?_ | ((first | refine w1r ?_ | refine w1k ?_ | refine w1e ?_ | refine CallC.now (fn87 _ _ _) ?_); (refine sy1 ?_; try exact True.intro)) | refine an2 ?_ | fail)
  exact W_ret ⟨[_], ⟨rfl, rfl⟩, rfl⟩
theorem fn75 (l : List Wn) (mi a : Int) (hl : l.length ≤ 140737488355328) (hw : WnOk 0 l) (hm : 0 ≤ mi ∧ mi ≤ 10080) : Sy.Fn Try.prog 75 [aN l, iv mi, iv a] (bv (fitB mi a l)) := by
  refine Fn_of_W mixed Xt75 rfl ?_
  have c118 := fn118 l hl 119 [] [.fp [iv a] 0, .fp [iv mi] 0] (wfB mi a) (fun w hx => fn119 mi a w (by have := hw.all w hx; omega) hm)
  repeat' (first | refine w1g ?_ | refine w1l ?_ | refine w1q ?_ | refine w1b ?_ | refine w1p ?_ | ((first | refine w1r ?_ | refine w1k ?_ | refine w1e ?_ | refine CallC.now (c118) ?_); (refine sy1 ?_; try exact True.intro)) | refine an2 ?_ | fail)
  exact W_ret ⟨[_], ⟨rfl, rfl⟩, rfl⟩
theorem fn102 (x : Int) : Sy.Fn Try.prog 102 [iv x] (bv (!sOk x)) := by
  refine Fn_of_W mixed Xt102 rfl ?_
  repeat' (first | refine w1g ?_ | refine w1l ?_ | refine w1q ?_ | refine w1b ?_ | refine w1p ?_ | ((first | refine w1r ?_ | refine w1k ?_ | refine w1e ?_ | refine CallC.now (fn87 _ _ _) ?_); (refine sy1 ?_; try exact True.intro)) | refine an2 ?_ | fail)
  exact W_ret ⟨[_], ⟨rfl, rfl⟩, rfl⟩
theorem fn51 (j : Jb) (l : List Int) (hl : l.length ≤ 1000000) (hj : j.ts.length ≤ 1000000) : Sy.Fn Try.prog 51 [aJ j, aI l] (iv (stE j l)) := by
  refine Fn_of_W mixed Xt51 rfl ?_
  have c91 := fn91 l (by omega) 102 [] [] (fun x => !sOk x) (fun x _ => fn102 x)
  have e : stE j l = if l.length = j.ts.length then (if (l.any fun x => !sOk x) = true then 3 else 0) else 17 := rfl
  generalize (l.any fun x => !sOk x) = b at *
  rw [e]
  repeat' (first | refine w1g ?_ | refine w1l ?_ | refine w1q ?_ | refine w1b ?_ | refine w1p ?_ | ((first | refine w1r ?_ | refine w1k ?_ | refine w1e ?_); (refine sy1 ?_; try exact True.intro)) | refine an2 ?_ | fail)
  refine W_cond (by rfl) (fun hb => ?_) (fun hb => ?_)
  · rw [if_neg (by have := bne_iff_ne.1 hb; omega)]
    repeat' (first | refine w1g ?_ | refine w1l ?_ | refine w1q ?_ | refine w1b ?_ | refine w1p ?_ | ((first | refine w1r ?_ | refine w1k ?_ | refine w1e ?_); (refine sy1 ?_; try exact True.intro)) | refine an2 ?_ | fail)
    exact W_ret ⟨[_], ⟨rfl, rfl⟩, rfl⟩
  rw [if_pos (by have := bne_eq_false_iff_eq.1 hb; omega)]
  repeat' (first | refine w1g ?_ | refine w1l ?_ | refine w1q ?_ | refine w1b ?_ | refine w1p ?_ | ((first | refine w1r ?_ | refine w1k ?_ | refine w1e ?_ | refine CallC.now (c91) ?_); (refine sy1 ?_; try exact True.intro)) | refine an2 ?_ | fail)
  refine W_cond (by rfl) (fun hb => ?_) (fun hb => ?_)
  · rw [if_pos hb]
    repeat' (first | refine w1g ?_ | refine w1l ?_ | refine w1q ?_ | refine w1b ?_ | refine w1p ?_ | ((first | refine w1r ?_ | refine w1k ?_ | refine w1e ?_); (refine sy1 ?_; try exact True.intro)) | refine an2 ?_ | fail)
    exact W_ret ⟨[_], ⟨rfl, rfl⟩, rfl⟩
  · rw [hb, if_neg (by decide)]
    repeat' (first | refine w1g ?_ | refine w1l ?_ | refine w1q ?_ | refine w1b ?_ | refine w1p ?_ | ((first | refine w1r ?_ | refine w1k ?_ | refine w1e ?_); (refine sy1 ?_; try exact True.intro)) | refine an2 ?_ | fail)
    exact W_ret ⟨[_], ⟨rfl, rfl⟩, rfl⟩
def cP (j : Jb) (ls : List Af) (l : List Int) : List AV := [aT j.ts, aA j.af, aI j.tm, aA ls, aI l]
theorem fn53 (j : Jb) (ls : List Af) (l : List Int) (h : OkJ j) (hl : l.length = j.ts.length) : Sy.Fn Try.prog 53 [.agg (cP j ls l)] (iv (unF j l)) := by
  refine Fn_of_W mixed Xt53 rfl ?_
  have hn := h.n
  repeat' (first | refine w1g ?_ | refine w1l ?_ | refine w1q ?_ | refine w1b ?_ | refine w1p ?_ | ((first | refine w1r ?_ | refine w1k ?_ | refine w1e ?_); simp (maxSteps := 400000) (disch := omega) only [push_cast, ↓reduceIte, reduceCtorEq, Nat.reduceAdd, Nat.reduceSub, Nat.reduceEqDiff, Nat.reduceLeDiff, Nat.reduceLT, Nat.reduceBEq, Nat.reduceDiv, Nat.reduceMod, Nat.reducePow, Nat.reduceMul, Int.reduceToNat, Int.reduceLT, Int.reduceLE, cP]) | refine an2 ?_ | fail)
  refine W_loopU (fun i : Nat => [(9, iv i)]) (fun i => []) (fun i => i ≤ j.ts.length ∧ ∀ k, k < i → unP j l k = false) (fun i => j.ts.length - i) 0 ⟨by omega, fun j hj => by omega⟩ (by rfl) (by rfl) (fun i hi => ?_)
  obtain ⟨hi, hall⟩ := hi
  (refine sy1 ?_; try exact True.intro)
  repeat' (first | refine w1g ?_ | refine w1l ?_ | refine w1q ?_ | refine w1b ?_ | refine w1p ?_ | ((first | refine w1r ?_ | refine w1k ?_ | refine w1e ?_); (refine sy1 ?_; try exact True.intro)) | refine an2 ?_ | fail)
  refine W_condD (by rfl) (fun h5 => ?_) (fun h5 => ?_)
  · have hlt : i < j.ts.length := by omega
    have hno := @up_all _ i hall
    have hys := fun q => fstI_at (p := unP j l) hlt hall q
    have hu : unP j l i = !fitB (gt j.ts i).mi (gi l i) (gt j.ts i).ws := rfl
    have hgt : j.ts.getD i dTk = gt j.ts i := rfl
    have hgl : l.getD i 0 = gi l i := rfl
    have hw := h.w i hlt
    obtain ⟨hk, _⟩ := h.t i hlt
    have c75 := fn75 (gt j.ts i).ws (gt j.ts i).mi (gi l i) (by omega) hk.2.2 ⟨hk.1, hk.2.1⟩
    generalize gt j.ts i = x at *
    generalize gi l i = y at *
    generalize fitB x.mi y x.ws = b at *
    repeat' (first | refine w1g ?_ | refine w1l ?_ | refine w1q ?_ | refine w1b ?_ | refine w1p ?_ | ((first | refine w1r ?_ | refine w1k ?_ | refine w1e ?_ | refine CallC.now (c75) ?_); simp (maxSteps := 400000) (disch := omega) only [push_cast, ↓reduceIte, reduceCtorEq, Nat.reduceAdd, Nat.reduceSub, Nat.reduceEqDiff, Nat.reduceLeDiff, Nat.reduceLT, Nat.reduceBEq, Nat.reduceDiv, Nat.reduceMod, Nat.reducePow, Nat.reduceMul, Int.reduceToNat, Int.reduceLT, Int.reduceLE, hgt, hgl]) | refine an2 ?_ | fail)
    rw [← hu]
    refine W_cond (by rfl) (fun hb => ?_) (fun hb => ?_)
    · rw [show unF j l = (i : Int) from hys hb]
      repeat' (first | refine w1g ?_ | refine w1l ?_ | refine w1q ?_ | refine w1b ?_ | refine w1p ?_ | ((first | refine w1r ?_ | refine w1k ?_ | refine w1e ?_); (refine sy1 ?_; try exact True.intro)) | refine an2 ?_ | fail)
      exact W_ret ⟨[_], ⟨rfl, rfl⟩, rfl⟩
    · repeat' (first | refine w1g ?_ | refine w1l ?_ | refine w1q ?_ | refine w1b ?_ | refine w1p ?_ | ((first | refine w1r ?_ | refine w1k ?_ | refine w1e ?_); (refine sy1 ?_; try exact True.intro)) | refine an2 ?_ | fail)
      refine ⟨i + 1, ⟨by omega, hno hb⟩, by omega, by rfl, ?_⟩
      (refine syE ?_; try exact True.intro)
  · rw [show unF j l = -1 from fstI_none (fun k hk => hall k (by omega))]
    repeat' (first | refine w1g ?_ | refine w1l ?_ | refine w1q ?_ | refine w1b ?_ | refine w1p ?_ | ((first | refine w1r ?_ | refine w1k ?_ | refine w1e ?_); (refine sy1 ?_; try exact True.intro)) | refine an2 ?_ | fail)
    exact W_ret ⟨[_], ⟨rfl, rfl⟩, rfl⟩
def LkOk (n : Nat) (e : Af) : Prop := 0 ≤ e.a ∧ e.a < n ∧ 0 ≤ e.b ∧ e.b < n ∧ -1048576 ≤ e.g ∧ e.g ≤ 1058656
theorem fn105 (j : Jb) (ls : List Af) (l : List Int) (e : Af) (he : LkOk l.length e) (hr : ∀ i, i < l.length → 0 ≤ gi l i ∧ gi l i ≤ 1099511627776) : Sy.Fn Try.prog 105 [.agg (cA e), .fp (cP j ls l) 0] (bv (bkP l e)) := by
  refine Fn_of_W mixed Xt105 rfl ?_
  obtain ⟨h1, h2, h3, h4, h5, h6⟩ := he
  have ha := hr e.a.toNat (by omega)
  have hb := hr e.b.toNat (by omega)
  have hga : l.getD e.a.toNat 0 = gi l e.a.toNat := rfl
  have hgb : l.getD e.b.toNat 0 = gi l e.b.toNat := rfl
  have hk : bkP l e = decide (gi l e.b.toNat < gi l e.a.toNat + e.g) := rfl
  generalize gi l e.a.toNat = x at *
  generalize gi l e.b.toNat = y at *
  repeat' (first | refine w1g ?_ | refine w1l ?_ | refine w1q ?_ | refine w1b ?_ | refine w1p ?_ | ((first | refine w1r ?_ | refine w1k ?_ | refine w1e ?_); simp (maxSteps := 400000) (disch := omega) only [push_cast, ↓reduceIte, reduceCtorEq, Nat.reduceAdd, Nat.reduceSub, Nat.reduceEqDiff, Nat.reduceLeDiff, Nat.reduceLT, Nat.reduceBEq, Nat.reduceDiv, Nat.reduceMod, Nat.reducePow, Nat.reduceMul, Int.reduceToNat, Int.reduceLT, Int.reduceLE, cP, hga, hgb]) | refine an2 ?_ | fail)
  rw [hk]
  exact W_ret ⟨[_], ⟨rfl, rfl⟩, rfl⟩
theorem fn54 (j : Jb) (ls : List Af) (l : List Int) (hs : ls.length ≤ 1000000) (he : ∀ e ∈ ls, LkOk l.length e) (hr : ∀ i, i < l.length → 0 ≤ gi l i ∧ gi l i ≤ 1099511627776) : Sy.Fn Try.prog 54 [.agg (cP j ls l)] (iv (bkF ls l)) := by
  refine Fn_of_W mixed Xt54 rfl ?_
  have c104 := fn104 ls (by omega) 105 [] [.fp (cP j ls l) 0] (bkP l) (fun e hm => fn105 j ls l e (he e hm) hr)
  have e1 : cP j ls l = [aT j.ts, aA j.af, aI j.tm, aA ls, aI l] := rfl
  rw [e1] at c104
  repeat' (first | refine w1g ?_ | refine w1l ?_ | refine w1q ?_ | refine w1b ?_ | refine w1p ?_ | ((first | refine w1r ?_ | refine w1k ?_ | refine w1e ?_ | refine CallC.now (c104) ?_); simp (maxSteps := 400000) (disch := omega) only [push_cast, ↓reduceIte, reduceCtorEq, Nat.reduceAdd, Nat.reduceSub, Nat.reduceEqDiff, Nat.reduceLeDiff, Nat.reduceLT, Nat.reduceBEq, Nat.reduceDiv, Nat.reduceMod, Nat.reducePow, Nat.reduceMul, Int.reduceToNat, Int.reduceLT, Int.reduceLE, cP]) | refine an2 ?_ | fail)
  exact W_ret ⟨[_], ⟨rfl, rfl⟩, rfl⟩
theorem lks_lk {j : Jb} {o : List (List Int)} (h : OkO j o) {l : List Int} (hl : l.length = j.ts.length) : ∀ e ∈ lks j o, LkOk l.length e := fun e he => by
  obtain ⟨h1, h2, h3, h4, h5, h6, h7⟩ := lks_ok h e he
  exact ⟨h1, by omega, h3, by omega, h6, h7⟩
def cKd (k : Nat) : List AV := [.clo (if k = 0 then 53 else 54) [] [], iv (if k = 0 then 21 else 16)]
theorem lKd (k : Nat) : (cKd k).length = 2 := rfl
theorem frKd (k : Nat) : frzAll (cKd k) = true := rfl
theorem tKd (k : Nat) : List.take 2 (cKd k) = cKd k := rfl
attribute [push_cast] lKd frKd tKd
theorem fn15 (j : Jb) (o : List (List Int)) (l : List Int) (h : Gj j) (ho : Go' o) (hl : l.length ≤ 1000000) : Sy.Fn Try.prog 15 [aJ j, aO o, aI l] (.tup [iv (cpI j o l), iv (cpE j o l)]) := by
  refine Fn_of_W mixed Xt15 rfl ?_
  have c40 := fn40 j o h ho
  have ht := h.t
  have c51 := fn51 j l hl (by omega)
  by_cases h0 : chkO j o = 0
  rotate_left
  · have e1 : cpE j o l = chkO j o := by unfold cpE; rw [if_neg h0]
    have e2 : cpI j o l = 0 := by unfold cpI; rw [if_neg h0]
    rw [e1, e2]
    generalize chkO j o = E at *
    repeat' (first | refine w1g ?_ | refine w1l ?_ | refine w1q ?_ | refine w1b ?_ | refine w1p ?_ | ((first | refine w1r ?_ | refine w1k ?_ | refine w1e ?_ | refine CallC.now (c40) ?_); (refine sy1 ?_; try exact True.intro)) | refine an2 ?_ | fail)
    refine W_cond (by rfl) (fun _ => ?_) (fun h => absurd (by simpa using h) h0)
    repeat' (first | refine w1g ?_ | refine w1l ?_ | refine w1q ?_ | refine w1b ?_ | refine w1p ?_ | ((first | refine w1r ?_ | refine w1k ?_ | refine w1e ?_); (refine sy1 ?_; try exact True.intro)) | refine an2 ?_ | fail)
    exact W_ret ⟨[_, _], ⟨rfl, rfl, rfl⟩, rfl⟩
  by_cases h1 : stE j l = 0
  rotate_left
  · have e1 : cpE j o l = stE j l := by unfold cpE; rw [if_pos h0, if_neg h1]
    have e2 : cpI j o l = 0 := by unfold cpI; rw [if_pos h0, if_neg h1]
    rw [e1, e2]
    rw [h0] at c40
    generalize stE j l = E at *
    repeat' (first | refine w1g ?_ | refine w1l ?_ | refine w1q ?_ | refine w1b ?_ | refine w1p ?_ | ((first | refine w1r ?_ | refine w1k ?_ | refine w1e ?_ | refine CallC.now (c40) ?_); (refine sy1 ?_; try exact True.intro)) | refine an2 ?_ | fail)
    refine W_cond (by rfl) (fun h => by cases h) (fun _ => ?_)
    repeat' (first | refine w1g ?_ | refine w1l ?_ | refine w1q ?_ | refine w1b ?_ | refine w1p ?_ | ((first | refine w1r ?_ | refine w1k ?_ | refine w1e ?_ | refine CallC.now (c51) ?_); (refine sy1 ?_; try exact True.intro)) | refine an2 ?_ | fail)
    refine W_cond (by rfl) (fun _ => ?_) (fun h => absurd (by simpa using h) h1)
    repeat' (first | refine w1g ?_ | refine w1l ?_ | refine w1q ?_ | refine w1b ?_ | refine w1p ?_ | ((first | refine w1r ?_ | refine w1k ?_ | refine w1e ?_); (refine sy1 ?_; try exact True.intro)) | refine an2 ?_ | fail)
    exact W_ret ⟨[_, _], ⟨rfl, rfl, rfl⟩, rfl⟩
  have hO := (chkO_ok h0).1
  obtain ⟨hll, hlr⟩ := stE_ok h1
  have e1 : cpE j o l = if 0 ≤ unF j l then 21 else if 0 ≤ bkF (lks j o) l then 16 else 0 := by unfold cpE; rw [if_pos h0, if_pos h1]
  have e2 : cpI j o l = if 0 ≤ unF j l then unF j l else if 0 ≤ bkF (lks j o) l then bkF (lks j o) l else 0 := by unfold cpI; rw [if_pos h0, if_pos h1]
  have c52 := fn52 j o hO
  have c53 := fn53 j (lks j o) l hO.toOkJ hll
  have c54 := fn54 j (lks j o) l (by have := lks_len hO; omega) (lks_lk hO hll) hlr
  rw [h0] at c40
  rw [h1] at c51
  rw [e1, e2]
  have e3 : cP j (lks j o) l = [aT j.ts, aA j.af, aI j.tm, aA (lks j o), aI l] := rfl
  rw [e3] at c53 c54
  clear hlr e1 e2 e3
  generalize unF j l = U at *
  generalize bkF (lks j o) l = V at *
  repeat' (first | refine w1g ?_ | refine w1l ?_ | refine w1q ?_ | refine w1b ?_ | refine w1p ?_ | ((first | refine w1r ?_ | refine w1k ?_ | refine w1e ?_ | refine CallC.now (c40) ?_); (refine sy1 ?_; try exact True.intro)) | refine an2 ?_ | fail)
  refine W_cond (by rfl) (fun h => by cases h) (fun _ => ?_)
  repeat' (first | refine w1g ?_ | refine w1l ?_ | refine w1q ?_ | refine w1b ?_ | refine w1p ?_ | ((first | refine w1r ?_ | refine w1k ?_ | refine w1e ?_ | refine CallC.now (c51) ?_); (refine sy1 ?_; try exact True.intro)) | refine an2 ?_ | fail)
  refine W_cond (by rfl) (fun h => by cases h) (fun _ => ?_)
  have hcJ : cJ j = [aT j.ts, aA j.af, aI j.tm] := rfl
  repeat' (first | refine w1g ?_ | refine w1l ?_ | refine w1q ?_ | refine w1b ?_ | refine w1p ?_ | ((first | refine w1r ?_ | refine w1k ?_ | refine w1e ?_ | refine CallC.now (c52) ?_); simp (maxSteps := 400000) (disch := omega) only [push_cast, ↓reduceIte, reduceCtorEq, Nat.reduceAdd, Nat.reduceSub, Nat.reduceEqDiff, Nat.reduceLeDiff, Nat.reduceLT, Nat.reduceBEq, Nat.reduceDiv, Nat.reduceMod, Nat.reducePow, Nat.reduceMul, Int.reduceToNat, Int.reduceLT, Int.reduceLE, hcJ, List.cons_append, List.nil_append, List.append_nil, List.take_succ_cons, List.take_zero, List.drop_succ_cons, List.drop_zero, List.drop_nil, List.length_cons, List.length_nil]) | refine an2 ?_ | fail)
  refine ⟨rfl, trivial, Nat, 0, cKd, [0, 1], rfl, by omega, fun x _ => ⟨rfl, rfl⟩, rfl, ?_⟩
  (refine sy1 ?_; try exact True.intro)
  repeat' (first | refine w1g ?_ | refine w1l ?_ | refine w1q ?_ | refine w1b ?_ | refine w1p ?_ | ((first | refine w1r ?_ | refine w1k ?_ | refine w1e ?_); (refine sy1 ?_; try exact True.intro)) | refine an2 ?_ | fail)
  have k0 : cKd 0 = [.clo 53 [] [], iv 21] := rfl
  have k1 : cKd 1 = [.clo 54 [] [], iv 16] := rfl
  have g0 : [0, 1].getD 0 0 = 0 := rfl
  have g1 : [0, 1].getD 1 0 = 1 := rfl
  refine W_loopU (fun k : Nat => [(36, iv k)]) (fun k => []) (fun k => k ≤ 2 ∧ (1 ≤ k → U < 0) ∧ (2 ≤ k → V < 0)) (fun k => 2 - k) 0 ⟨by omega, by omega, by omega⟩ (by rfl) (by rfl) (fun k hk => ?_)
  obtain ⟨hk, hU, hV⟩ := hk
  (refine sy1 ?_; try exact True.intro)
  repeat' (first | refine w1g ?_ | refine w1l ?_ | refine w1q ?_ | refine w1b ?_ | refine w1p ?_ | ((first | refine w1r ?_ | refine w1k ?_ | refine w1e ?_); (refine sy1 ?_; try exact True.intro)) | refine an2 ?_ | fail)
  refine W_condD (by rfl) (fun h5 => ?_) (fun h5 => ?_)
  · have hk2 : k = 0 ∨ k = 1 := by omega
    rcases hk2 with rfl | rfl
    · repeat' (first | refine w1g ?_ | refine w1l ?_ | refine w1q ?_ | refine w1b ?_ | refine w1p ?_ | ((first | refine w1r ?_ | refine w1k ?_ | refine w1e ?_ | refine CallC.now (c53) ?_); simp (maxSteps := 400000) (disch := omega) only [push_cast, ↓reduceIte, reduceCtorEq, Nat.reduceAdd, Nat.reduceSub, Nat.reduceEqDiff, Nat.reduceLeDiff, Nat.reduceLT, Nat.reduceBEq, Nat.reduceDiv, Nat.reduceMod, Nat.reducePow, Nat.reduceMul, Int.reduceToNat, Int.reduceLT, Int.reduceLE, k0, g0, List.length_cons, List.length_nil]) | refine an2 ?_ | fail)
      refine W_condD (by rfl) (fun hb => ?_) (fun hb => ?_)
      · rw [if_pos hb, if_pos hb]
        repeat' (first | refine w1g ?_ | refine w1l ?_ | refine w1q ?_ | refine w1b ?_ | refine w1p ?_ | ((first | refine w1r ?_ | refine w1k ?_ | refine w1e ?_); (refine sy1 ?_; try exact True.intro)) | refine an2 ?_ | fail)
        exact W_ret ⟨[_, _], ⟨rfl, rfl, rfl⟩, rfl⟩
      · repeat' (first | refine w1g ?_ | refine w1l ?_ | refine w1q ?_ | refine w1b ?_ | refine w1p ?_ | ((first | refine w1r ?_ | refine w1k ?_ | refine w1e ?_); (refine sy1 ?_; try exact True.intro)) | refine an2 ?_ | fail)
        refine ⟨1, ⟨by omega, by omega, by omega⟩, by omega, by rfl, ?_⟩
        (refine syE ?_; try exact True.intro)
    · have z1 : ((0 : Int) + 1).toNat = 1 := rfl
      repeat' (first | refine w1g ?_ | refine w1l ?_ | refine w1q ?_ | refine w1b ?_ | refine w1p ?_ | ((first | refine w1r ?_ | refine w1k ?_ | refine w1e ?_ | refine CallC.now (c54) ?_); simp (maxSteps := 400000) (disch := omega) only [push_cast, ↓reduceIte, reduceCtorEq, Nat.reduceAdd, Nat.reduceSub, Nat.reduceEqDiff, Nat.reduceLeDiff, Nat.reduceLT, Nat.reduceBEq, Nat.reduceDiv, Nat.reduceMod, Nat.reducePow, Nat.reduceMul, Int.reduceToNat, Int.reduceLT, Int.reduceLE, k1, g1, z1, List.length_cons, List.length_nil]) | refine an2 ?_ | fail)
      simp only [if_neg (show ¬ 0 ≤ U by omega)]
      refine W_condD (by rfl) (fun hb => ?_) (fun hb => ?_)
      · rw [if_pos hb, if_pos hb]
        repeat' (first | refine w1g ?_ | refine w1l ?_ | refine w1q ?_ | refine w1b ?_ | refine w1p ?_ | ((first | refine w1r ?_ | refine w1k ?_ | refine w1e ?_); (refine sy1 ?_; try exact True.intro)) | refine an2 ?_ | fail)
        exact W_ret ⟨[_, _], ⟨rfl, rfl, rfl⟩, rfl⟩
      · repeat' (first | refine w1g ?_ | refine w1l ?_ | refine w1q ?_ | refine w1b ?_ | refine w1p ?_ | ((first | refine w1r ?_ | refine w1k ?_ | refine w1e ?_); (refine sy1 ?_; try exact True.intro)) | refine an2 ?_ | fail)
        refine ⟨2, ⟨by omega, by omega, by omega⟩, by omega, by rfl, ?_⟩
        (refine syE ?_; try exact True.intro)
  · simp only [if_neg (show ¬ 0 ≤ U by omega), if_neg (show ¬ 0 ≤ V by omega)]
    repeat' (first | refine w1g ?_ | refine w1l ?_ | refine w1q ?_ | refine w1b ?_ | refine w1p ?_ | ((first | refine w1r ?_ | refine w1k ?_ | refine w1e ?_); (refine sy1 ?_; try exact True.intro)) | refine an2 ?_ | fail)
    exact W_ret ⟨[_, _], ⟨rfl, rfl, rfl⟩, rfl⟩
def ftE (l : List Wn) (mi fr : Int) : Int := if 32 < l.length then 6 else if wnB l = true then (if (inR mi 0 10080 && inR fr 0 1099511627776) = true then (if 0 ≤ fstW mi fr l then 0 else 15) else 3) else 2
def ftV (l : List Wn) (mi fr : Int) : Int := if ftE l mi fr = 0 then fstW mi fr l else 0
theorem fn42 (l : List Wn) (mi fr : Int) (hl : l.length ≤ 140737488355328) : Sy.Fn Try.prog 42 [aN l, iv mi, iv fr] (.tup [iv (ftV l mi fr), iv (ftE l mi fr)]) := by
  refine Fn_of_W mixed Xt42 rfl ?_
  have c88 := fn88 l hl
  have c87a := fn87 mi 0 10080
  have c87b := fn87 fr 0 1099511627776
  have e1 : ftE l mi fr = if 32 < l.length then 6 else if wnB l = true then (if (inR mi 0 10080 && inR fr 0 1099511627776) = true then (if 0 ≤ fstW mi fr l then 0 else 15) else 3) else 2 := rfl
  have e2 : ftV l mi fr = if ftE l mi fr = 0 then fstW mi fr l else 0 := rfl
  rw [e2, e1]
  repeat' (first | refine w1g ?_ | refine w1l ?_ | refine w1q ?_ | refine w1b ?_ | refine w1p ?_ | ((first | refine w1r ?_ | refine w1k ?_ | refine w1e ?_); (refine sy1 ?_; try exact True.intro)) | refine an2 ?_ | fail)
  refine W_condD (by rfl) (fun hb => ?_) (fun hb => ?_)
  · rw [if_pos (show 32 < l.length by omega)]
    repeat' (first | refine w1g ?_ | refine w1l ?_ | refine w1q ?_ | refine w1b ?_ | refine w1p ?_ | ((first | refine w1r ?_ | refine w1k ?_ | refine w1e ?_); (refine sy1 ?_; try exact True.intro)) | refine an2 ?_ | fail)
    exact W_ret ⟨[_, _], ⟨rfl, rfl, rfl⟩, rfl⟩
  rw [if_neg (show ¬ 32 < l.length by omega)]
  cases hw : wnB l
  · rw [hw] at c88
    repeat' (first | refine w1g ?_ | refine w1l ?_ | refine w1q ?_ | refine w1b ?_ | refine w1p ?_ | ((first | refine w1r ?_ | refine w1k ?_ | refine w1e ?_ | refine CallC.now (c88) ?_); (refine sy1 ?_; try exact True.intro)) | refine an2 ?_ | fail)
    refine W_cond (by rfl) (fun _ => ?_) (fun h => by cases h)
    repeat' (first | refine w1g ?_ | refine w1l ?_ | refine w1q ?_ | refine w1b ?_ | refine w1p ?_ | ((first | refine w1r ?_ | refine w1k ?_ | refine w1e ?_); (refine sy1 ?_; try exact True.intro)) | refine an2 ?_ | fail)
    exact W_ret ⟨[_, _], ⟨rfl, rfl, rfl⟩, rfl⟩
  rw [hw] at c88
  have hW := wnB_iff.1 hw
  repeat' (first | refine w1g ?_ | refine w1l ?_ | refine w1q ?_ | refine w1b ?_ | refine w1p ?_ | ((first | refine w1r ?_ | refine w1k ?_ | refine w1e ?_ | refine CallC.now (c88) ?_); (refine sy1 ?_; try exact True.intro)) | refine an2 ?_ | fail)
  refine W_cond (by rfl) (fun h => by cases h) (fun _ => ?_)
  cases hm : inR mi 0 10080
  · rw [hm] at c87a
    repeat' (first | refine w1g ?_ | refine w1l ?_ | refine w1q ?_ | refine w1b ?_ | refine w1p ?_ | ((first | refine w1r ?_ | refine w1k ?_ | refine w1e ?_ | refine CallC.now (c87a) ?_); (refine sy1 ?_; try exact True.intro)) | refine an2 ?_ | (refine CallC.go (bv false) (fun hpc => absurd hpc (by simp [pc])) rfl ?_; (refine sy1 ?_; try exact True.intro)) | fail)
    refine W_cond (by rfl) (fun _ => ?_) (fun h => by cases h)
    repeat' (first | refine w1g ?_ | refine w1l ?_ | refine w1q ?_ | refine w1b ?_ | refine w1p ?_ | ((first | refine w1r ?_ | refine w1k ?_ | refine w1e ?_); (refine sy1 ?_; try exact True.intro)) | refine an2 ?_ | fail)
    exact W_ret ⟨[_, _], ⟨rfl, rfl, rfl⟩, rfl⟩
  rw [hm] at c87a
  have hM := inR_iff.1 hm
  cases hf : inR fr 0 1099511627776
  · rw [hf] at c87b
    repeat' (first | refine w1g ?_ | refine w1l ?_ | refine w1q ?_ | refine w1b ?_ | refine w1p ?_ | ((first | refine w1r ?_ | refine w1k ?_ | refine w1e ?_ | refine CallC.now (c87a) ?_ | refine CallC.go _ (fun _ => ⟨trivial, c87b⟩) rfl ?_); (refine sy1 ?_; try exact True.intro)) | refine an2 ?_ | fail)
    refine W_cond (by rfl) (fun _ => ?_) (fun h => by cases h)
    repeat' (first | refine w1g ?_ | refine w1l ?_ | refine w1q ?_ | refine w1b ?_ | refine w1p ?_ | ((first | refine w1r ?_ | refine w1k ?_ | refine w1e ?_); (refine sy1 ?_; try exact True.intro)) | refine an2 ?_ | fail)
    exact W_ret ⟨[_, _], ⟨rfl, rfl, rfl⟩, rfl⟩
  rw [hf] at c87b
  have hF := inR_iff.1 hf
  have c64 := fn64 l mi fr hl hW hM (by omega)
  have e3 : fstV mi fr l = if 0 ≤ fstW mi fr l then fstW mi fr l else 0 := rfl
  generalize fstV mi fr l = V at *
  generalize fstW mi fr l = T at *
  repeat' (first | refine w1g ?_ | refine w1l ?_ | refine w1q ?_ | refine w1b ?_ | refine w1p ?_ | ((first | refine w1r ?_ | refine w1k ?_ | refine w1e ?_ | refine CallC.now (c87a) ?_ | refine CallC.go _ (fun _ => ⟨trivial, c87b⟩) rfl ?_); (refine sy1 ?_; try exact True.intro)) | refine an2 ?_ | fail)
  refine W_cond (by rfl) (fun h => by cases h) (fun _ => ?_)
  repeat' (first | refine w1g ?_ | refine w1l ?_ | refine w1q ?_ | refine w1b ?_ | refine w1p ?_ | ((first | refine w1r ?_ | refine w1k ?_ | refine w1e ?_ | refine CallC.now (c64) ?_); (refine sy1 ?_; try exact True.intro)) | refine an2 ?_ | fail)
  by_cases hT : 0 ≤ T
  · rw [if_pos hT] at e3
    rw [e3, decide_eq_true hT]
    refine W_cond (by rfl) (fun h => by cases h) (fun _ => ?_)
    simp only [if_pos hT]
    repeat' (first | refine w1g ?_ | refine w1l ?_ | refine w1q ?_ | refine w1b ?_ | refine w1p ?_ | ((first | refine w1r ?_ | refine w1k ?_ | refine w1e ?_); (refine sy1 ?_; try exact True.intro)) | refine an2 ?_ | fail)
    exact W_ret ⟨[_, _], ⟨rfl, rfl, rfl⟩, rfl⟩
  · rw [decide_eq_false hT]
    refine W_cond (by rfl) (fun _ => ?_) (fun h => by cases h)
    simp only [if_neg hT]
    repeat' (first | refine w1g ?_ | refine w1l ?_ | refine w1q ?_ | refine w1b ?_ | refine w1p ?_ | ((first | refine w1r ?_ | refine w1k ?_ | refine w1e ?_); (refine sy1 ?_; try exact True.intro)) | refine an2 ?_ | fail)
    exact W_ret ⟨[_, _], ⟨rfl, rfl, rfl⟩, rfl⟩
end Go.Proofs.Ytoiohkjomcbadaa

namespace Go.Proofs.Ytoiohkjomcbadaa
open Go Sy
set_option maxRecDepth 100000
set_option maxHeartbeats 4000000
set_option linter.unusedVariables false
set_option linter.unusedSimpArgs false
theorem w114 {M : List (Nat × Blk)} {k st nx : Nat} (l : List Int) (hlen : l.length ≤ 1000000) (hk : k < nx) (hfr : ∀ j, nx ≤ j → lm M j = none) :
    W Try.prog 28 Xn114_0 ⟨initT 0 [.row k st], setm M k (.row st 3 1 0 cI l), nx⟩ (fun e s' => (e = .n ∨ e = .r) ∧ s'.mem = setm M k (.row st 3 1 0 cI l.reverse)) := by
  have hfr' : ∀ b : Blk, ∀ j, nx ≤ j → lm (setm M k b) j = none := fun b j hj => by rw [lm_set_other _ _ (by omega)]; exact hfr j hj
  simp (maxSteps := 400000) (disch := omega) only [push_cast, ↓reduceIte, reduceCtorEq, Nat.reduceAdd, Nat.reduceSub, Nat.reduceEqDiff, Nat.reduceLeDiff, Nat.reduceLT, Nat.reduceBEq, Nat.reduceDiv, Nat.reduceMod, Nat.reducePow, Nat.reduceMul, Int.reduceToNat, Int.reduceLT, Int.reduceLE, initT]
  repeat' (first | refine w1g ?_ | refine w1l ?_ | refine w1q ?_ | refine w1b ?_ | refine w1p ?_ | ((first | refine w1r ?_ | refine w1k ?_ | refine w1e ?_); (refine sy1 ?_; try exact True.intro)) | refine an2 ?_ | fail)
  refine W_loopM (fun c : Nat => [(2, iv c), (3, iv ((l.length : Int) - 1 - c))]) (fun c => setm M k (.row st 3 1 0 cI (rvL 0 l c))) (fun c => c ≤ l.length) (fun c => l.length - c) nx (fun c _ => hfr' _) 0 (by omega) (by simp [keepL, putAll, repl, lk]) (by rw [rvL_zero]) (fun c hc => ?_)
  have hll := rvL_len 0 l c
  simp (maxSteps := 400000) (disch := omega) only [push_cast, ↓reduceIte, reduceCtorEq, Nat.reduceAdd, Nat.reduceSub, Nat.reduceEqDiff, Nat.reduceLeDiff, Nat.reduceLT, Nat.reduceBEq, Nat.reduceDiv, Nat.reduceMod, Nat.reducePow, Nat.reduceMul, Int.reduceToNat, Int.reduceLT, Int.reduceLE, keepL]
  repeat' (first | refine w1g ?_ | refine w1l ?_ | refine w1q ?_ | refine w1b ?_ | refine w1p ?_ | ((first | refine w1r ?_ | refine w1k ?_ | refine w1e ?_); simp (maxSteps := 400000) (disch := omega) only [push_cast, ↓reduceIte, reduceCtorEq, Nat.reduceAdd, Nat.reduceSub, Nat.reduceEqDiff, Nat.reduceLeDiff, Nat.reduceLT, Nat.reduceBEq, Nat.reduceDiv, Nat.reduceMod, Nat.reducePow, Nat.reduceMul, Int.reduceToNat, Int.reduceLT, Int.reduceLE, keepL]) | refine an2 ?_ | fail)
  refine W_condD (by rfl) (fun h5 => ?_) (fun h5 => ?_)
  · have hs := rvL_step (d := 0) (l := l) (k := c) (by omega)
    have ea : ((l.length : Int) - 1 - c).toNat = l.length - 1 - c := by omega
    generalize hx : (rvL 0 l c).getD (l.length - 1 - c) 0 = x at *
    generalize hy : (rvL 0 l c).getD c 0 = y at *
    generalize rvL 0 l c = L at *
    repeat' (first | refine w1g ?_ | refine w1l ?_ | refine w1q ?_ | refine w1b ?_ | refine w1p ?_ | ((first | refine w1r ?_ | refine w1k ?_ | refine w1e ?_); simp (maxSteps := 400000) (disch := omega) only [push_cast, ↓reduceIte, reduceCtorEq, Nat.reduceAdd, Nat.reduceSub, Nat.reduceEqDiff, Nat.reduceLeDiff, Nat.reduceLT, Nat.reduceBEq, Nat.reduceDiv, Nat.reduceMod, Nat.reducePow, Nat.reduceMul, Int.reduceToNat, Int.reduceLT, Int.reduceLE, keepL, hll, ea, hx, hy, beq_self_eq_true]) | refine an2 ?_ | fail)
    refine ⟨rfl, ⟨by dsimp only; omega, hasM_set _ _ _⟩, by omega, x, rfl, rfl, ?_⟩
    simp (maxSteps := 400000) (disch := omega) only [push_cast, ↓reduceIte, reduceCtorEq, Nat.reduceAdd, Nat.reduceSub, Nat.reduceEqDiff, Nat.reduceLeDiff, Nat.reduceLT, Nat.reduceBEq, Nat.reduceDiv, Nat.reduceMod, Nat.reducePow, Nat.reduceMul, Int.reduceToNat, Int.reduceLT, Int.reduceLE, hll, ea, hx, hy, List.length_set]
    repeat' (first | refine w1g ?_ | refine w1l ?_ | refine w1q ?_ | refine w1b ?_ | refine w1p ?_ | ((first | refine w1r ?_ | refine w1k ?_ | refine w1e ?_); simp (maxSteps := 400000) (disch := omega) only [push_cast, ↓reduceIte, reduceCtorEq, Nat.reduceAdd, Nat.reduceSub, Nat.reduceEqDiff, Nat.reduceLeDiff, Nat.reduceLT, Nat.reduceBEq, Nat.reduceDiv, Nat.reduceMod, Nat.reducePow, Nat.reduceMul, Int.reduceToNat, Int.reduceLT, Int.reduceLE, keepL, hll, ea, hx, hy, List.length_set, beq_self_eq_true]) | refine an2 ?_ | fail)
    refine ⟨rfl, ⟨by dsimp only; omega, hasM_set _ _ _⟩, by omega, y, rfl, rfl, ?_⟩
    rw [hs]
    (refine sy1 ?_; try exact True.intro)
    repeat' (first | refine w1g ?_ | refine w1l ?_ | refine w1q ?_ | refine w1b ?_ | refine w1p ?_ | ((first | refine w1r ?_ | refine w1k ?_ | refine w1e ?_); simp (maxSteps := 400000) (disch := omega) only [push_cast, ↓reduceIte, reduceCtorEq, Nat.reduceAdd, Nat.reduceSub, Nat.reduceEqDiff, Nat.reduceLeDiff, Nat.reduceLT, Nat.reduceBEq, Nat.reduceDiv, Nat.reduceMod, Nat.reducePow, Nat.reduceMul, Int.reduceToNat, Int.reduceLT, Int.reduceLE, keepL]) | refine an2 ?_ | fail)
    exact ⟨c + 1, by omega, by omega, by simp; omega, rfl⟩
  · rw [rvL_all (by omega)]
    repeat' (first | refine w1g ?_ | refine w1l ?_ | refine w1q ?_ | refine w1b ?_ | refine w1p ?_ | ((first | refine w1r ?_ | refine w1k ?_ | refine w1e ?_); simp (maxSteps := 400000) (disch := omega) only [push_cast, ↓reduceIte, reduceCtorEq, Nat.reduceAdd, Nat.reduceSub, Nat.reduceEqDiff, Nat.reduceLeDiff, Nat.reduceLT, Nat.reduceBEq, Nat.reduceDiv, Nat.reduceMod, Nat.reducePow, Nat.reduceMul, Int.reduceToNat, Int.reduceLT, Int.reduceLE, keepL]) | refine an2 ?_ | fail)
theorem i114 {s : S} {k st : Nat} {L L' : List Int} {K : AV → S → Prop} (hk : lm s.mem k = some (.row st 3 1 0 cI L)) (hfr : ∀ j, s.nx ≤ j → lm s.mem j = none) (hlen : L.length ≤ 1000000) (hL : L.reverse = L') (hK : K (.tup []) ⟨s.tm, setm s.mem k (.row st 3 1 0 cI L'), s.nx⟩) : Inl Try.prog 114 [.row k st] s K := by
  subst hL
  exact Inl_row mixed Xt114 rfl hk hfr (fun M nx h1 h2 => w114 L hlen h1 h2) hK
def crcX (n : Nat) (ls : List Lk) : Nat := itr (brs ls (n + 1)).by' n (brs ls (n + 1)).last.toNat
abbrev nilS : AV := .v (.slice none 0 0)
theorem w70 (n : Nat) (ls : List Af) (h0 : 0 < n) (hn : n ≤ 24) (hl : ls.length ≤ 240) (hls : ∀ e ∈ ls, LkOk n e) :
    (¬ Can (lkL ls) (rnds (lkL ls) (fun _ => 0) n) → W Try.prog 87 Xn70_0 (init [iv n, aA ls]) (Sy.Fin [.t 4] nilS)) ∧
    (Can (lkL ls) (rnds (lkL ls) (fun _ => 0) n) → ∀ p, p ≤ n → Per (brs (lkL ls) (n + 1)).by' (crcX n (lkL ls)) p → W Try.prog 87 Xn70_0 (init [iv n, aA ls]) (Sy.Fin [.t 4] (aI (cirL (brs (lkL ls) (n + 1)).by' (crcX n (lkL ls)) p).reverse))) := by
  have key : ∀ (r : AV), (¬ Can (lkL ls) (rnds (lkL ls) (fun _ => 0) n) → r = nilS) → (Can (lkL ls) (rnds (lkL ls) (fun _ => 0) n) → ∃ p, p ≤ n ∧ Per (brs (lkL ls) (n + 1)).by' (crcX n (lkL ls)) p ∧ r = aI (cirL (brs (lkL ls) (n + 1)).by' (crcX n (lkL ls)) p).reverse) → W Try.prog 87 Xn70_0 (init [iv n, aA ls]) (Sy.Fin [.t 4] r) := by
    intro r hr1 hr2
    have hnl : ∀ e ∈ lkL ls, e.a < n ∧ e.b < n := fun e he => by
      obtain ⟨x, hx, rfl⟩ := List.mem_map.1 he
      obtain ⟨a1, a2, a3, a4, _⟩ := hls x hx
      constructor
      · show x.a.toNat < n; omega
      · show x.b.toNat < n; omega
    have hgl : ∀ e ∈ lkL ls, e.g ≤ 1058656 := fun e he => by
      obtain ⟨x, hx, rfl⟩ := List.mem_map.1 he
      exact (hls x hx).2.2.2.2.2
    have hll : (lkL ls).length = ls.length := by rw [List.length_map]
    repeat' (first | refine w1g ?_ | refine w1l ?_ | refine w1q ?_ | refine w1b ?_ | refine w1p ?_ | ((first | refine w1r ?_ | refine w1k ?_ | refine w1e ?_); (refine sy1 ?_; try exact True.intro)) | refine an2 ?_ | fail)
    refine ⟨rfl, ⟨by omega, by omega, by omega⟩, Int, 0, cI, 0, rfl, rfl, by omega, rfl, ?_⟩
    simp (maxSteps := 400000) (disch := omega) only [push_cast, ↓reduceIte, reduceCtorEq, Nat.reduceAdd, Nat.reduceSub, Nat.reduceEqDiff, Nat.reduceLeDiff, Nat.reduceLT, Nat.reduceBEq, Nat.reduceDiv, Nat.reduceMod, Nat.reducePow, Nat.reduceMul, Int.reduceToNat, Int.reduceLT, Int.reduceLE, Int.toNat_natCast]
    repeat' (first | refine w1g ?_ | refine w1l ?_ | refine w1q ?_ | refine w1b ?_ | refine w1p ?_ | ((first | refine w1r ?_ | refine w1k ?_ | refine w1e ?_); (refine sy1 ?_; try exact True.intro)) | refine an2 ?_ | fail)
    refine ⟨rfl, ⟨by omega, by omega, by omega⟩, Int, 0, cI, 0, rfl, rfl, by omega, rfl, ?_⟩
    simp (maxSteps := 400000) (disch := omega) only [push_cast, ↓reduceIte, reduceCtorEq, Nat.reduceAdd, Nat.reduceSub, Nat.reduceEqDiff, Nat.reduceLeDiff, Nat.reduceLT, Nat.reduceBEq, Nat.reduceDiv, Nat.reduceMod, Nat.reducePow, Nat.reduceMul, Int.reduceToNat, Int.reduceLT, Int.reduceLE, Int.toNat_natCast]
    repeat' (first | refine w1g ?_ | refine w1l ?_ | refine w1q ?_ | refine w1b ?_ | refine w1p ?_ | ((first | refine w1r ?_ | refine w1k ?_ | refine w1e ?_); (refine sy1 ?_; try exact True.intro)) | refine an2 ?_ | fail)
    generalize hL : lkL ls = L at *
    have hget : ∀ i, i < ls.length → L.getD i dLk = lkO (ls.getD i dAf) := fun i hi => by rw [← hL]; exact lkL_get hi
    rw [lsF_rep]
    refine W_loopU (fun q : Nat => [(7, iv (brs L q).last), (19, iv q)]) (fun q => [(2, .row 0 2 1 0 cI (lsF n (brs L q).far)), (5, .row 0 3 1 0 cI (lsF n fun i => ((brs L q).by' i : Int)))]) (fun q => q ≤ n + 1 ∧ ∀ k, k < q → Can L (rnds L (fun _ => 0) k)) (fun q => n + 1 - q) 0 ⟨by omega, fun k hk => by omega⟩ (by rfl) (by rfl) (fun q hq => ?_)
    obtain ⟨hq, hcan⟩ := hq
    (refine sy1 ?_; try exact True.intro)
    repeat' (first | refine w1g ?_ | refine w1l ?_ | refine w1q ?_ | refine w1b ?_ | refine w1p ?_ | ((first | refine w1r ?_ | refine w1k ?_ | refine w1e ?_); (refine sy1 ?_; try exact True.intro)) | refine an2 ?_ | fail)
    refine W_condD (by rfl) (fun h5 => ?_) (fun h5 => ?_)
    · have hqn : q ≤ n := by omega
      have hb0 := bsK_zero L q
      have hbl := bsK_last hnl q
      have hbb := bsK_by hnl h0 q
      have hbr := fun j (hj : j ≤ L.length) => bsK_rng hgl (r := q) hj
      have hbs := fun j (hj : j < L.length) => bsK_succ (ls := L) (r := q) hj
      have hba := bsK_all L q
      have hlast := brs_last hnl q
      have hdown := fun q0 => can_down (ls := L) (o := fun _ => 0) (j := q) q0 n hqn
      rw [show (brs L q).far = (bsK L q 0).far from rfl, show (brs L q).by' = (bsK L q 0).by' from rfl]
      repeat' (first | refine w1g ?_ | refine w1l ?_ | refine w1q ?_ | refine w1b ?_ | refine w1p ?_ | ((first | refine w1r ?_ | refine w1k ?_ | refine w1e ?_); (refine sy1 ?_; try exact True.intro)) | refine an2 ?_ | fail)
      have hm1 : (-1 : Int) = (bsK L q 0).last := rfl
      generalize bsK L q = b at *
      refine W_loopU (fun j : Nat => [(7, iv (b j).last), (23, iv j)]) (fun j => [(2, .row 0 2 1 0 cI (lsF n (b j).far)), (5, .row 0 3 1 0 cI (lsF n fun i => ((b j).by' i : Int)))]) (fun j => j ≤ ls.length) (fun j => ls.length - j) 0 (by omega) (by rfl) (by rw [hm1]; rfl) (fun j hj => ?_)
      have hbs := fun h => hbs j (by rw [hll]; exact h)
      have hbr := hbr j (by omega)
      have hbl := hbl j
      have hfl := lsF_len n (b j).far
      have hyl := lsF_len n fun i => ((b j).by' i : Int)
      (refine sy1 ?_; try exact True.intro)
      repeat' (first | refine w1g ?_ | refine w1l ?_ | refine w1q ?_ | refine w1b ?_ | refine w1p ?_ | ((first | refine w1r ?_ | refine w1k ?_ | refine w1e ?_); (refine sy1 ?_; try exact True.intro)) | refine an2 ?_ | fail)
      refine W_condD (by rfl) (fun h6 => ?_) (fun h6 => ?_)
      · have hjl : j < ls.length := by omega
        have hbs := hbs hjl
        obtain ⟨a1, a2, a3, a4, a5, a6⟩ := hls _ (getD_mem' dAf ls j hjl)
        rw [hget j hjl] at hbs
        obtain ⟨e, he⟩ : ∃ e, ls.getD j dAf = e := ⟨_, rfl⟩
        rw [he] at hbs a1 a2 a3 a4 a5 a6
        have ga : (lsF n (b j).far).getD e.a.toNat 0 = (b j).far e.a.toNat := lsF_get (by omega)
        have gb : (lsF n (b j).far).getD e.b.toNat 0 = (b j).far e.b.toNat := lsF_get (by omega)
        have ra := hbr e.a.toNat
        have rb := hbr e.b.toNat
        have hS : ∀ x, (lsF n (b j).far).set e.b.toNat x = lsF n (putF (b j).far e.b.toNat x) := fun x => lsF_set (by omega)
        have hY : ∀ x, (lsF n fun i => ((b j).by' i : Int)).set e.b.toNat x = lsF n (putF (fun i => ((b j).by' i : Int)) e.b.toNat x) := fun x => lsF_set (by omega)
        have hmul : ((q : Int) + 1) * ((L.length : Int) * 1058656) ≤ 25 * (240 * 1058656) := Int.mul_le_mul (by omega) (by omega) (by omega) (by omega)
        have hbst : bst (b j) (lkO e) = if (b j).far e.b.toNat < (b j).far e.a.toNat + e.g then ⟨putF (b j).far e.b.toNat ((b j).far e.a.toNat + e.g), fun i => if i = e.b.toNat then e.a.toNat else (b j).by' i, e.b.toNat⟩ else b j := rfl
        rw [hbst] at hbs
        generalize ((q : Int) + 1) * ((L.length : Int) * 1058656) = C at *
        generalize hfa : (b j).far e.a.toNat = fa at *
        generalize hfb : (b j).far e.b.toNat = fb at *
        repeat' (first | refine w1g ?_ | refine w1l ?_ | refine w1q ?_ | refine w1b ?_ | refine w1p ?_ | ((first | refine w1r ?_ | refine w1k ?_ | refine w1e ?_); simp (maxSteps := 400000) (disch := omega) only [push_cast, ↓reduceIte, reduceCtorEq, Nat.reduceAdd, Nat.reduceSub, Nat.reduceEqDiff, Nat.reduceLeDiff, Nat.reduceLT, Nat.reduceBEq, Nat.reduceDiv, Nat.reduceMod, Nat.reducePow, Nat.reduceMul, Int.reduceToNat, Int.reduceLT, Int.reduceLE, he, ga, gb]) | refine an2 ?_ | fail)
        refine W_condD (by rfl) (fun hc => ?_) (fun hc => ?_)
        · rw [if_pos hc] at hbs
          have hpy : putF (fun i => ((b j).by' i : Int)) e.b.toNat e.a = fun i => ((b (j + 1)).by' i : Int) := by
            rw [hbs]
            funext i
            unfold putF
            dsimp only
            split
            · omega
            · rfl
          have hpf : putF (b j).far e.b.toNat (fa + e.g) = (b (j + 1)).far := by rw [hbs]
          have hpl : (b (j + 1)).last = e.b := by rw [hbs]; dsimp only; omega
          repeat' (first | refine w1g ?_ | refine w1l ?_ | refine w1q ?_ | refine w1b ?_ | refine w1p ?_ | ((first | refine w1r ?_ | refine w1k ?_ | refine w1e ?_); simp (maxSteps := 400000) (disch := omega) only [push_cast, ↓reduceIte, reduceCtorEq, Nat.reduceAdd, Nat.reduceSub, Nat.reduceEqDiff, Nat.reduceLeDiff, Nat.reduceLT, Nat.reduceBEq, Nat.reduceDiv, Nat.reduceMod, Nat.reducePow, Nat.reduceMul, Int.reduceToNat, Int.reduceLT, Int.reduceLE, he, ga, gb]) | refine an2 ?_ | fail)
          refine ⟨rfl, ⟨Nat.le_of_ble_eq_true rfl, rfl⟩, by rw [hfl]; omega, fa + e.g, rfl, rfl, ?_⟩
          rw [hS, hpf]
          simp (maxSteps := 400000) (disch := omega) only [push_cast, ↓reduceIte, reduceCtorEq, Nat.reduceAdd, Nat.reduceSub, Nat.reduceEqDiff, Nat.reduceLeDiff, Nat.reduceLT, Nat.reduceBEq, Nat.reduceDiv, Nat.reduceMod, Nat.reducePow, Nat.reduceMul, Int.reduceToNat, Int.reduceLT, Int.reduceLE, hyl]
          repeat' (first | refine w1g ?_ | refine w1l ?_ | refine w1q ?_ | refine w1b ?_ | refine w1p ?_ | ((first | refine w1r ?_ | refine w1k ?_ | refine w1e ?_); simp (maxSteps := 400000) (disch := omega) only [push_cast, ↓reduceIte, reduceCtorEq, Nat.reduceAdd, Nat.reduceSub, Nat.reduceEqDiff, Nat.reduceLeDiff, Nat.reduceLT, Nat.reduceBEq, Nat.reduceDiv, Nat.reduceMod, Nat.reducePow, Nat.reduceMul, Int.reduceToNat, Int.reduceLT, Int.reduceLE, hyl]) | refine an2 ?_ | fail)
          refine ⟨rfl, ⟨Nat.le_of_ble_eq_true rfl, rfl⟩, by omega, e.a, rfl, rfl, ?_⟩
          rw [hY, hpy]
          (refine sy1 ?_; try exact True.intro)
          repeat' (first | refine w1g ?_ | refine w1l ?_ | refine w1q ?_ | refine w1b ?_ | refine w1p ?_ | ((first | refine w1r ?_ | refine w1k ?_ | refine w1e ?_); (refine sy1 ?_; try exact True.intro)) | refine an2 ?_ | fail)
          refine ⟨j + 1, by omega, by omega, by rfl, ?_⟩
          rw [hpl]
          (refine syE ?_; try exact True.intro)
        · rw [if_neg hc] at hbs
          repeat' (first | refine w1g ?_ | refine w1l ?_ | refine w1q ?_ | refine w1b ?_ | refine w1p ?_ | ((first | refine w1r ?_ | refine w1k ?_ | refine w1e ?_); (refine sy1 ?_; try exact True.intro)) | refine an2 ?_ | fail)
          refine ⟨j + 1, by omega, by omega, by rfl, ?_⟩
          rw [hbs]
          (refine syE ?_; try exact True.intro)
      · obtain rfl : j = ls.length := by omega
        rw [← hll, hba]
        repeat' (first | refine w1g ?_ | refine w1l ?_ | refine w1q ?_ | refine w1b ?_ | refine w1p ?_ | ((first | refine w1r ?_ | refine w1k ?_ | refine w1e ?_); (refine sy1 ?_; try exact True.intro)) | refine an2 ?_ | fail)
        refine W_condD (by rfl) (fun hneg => ?_) (fun hneg => ?_)
        · rw [hr1 (hdown (hlast.2.2.1 (by omega)))]
          repeat' (first | refine w1g ?_ | refine w1l ?_ | refine w1q ?_ | refine w1b ?_ | refine w1p ?_ | ((first | refine w1r ?_ | refine w1k ?_ | refine w1e ?_); (refine sy1 ?_; try exact True.intro)) | refine an2 ?_ | fail)
          exact W_ret ⟨[_], ⟨rfl, rfl⟩, rfl⟩
        · have hc : Can L (rnds L (fun _ => 0) q) := by
            rcases Classical.em (Can L (rnds L (fun _ => 0) q)) with hc | hc
            · exact hc
            · have := hlast.2.2.2 hc; omega
          repeat' (first | refine w1g ?_ | refine w1l ?_ | refine w1q ?_ | refine w1b ?_ | refine w1p ?_ | ((first | refine w1r ?_ | refine w1k ?_ | refine w1e ?_); (refine sy1 ?_; try exact True.intro)) | refine an2 ?_ | fail)
          refine ⟨q + 1, ⟨by omega, up_all hcan hc⟩, by omega, by rfl, ?_⟩
          (refine syE ?_; try exact True.intro)
    · obtain rfl : q = n + 1 := by omega
      obtain ⟨p, hp1, hp2, hp3⟩ := hr2 (hcan n (by omega))
      have hby := brs_by hnl h0 (n + 1)
      have hlast := brs_last hnl n
      have hx : crcX n L = itr (brs L (n + 1)).by' n (brs L (n + 1)).last.toNat := rfl
      have hlp : 0 ≤ (brs L (n + 1)).last := by
        rcases Int.lt_or_le (brs L (n + 1)).last 0 with q | q
        · exact absurd (hcan n (by omega)) (hlast.2.2.1 (by omega))
        · exact q
      have hlx : ((brs L (n + 1)).last.toNat : Int) = (brs L (n + 1)).last := by omega
      have hl1 := hlast.2.1
      rw [hp3]
      clear hr1 hr2 hcan hlast hp3
      generalize crcX n L = X at *
      generalize (brs L (n + 1)).by' = B at *
      generalize (brs L (n + 1)).far = FA at *
      generalize (brs L (n + 1)).last = LA at *
      obtain ⟨z, hz⟩ : ∃ z, LA.toNat = z := ⟨_, rfl⟩
      rw [hz] at hx hlx
      have hzn : z < n := by omega
      have hyl := lsF_len n fun i => (B i : Int)
      have hgY : ∀ i, i < n → (lsF n fun i => (B i : Int)).getD i 0 = (B i : Int) := fun i hi => lsF_get hi
      generalize (lsF n fun i => (B i : Int)) = Y at *
      rw [← hlx]
      repeat' (first | refine w1g ?_ | refine w1l ?_ | refine w1q ?_ | refine w1b ?_ | refine w1p ?_ | ((first | refine w1r ?_ | refine w1k ?_ | refine w1e ?_); (refine sy1 ?_; try exact True.intro)) | refine an2 ?_ | fail)
      refine W_loopU (fun k : Nat => [(7, iv (itr B k z)), (60, iv k)]) (fun k => []) (fun k => k ≤ n) (fun k => n - k) 0 (by omega) (by rfl) (by rfl) (fun k hk => ?_)
      have hik := itr_lt hby hzn k
      have hgk := hgY _ hik
      have his : itr B (k + 1) z = B (itr B k z) := rfl
      (refine sy1 ?_; try exact True.intro)
      repeat' (first | refine w1g ?_ | refine w1l ?_ | refine w1q ?_ | refine w1b ?_ | refine w1p ?_ | ((first | refine w1r ?_ | refine w1k ?_ | refine w1e ?_); (refine sy1 ?_; try exact True.intro)) | refine an2 ?_ | fail)
      refine W_condD (by rfl) (fun h6 => ?_) (fun h6 => ?_)
      · generalize itr B k z = v at *
        repeat' (first | refine w1g ?_ | refine w1l ?_ | refine w1q ?_ | refine w1b ?_ | refine w1p ?_ | ((first | refine w1r ?_ | refine w1k ?_ | refine w1e ?_); simp (maxSteps := 400000) (disch := omega) only [push_cast, ↓reduceIte, reduceCtorEq, Nat.reduceAdd, Nat.reduceSub, Nat.reduceEqDiff, Nat.reduceLeDiff, Nat.reduceLT, Nat.reduceBEq, Nat.reduceDiv, Nat.reduceMod, Nat.reducePow, Nat.reduceMul, Int.reduceToNat, Int.reduceLT, Int.reduceLE, hyl, hgk]) | refine an2 ?_ | fail)
        refine ⟨k + 1, by omega, by omega, by rfl, ?_⟩
        rw [his]
        (refine syE ?_; try exact True.intro)
      obtain rfl : k = n := by omega
      rw [← hx]
      rw [← hx] at hik hgk
      clear his
      repeat' (first | refine w1g ?_ | refine w1l ?_ | refine w1q ?_ | refine w1b ?_ | refine w1p ?_ | ((first | refine w1r ?_ | refine w1k ?_ | refine w1e ?_); (refine sy1 ?_; try exact True.intro)) | refine an2 ?_ | fail)
      refine ⟨rfl, trivial, Int, 0, cI, [(X : Int)], rfl, by omega, fun x _ => ⟨rfl, rfl⟩, rfl, ?_⟩
      (refine sy1 ?_; try exact True.intro)
      repeat' (first | refine w1g ?_ | refine w1l ?_ | refine w1q ?_ | refine w1b ?_ | refine w1p ?_ | ((first | refine w1r ?_ | refine w1k ?_ | refine w1e ?_); simp (maxSteps := 400000) (disch := omega) only [push_cast, ↓reduceIte, reduceCtorEq, Nat.reduceAdd, Nat.reduceSub, Nat.reduceEqDiff, Nat.reduceLeDiff, Nat.reduceLT, Nat.reduceBEq, Nat.reduceDiv, Nat.reduceMod, Nat.reducePow, Nat.reduceMul, Int.reduceToNat, Int.reduceLT, Int.reduceLE, hyl, hgk]) | refine an2 ?_ | fail)
      have h1X : itr B 1 X = B X := rfl
      refine W_loopU (fun u : Nat × Nat => [(11, .row 16 u.1), (12, iv (itr B (u.1 + 1) X))]) (fun u => [(16, .row u.1 3 1 0 cI (cirL B X (u.1 + 1)))]) (fun u => u.1 + 1 ≤ p) (fun u => p - u.1) (0, 0) (by have := hp2.pos; omega) (by rfl) (by rfl) (fun u hu => ?_)
      obtain ⟨u, st⟩ := u
      dsimp only at hu ⊢
      have hiu := itr_lt hby hik (u + 1)
      have hgu := hgY _ hiu
      have hiu2 : itr B (u + 1 + 1) X = B (itr B (u + 1) X) := rfl
      have hcs := cirL_succ B X (u + 1)
      have hcl := cirL_len B X (u + 1)
      have hback := hp2.back
      have hleast := hp2.least (u + 1) (by omega)
      have hpn := Nat.lt_or_eq_of_le hu
      generalize hv : itr B (u + 1) X = v at *
      (refine sy1 ?_; try exact True.intro)
      repeat' (first | refine w1g ?_ | refine w1l ?_ | refine w1q ?_ | refine w1b ?_ | refine w1p ?_ | ((first | refine w1r ?_ | refine w1k ?_ | refine w1e ?_); (refine sy1 ?_; try exact True.intro)) | refine an2 ?_ | fail)
      refine W_cond (by rfl) (fun hb => ?_) (fun hb => ?_)
      · have hvX : v ≠ X := fun e => by rw [e] at hb; simp at hb
        have hup : u + 1 < p := by
          rcases hpn with q | q
          · exact q
          · rw [q] at hv; rw [hv] at hback; exact absurd hback hvX
        repeat' (first | refine w1g ?_ | refine w1l ?_ | refine w1q ?_ | refine w1b ?_ | refine w1p ?_ | ((first | refine w1r ?_ | refine w1k ?_ | refine w1e ?_); simp (maxSteps := 400000) (disch := omega) only [push_cast, ↓reduceIte, reduceCtorEq, Nat.reduceAdd, Nat.reduceSub, Nat.reduceEqDiff, Nat.reduceLeDiff, Nat.reduceLT, Nat.reduceBEq, Nat.reduceDiv, Nat.reduceMod, Nat.reducePow, Nat.reduceMul, Int.reduceToNat, Int.reduceLT, Int.reduceLE, hyl, hgu]) | refine an2 ?_ | fail)
        refine ⟨rfl, trivial, Int, 0, cI, [(v : Int)], rfl, by omega, fun x _ => ⟨rfl, rfl⟩, rfl, ?_⟩
        (refine sy1 ?_; try exact True.intro)
        refine ⟨rfl, ⟨Nat.le_of_ble_eq_true rfl, rfl⟩, trivial, [(v : Int)], rfl, by first | omega | (simp; omega), by first | omega | (simp; omega), ?_⟩
        (refine sy1 ?_; try exact True.intro)
        repeat' (first | refine w1g ?_ | refine w1l ?_ | refine w1q ?_ | refine w1b ?_ | refine w1p ?_ | ((first | refine w1r ?_ | refine w1k ?_ | refine w1e ?_); simp (maxSteps := 400000) (disch := omega) only [push_cast, ↓reduceIte, reduceCtorEq, Nat.reduceAdd, Nat.reduceSub, Nat.reduceEqDiff, Nat.reduceLeDiff, Nat.reduceLT, Nat.reduceBEq, Nat.reduceDiv, Nat.reduceMod, Nat.reducePow, Nat.reduceMul, Int.reduceToNat, Int.reduceLT, Int.reduceLE, hyl, hgu]) | refine an2 ?_ | fail)
        refine ⟨(u + 1, st), by dsimp only; omega, by dsimp only; omega, by rfl, ?_⟩
        dsimp only
        rw [hiu2, hcs]
      · have hvX : v = X := by
          have := bne_eq_false_iff_eq.1 hb
          omega
        have : u + 1 = p := by have := hleast hvX; omega
        rw [this]
        have hRl := cirL_len B X p
        generalize cirL B X p = R at *
        repeat' (first | refine w1g ?_ | refine w1l ?_ | refine w1q ?_ | refine w1b ?_ | refine w1p ?_ | ((first | refine w1r ?_ | refine w1k ?_ | refine w1e ?_); (refine sy1 ?_; try exact True.intro)) | refine an2 ?_ | fail)
        refine CallC.inl (i114 (k := 16) (st := u) (L := R) (by rfl) ?_ (by omega) rfl ?_)
        · intro j hj
          dsimp only at hj
          simp only [lm]
          rw [if_neg (by omega), if_neg (by omega), if_neg (by omega)]
        (refine sy1 ?_; try exact True.intro)
        repeat' (first | refine w1g ?_ | refine w1l ?_ | refine w1q ?_ | refine w1b ?_ | refine w1p ?_ | ((first | refine w1r ?_ | refine w1k ?_ | refine w1e ?_); (refine sy1 ?_; try exact True.intro)) | refine an2 ?_ | fail)
        refine W_ret ⟨[_], ⟨rfl, rfl⟩, ?_⟩
        simp (maxSteps := 400000) (disch := omega) only [push_cast, ↓reduceIte, reduceCtorEq, Nat.reduceAdd, Nat.reduceSub, Nat.reduceEqDiff, Nat.reduceLeDiff, Nat.reduceLT, Nat.reduceBEq, Nat.reduceDiv, Nat.reduceMod, Nat.reducePow, Nat.reduceMul, Int.reduceToNat, Int.reduceLT, Int.reduceLE, pack]
  exact ⟨fun h => key _ (fun _ => rfl) (fun q => absurd q h), fun h p h1 h2 => key _ (fun q => absurd h q) (fun _ => ⟨p, h1, h2, rfl⟩)⟩
theorem fn70n (n : Nat) (ls : List Af) (h0 : 0 < n) (hn : n ≤ 24) (hl : ls.length ≤ 240) (hls : ∀ e ∈ ls, LkOk n e) (h : ¬ Can (lkL ls) (rnds (lkL ls) (fun _ => 0) n)) : Sy.Fn Try.prog 70 [iv n, aA ls] nilS :=
  Fn_of_W mixed Xt70 rfl ((w70 n ls h0 hn hl hls).1 h)
theorem lk_in {n : Nat} {ls : List Af} (hls : ∀ e ∈ ls, LkOk n e) : ∀ e ∈ lkL ls, e.a < n ∧ e.b < n := fun e he => by
  obtain ⟨x, hx, rfl⟩ := List.mem_map.1 he
  obtain ⟨a1, a2, a3, a4, _⟩ := hls x hx
  constructor
  · show x.a.toNat < n; omega
  · show x.b.toNat < n; omega
theorem fn70s (n : Nat) (ls : List Af) (h0 : 0 < n) (hn : n ≤ 24) (hl : ls.length ≤ 240) (hls : ∀ e ∈ ls, LkOk n e) (h : Can (lkL ls) (rnds (lkL ls) (fun _ => 0) n)) : ∃ p, p ≤ n ∧ Per (brs (lkL ls) (n + 1)).by' (crcX n (lkL ls)) p ∧ Sy.Fn Try.prog 70 [iv n, aA ls] (aI (cirL (brs (lkL ls) (n + 1)).by' (crcX n (lkL ls)) p).reverse) := by
  have hin := lk_in hls
  have hlast := brs_last hin n
  have h1 : 0 ≤ (brs (lkL ls) (n + 1)).last := by
    rcases Int.lt_or_le (brs (lkL ls) (n + 1)).last 0 with q | q
    · exact absurd h (hlast.2.2.1 (by omega))
    · exact q
  have h2 := hlast.2.1
  obtain ⟨p, hp1, hp2⟩ := per_ex (brs_by hin h0 (n + 1)) (x := (brs (lkL ls) (n + 1)).last.toNat) (by omega)
  exact ⟨p, hp1, hp2, Fn_of_W mixed Xt70 rfl ((w70 n ls h0 hn hl hls).2 h p hp1 hp2)⟩
end Go.Proofs.Ytoiohkjomcbadaa

namespace Go.Proofs.Ytoiohkjomcbadaa
open Go Sy
set_option maxRecDepth 100000
set_option maxHeartbeats 4000000
set_option linter.unusedVariables false
set_option linter.unusedSimpArgs false
def Xm69_1 : C := regL [1, 2] none [⟨some 2, .box true 26 (.tmp 0), none⟩, ⟨some 4, .mv (.const (.pointer none)), none⟩]
def Xm69_3 : C := regL [5] (some [0, 0, 0, 6, 0, 16, 48, 112, 255, 511, 0, 2047]) [⟨some 9, .ld 26 3 true (.tmp 2), none⟩, ⟨some 10, .ld 26 3 true (.tmp 2), none⟩, ⟨some 11, .mv (.tmp 1), none⟩, ⟨some 12, .call 52 [.tmp 10, .tmp 11], none⟩, ⟨some 13, .fa 0 (.tmp 2), none⟩, ⟨some 14, .ld 22 1 false (.tmp 13), none⟩, ⟨some 15, .len (.tmp 14), none⟩, ⟨some 16, .mks 2 1 8 (.int .i64 0) (.tmp 15) (.tmp 15), none⟩, ⟨some 17, .bld (.agg #[.slice none 0 0, .slice none 0 0, .slice none 0 0, .slice none 0 0, .slice none 0 0, .slice none 0 0, .slice none 0 0, .bool false]) [(0, 3, .tmp 9), (3, 1, .tmp 12), (4, 1, .tmp 16)], none⟩, ⟨some 18, .box false 112 (.tmp 17), none⟩, ⟨some 5, .alc 107 (.pointer none), none⟩, ⟨none, .st 107 1 (.tmp 5) (.tmp 18), none⟩]
def Xm69_6 : C := regL [5, 23, 24] none [⟨some 19, .ld 107 1 false (.tmp 5), none⟩, ⟨some 20, .nilc (.tmp 19), none⟩, ⟨some 21, .fa 4 (.tmp 20), none⟩, ⟨some 22, .ld 24 1 false (.tmp 21), none⟩, ⟨some 23, .len (.tmp 22), none⟩, ⟨some 24, .mv (.const (.int .i64 0)), none⟩]
def Xm69_10 : C := regL [5, 23, 24, 25] none [⟨some 25, .bin 3 .lss (.tmp 24) (.tmp 23), none⟩]
def Xm69_12 : C := .cond (.tmp 25) .skip (.exit 0)
def Xm69_18 : C := regL [5, 6, 23, 24] none [⟨some 26, .mv (.tmp 24), none⟩, ⟨some 6, .mv (.tmp 26), none⟩]
def Xm69_19 : C := regL [5, 23, 24] none [⟨some 27, .ld 107 1 false (.tmp 5), none⟩, ⟨some 28, .nilc (.tmp 27), none⟩, ⟨some 29, .fa 4 (.tmp 28), none⟩, ⟨some 30, .ld 24 1 false (.tmp 29), none⟩, ⟨some 31, .mv (.tmp 6), none⟩, ⟨some 32, .ia 1 (.tmp 30) (.tmp 31), none⟩, ⟨none, .st 2 1 (.tmp 32) (.const (.int .i64 (-1))), none⟩]
def Xm69_17 : C := .seq Xm69_18 Xm69_19
def Xm69_16 : C := .block 1 Xm69_17
def Xm69_20 : C := regL [5, 23, 24] none [⟨some 33, .bin 3 .add (.tmp 24) (.const (.int .i64 1)), none⟩, ⟨some 24, .mv (.tmp 33), none⟩]
def Xm69_15 : C := seqL [5, 23, 24] Xm69_16 Xm69_20
def Xm69_11 : C := seqL [5, 23, 24] Xm69_12 Xm69_15
def Xm69_9 : C := .seq Xm69_10 Xm69_11
def Xm69_8 : C := loopL [5, 23, 24] Xm69_9
def Xm69_7 : C := .block 0 Xm69_8
def Xm69_5 : C := .seq Xm69_6 Xm69_7
def Xm69_23 : C := regL [5, 37, 38, 39] none [⟨some 34, .ld 107 1 false (.tmp 5), none⟩, ⟨some 35, .nilc (.tmp 34), none⟩, ⟨some 36, .fa 3 (.tmp 35), none⟩, ⟨some 37, .ld 23 1 false (.tmp 36), none⟩, ⟨some 38, .len (.tmp 37), none⟩, ⟨some 39, .mv (.const (.int .i64 0)), none⟩]
def Xm69_27 : C := regL [5, 37, 38, 39, 40] none [⟨some 40, .bin 3 .lss (.tmp 39) (.tmp 38), none⟩]
def Xm69_29 : C := .cond (.tmp 40) .skip (.exit 2)
def Xm69_35 : C := regL [5, 8, 37, 38, 39] none [⟨some 41, .ia 3 (.tmp 37) (.tmp 39), none⟩, ⟨some 42, .ld 39 3 true (.tmp 41), none⟩, ⟨some 8, .alc 39 (.agg #[.int .i64 0, .int .i64 0, .int .i64 0]), none⟩, ⟨none, .st 39 3 (.tmp 8) (.tmp 42), none⟩]
def Xm69_36 : C := regL [5, 37, 38, 39] (some [0, 0, 2, 6, 14, 0, 32, 126, 255, 511, 1023]) [⟨some 43, .ld 107 1 false (.tmp 5), none⟩, ⟨some 44, .ld 107 1 false (.tmp 5), none⟩, ⟨some 45, .nilc (.tmp 44), none⟩, ⟨some 46, .fa 6 (.tmp 45), none⟩, ⟨some 47, .ld 110 1 false (.tmp 46), none⟩, ⟨some 48, .mkf 112 [] [.tmp 5, .tmp 8], none⟩, ⟨some 49, .bls 29 1 1 (.nilFunc) [(0, 1, .tmp 48)], none⟩, ⟨some 50, .app 29 1 8 (.tmp 47) (.tmp 49), none⟩, ⟨some 51, .nilc (.tmp 43), none⟩, ⟨some 52, .fa 6 (.tmp 51), none⟩, ⟨none, .st 110 1 (.tmp 52) (.tmp 50), none⟩]
def Xm69_34 : C := .seq Xm69_35 Xm69_36
def Xm69_33 : C := .block 3 Xm69_34
def Xm69_37 : C := regL [5, 37, 38, 39] none [⟨some 53, .bin 3 .add (.tmp 39) (.const (.int .i64 1)), none⟩, ⟨some 39, .mv (.tmp 53), none⟩]
def Xm69_32 : C := seqL [5, 37, 38, 39] Xm69_33 Xm69_37
def Xm69_28 : C := seqL [5, 37, 38, 39] Xm69_29 Xm69_32
def Xm69_26 : C := .seq Xm69_27 Xm69_28
def Xm69_25 : C := loopL [5, 37, 38, 39] Xm69_26
def Xm69_24 : C := .block 2 Xm69_25
def Xm69_22 : C := .seq Xm69_23 Xm69_24
def Xm69_39 : C := regL [4] none [⟨some 54, .ld 107 1 false (.tmp 5), none⟩, ⟨some 4, .mv (.tmp 54), none⟩]
def Xm69_38 : C := .seq Xm69_39 .ret
def Xm69_21 : C := seqL [5] Xm69_22 Xm69_38
def Xm69_4 : C := seqL [5] Xm69_5 Xm69_21
def Xm69_2 : C := .seq Xm69_3 Xm69_4
def Xm69_0 : C := .seq Xm69_1 Xm69_2
theorem Xs69 : Text Try.prog 69 Xm69_0 55 2 [.t 4] := ⟨⟨Try.f69, [2], Try.func69, by kernel_rfl, by kernel_rfl, by kernel_rfl, by kernel_rfl⟩⟩
def cCl (b : Nat) (a : Af) : List AV := [.clo 112 [] [ptB b 0, .fp (cA a) 0]]
theorem lCl (b : Nat) (a : Af) : (cCl b a).length = 1 := rfl
theorem frCl (b : Nat) (a : Af) : frzAll (cCl b a) = true := rfl
theorem tCl (b : Nat) (a : Af) : List.take 1 (cCl b a) = cCl b a := rfl
theorem nCl (b : Nat) (a : Af) : nth (cCl b a) 0 = .clo 112 [] [ptB b 0, .fp (cA a) 0] := rfl
attribute [push_cast] lCl frCl tCl nCl
def slt (b : Bool) (x : AV) : AV := if b = true then x else .bad
theorem slt_t (x : AV) : slt true x = x := rfl
theorem slt_f (x : AV) : slt false x = .bad := rfl
theorem le_stK {s s' : S} (ks : List Nat) (nx : Nat) (h : ∀ j, nx ≤ j → lm s.mem j = none) (he : (⟨keepL s.tm ks, s.mem, nx⟩ : S) = s') : le s s' := he ▸ le_keepL ks nx h
def mNew (b : Nat) (a : Af) : Bool → Mem
  | true => [(60, .row 0 29 1 dAf (cCl b) [a])]
  | false => []
def bRow (b : Nat) (T : List Af) (a : Af) (k : Nat) : Bool → Blk
  | true => .row (k + 1) 29 1 dAf (cCl b) (T ++ [a])
  | false => .row k 29 1 dAf (cCl b) T
def bEng (j : Jb) (L : List Af) (k : Nat) : Bool → Blk
  | true => .cells [aT j.ts, aA j.af, aI j.tm, .sl 3 dAf cA L, .row 12 0, .row 24 0, .row 25 (k + 1), bv false]
  | false => .cells [aT j.ts, aA j.af, aI j.tm, .sl 3 dAf cA L, .row 12 0, .row 24 0, .row 25 k, bv false]
def nNx : Bool → Nat
  | true => 61
  | false => 60
def stR (j : Jb) (L T : List Af) (a : Af) (b k : Nat) (fr st : Blk) (D : Nat → Bool) : S :=
  ⟨[(5, .own 15 0), (8, .fp (cA a) 0), (37, .sl 3 dAf cA L), (38, iv L.length), (39, iv k), (43, slt (D 0) (.own 14 0)), (44, slt (D 1) (.own 14 0)), (45, slt (D 2) (.own 14 0)), (46, slt (D 3) (.own 14 6)), (47, slt (D 4) (.row 25 k)), (48, slt (D 5) (.clo 112 [] [ptB b 0, .fp (cA a) 0])), (49, slt (D 6) (.row 60 0)), (50, slt (D 7) (.row 25 (k + 1))), (51, slt (D 8) (.own 14 0)), (52, slt (D 9) (.own 14 6))],
    (25, bRow b T a k (D 7)) :: (24, .row 0 64 4 dRs cR []) :: (23, .oth (.nm 15 b)) :: (2, fr) :: (12, st) :: (14, bEng j L k (D 10)) :: (15, .cells [.own 14 0]) :: mNew b a (D 6), nNx (D 6)⟩
theorem le_cq_clo {s : S} (t j k b off g : Nat) (x : AV) (hx : frzB x = true) (ht : lk s.tm t = .cq g [] [.own k off, x]) (hn : lm s.mem j = some (.oth (.nm k b))) : le s ⟨(t, .clo g [] [ptB b off, x]) :: s.tm, s.mem, s.nx⟩ :=
  le_slot t _ fun G E a w hS y hy => by
    have h1 := nm_b hS hn
    rw [ht] at hy
    simp only [sat] at hy ⊢
    obtain ⟨fv, cv, rfl, h2, h3⟩ := hy
    refine ⟨fv, cv, rfl, ?_, ?_⟩
    · simpa only [fsatT, satT] using h2
    · simp only [satT, sat] at h3
      obtain ⟨y1, ys, rfl, ⟨b', q1, rfl⟩, y2, ys2, rfl, q2, rfl⟩ := h3
      rw [h1] at q1; cases q1
      simp only [fsatT, fsat]
      exact ⟨_, _, rfl, rfl, _, _, rfl, fsat_of_sat x y2 hx q2, rfl⟩
theorem no60 (b : Nat) (T : List Af) (a : Af) (k : Nat) (j : Jb) (L : List Af) (fr st : Blk) (c d e : Bool) (q : Nat) (hq : nNx c ≤ q) : lm ((25, bRow b T a k d) :: (24, .row 0 64 4 dRs cR []) :: (23, .oth (.nm 15 b)) :: (2, fr) :: (12, st) :: (14, bEng j L k e) :: (15, .cells [.own 14 0]) :: mNew b a c) q = none := by
  cases c
  all_goals
    simp only [nNx] at hq
    simp only [mNew, lm]
    repeat rw [if_neg (by omega)]
theorem reg69 (j : Jb) (L T : List Af) (a : Af) (b k : Nat) (vs : Array Value) (tmF : List (Nat × AV)) (st : List Int) (hT : T.length = k) (hk : k ≤ 1000) {Q : Ex → S → Prop}
    (hQ : Q .n ⟨[(5, .own 15 0), (37, .sl 3 dAf cA L), (38, iv L.length), (39, iv k)], [(25, .row (k + 1) 29 1 dAf (cCl b) (T ++ [a])), (24, .row 0 64 4 dRs cR []), (23, .oth (.nm 15 b)), (2, .oth (.fr vs tmF)), (12, .row 0 2 1 0 cI st), (14, .cells [aT j.ts, aA j.af, aI j.tm, .sl 3 dAf cA L, .row 12 0, .row 24 0, .row 25 (k + 1), bv false]), (15, .cells [.own 14 0]), (60, .row 0 29 1 dAf (cCl b) [a])], 61⟩) :
    W Try.prog 55 Xm69_36 ⟨[(8, .fp (cA a) 0), (5, .own 15 0), (37, .sl 3 dAf cA L), (38, iv L.length), (39, iv k)], [(25, .row k 29 1 dAf (cCl b) T), (24, .row 0 64 4 dRs cR []), (23, .oth (.nm 15 b)), (2, .oth (.fr vs tmF)), (12, .row 0 2 1 0 cI st), (14, .cells [aT j.ts, aA j.af, aI j.tm, .sl 3 dAf cA L, .row 12 0, .row 24 0, .row 25 k, bv false]), (15, .cells [.own 14 0])], 60⟩ Q := by
  refine W_regJ (stR j L T a b k (.oth (.fr vs tmF)) (.row 0 2 1 0 cI st)) ?_ (fun D i ro m hro hms hD ha hcl => ?_) (fun D hD => ?_)
  · exact le_stK [5, 8, 37, 38, 39, 43, 44, 45, 46, 47, 48, 49, 50, 51, 52] 60 (fun q hq => no60 b T a k j L (.oth (.fr vs tmF)) (.row 0 2 1 0 cI st) false false false q hq) (by rfl)
  · rcases i with _ | _ | _ | _ | _ | _ | _ | _ | _ | _ | _ | i
    all_goals simp only [List.getElem?_cons_zero, List.getElem?_cons_succ, List.getElem?_nil, Option.some.injEq, reduceCtorEq] at hro hms
    all_goals subst hro
    all_goals subst hms
    all_goals unfold stR
    · cases h6 : D 6 <;> cases h7 : D 7 <;> cases h10 : D 10
      all_goals simp (maxSteps := 400000) (disch := omega) only [push_cast, ↓reduceIte, reduceCtorEq, Nat.reduceAdd, Nat.reduceSub, Nat.reduceEqDiff, Nat.reduceLeDiff, Nat.reduceLT, Nat.reduceBEq, Nat.reduceDiv, Nat.reduceMod, Nat.reducePow, Nat.reduceMul, Int.reduceToNat, Int.reduceLT, Int.reduceLE, slt_t, slt_f, mNew, bRow, bEng, nNx, List.cons_append, List.nil_append, hD, h6, h7, h10]
      all_goals (first | exact le_stK [5, 8, 37, 38, 39, 43, 44, 45, 46, 47, 48, 49, 50, 51, 52] _ (fun q hq => no60 b T a k j L (.oth (.fr vs tmF)) (.row 0 2 1 0 cI st) false false false q hq) (by rfl) | exact le_stK [5, 8, 37, 38, 39, 43, 44, 45, 46, 47, 48, 49, 50, 51, 52] _ (fun q hq => no60 b T a k j L (.oth (.fr vs tmF)) (.row 0 2 1 0 cI st) false false true q hq) (by rfl) | exact le_stK [5, 8, 37, 38, 39, 43, 44, 45, 46, 47, 48, 49, 50, 51, 52] _ (fun q hq => no60 b T a k j L (.oth (.fr vs tmF)) (.row 0 2 1 0 cI st) false true false q hq) (by rfl) | exact le_stK [5, 8, 37, 38, 39, 43, 44, 45, 46, 47, 48, 49, 50, 51, 52] _ (fun q hq => no60 b T a k j L (.oth (.fr vs tmF)) (.row 0 2 1 0 cI st) false true true q hq) (by rfl) | exact le_stK [5, 8, 37, 38, 39, 43, 44, 45, 46, 47, 48, 49, 50, 51, 52] _ (fun q hq => no60 b T a k j L (.oth (.fr vs tmF)) (.row 0 2 1 0 cI st) true false false q hq) (by rfl) | exact le_stK [5, 8, 37, 38, 39, 43, 44, 45, 46, 47, 48, 49, 50, 51, 52] _ (fun q hq => no60 b T a k j L (.oth (.fr vs tmF)) (.row 0 2 1 0 cI st) true false true q hq) (by rfl) | exact le_stK [5, 8, 37, 38, 39, 43, 44, 45, 46, 47, 48, 49, 50, 51, 52] _ (fun q hq => no60 b T a k j L (.oth (.fr vs tmF)) (.row 0 2 1 0 cI st) true true false q hq) (by rfl) | exact le_stK [5, 8, 37, 38, 39, 43, 44, 45, 46, 47, 48, 49, 50, 51, 52] _ (fun q hq => no60 b T a k j L (.oth (.fr vs tmF)) (.row 0 2 1 0 cI st) true true true q hq) (by rfl))
    · cases h6 : D 6 <;> cases h7 : D 7 <;> cases h10 : D 10
      all_goals simp (maxSteps := 400000) (disch := omega) only [push_cast, ↓reduceIte, reduceCtorEq, Nat.reduceAdd, Nat.reduceSub, Nat.reduceEqDiff, Nat.reduceLeDiff, Nat.reduceLT, Nat.reduceBEq, Nat.reduceDiv, Nat.reduceMod, Nat.reducePow, Nat.reduceMul, Int.reduceToNat, Int.reduceLT, Int.reduceLE, slt_t, slt_f, mNew, bRow, bEng, nNx, List.cons_append, List.nil_append, hD, h6, h7, h10]
      all_goals (first | exact le_stK [5, 8, 37, 38, 39, 43, 44, 45, 46, 47, 48, 49, 50, 51, 52] _ (fun q hq => no60 b T a k j L (.oth (.fr vs tmF)) (.row 0 2 1 0 cI st) false false false q hq) (by rfl) | exact le_stK [5, 8, 37, 38, 39, 43, 44, 45, 46, 47, 48, 49, 50, 51, 52] _ (fun q hq => no60 b T a k j L (.oth (.fr vs tmF)) (.row 0 2 1 0 cI st) false false true q hq) (by rfl) | exact le_stK [5, 8, 37, 38, 39, 43, 44, 45, 46, 47, 48, 49, 50, 51, 52] _ (fun q hq => no60 b T a k j L (.oth (.fr vs tmF)) (.row 0 2 1 0 cI st) false true false q hq) (by rfl) | exact le_stK [5, 8, 37, 38, 39, 43, 44, 45, 46, 47, 48, 49, 50, 51, 52] _ (fun q hq => no60 b T a k j L (.oth (.fr vs tmF)) (.row 0 2 1 0 cI st) false true true q hq) (by rfl) | exact le_stK [5, 8, 37, 38, 39, 43, 44, 45, 46, 47, 48, 49, 50, 51, 52] _ (fun q hq => no60 b T a k j L (.oth (.fr vs tmF)) (.row 0 2 1 0 cI st) true false false q hq) (by rfl) | exact le_stK [5, 8, 37, 38, 39, 43, 44, 45, 46, 47, 48, 49, 50, 51, 52] _ (fun q hq => no60 b T a k j L (.oth (.fr vs tmF)) (.row 0 2 1 0 cI st) true false true q hq) (by rfl) | exact le_stK [5, 8, 37, 38, 39, 43, 44, 45, 46, 47, 48, 49, 50, 51, 52] _ (fun q hq => no60 b T a k j L (.oth (.fr vs tmF)) (.row 0 2 1 0 cI st) true true false q hq) (by rfl) | exact le_stK [5, 8, 37, 38, 39, 43, 44, 45, 46, 47, 48, 49, 50, 51, 52] _ (fun q hq => no60 b T a k j L (.oth (.fr vs tmF)) (.row 0 2 1 0 cI st) true true true q hq) (by rfl))
    · have a1 := ha 1 (by unfold tb; decide)
      cases h6 : D 6 <;> cases h7 : D 7 <;> cases h10 : D 10
      all_goals simp (maxSteps := 400000) (disch := omega) only [push_cast, ↓reduceIte, reduceCtorEq, Nat.reduceAdd, Nat.reduceSub, Nat.reduceEqDiff, Nat.reduceLeDiff, Nat.reduceLT, Nat.reduceBEq, Nat.reduceDiv, Nat.reduceMod, Nat.reducePow, Nat.reduceMul, Int.reduceToNat, Int.reduceLT, Int.reduceLE, slt_t, slt_f, mNew, bRow, bEng, nNx, List.cons_append, List.nil_append, hD, a1, h6, h7, h10]
      all_goals (first | exact le_stK [5, 8, 37, 38, 39, 43, 44, 45, 46, 47, 48, 49, 50, 51, 52] _ (fun q hq => no60 b T a k j L (.oth (.fr vs tmF)) (.row 0 2 1 0 cI st) false false false q hq) (by rfl) | exact le_stK [5, 8, 37, 38, 39, 43, 44, 45, 46, 47, 48, 49, 50, 51, 52] _ (fun q hq => no60 b T a k j L (.oth (.fr vs tmF)) (.row 0 2 1 0 cI st) false false true q hq) (by rfl) | exact le_stK [5, 8, 37, 38, 39, 43, 44, 45, 46, 47, 48, 49, 50, 51, 52] _ (fun q hq => no60 b T a k j L (.oth (.fr vs tmF)) (.row 0 2 1 0 cI st) false true false q hq) (by rfl) | exact le_stK [5, 8, 37, 38, 39, 43, 44, 45, 46, 47, 48, 49, 50, 51, 52] _ (fun q hq => no60 b T a k j L (.oth (.fr vs tmF)) (.row 0 2 1 0 cI st) false true true q hq) (by rfl) | exact le_stK [5, 8, 37, 38, 39, 43, 44, 45, 46, 47, 48, 49, 50, 51, 52] _ (fun q hq => no60 b T a k j L (.oth (.fr vs tmF)) (.row 0 2 1 0 cI st) true false false q hq) (by rfl) | exact le_stK [5, 8, 37, 38, 39, 43, 44, 45, 46, 47, 48, 49, 50, 51, 52] _ (fun q hq => no60 b T a k j L (.oth (.fr vs tmF)) (.row 0 2 1 0 cI st) true false true q hq) (by rfl) | exact le_stK [5, 8, 37, 38, 39, 43, 44, 45, 46, 47, 48, 49, 50, 51, 52] _ (fun q hq => no60 b T a k j L (.oth (.fr vs tmF)) (.row 0 2 1 0 cI st) true true false q hq) (by rfl) | exact le_stK [5, 8, 37, 38, 39, 43, 44, 45, 46, 47, 48, 49, 50, 51, 52] _ (fun q hq => no60 b T a k j L (.oth (.fr vs tmF)) (.row 0 2 1 0 cI st) true true true q hq) (by rfl))
    · have a1 := ha 1 (by unfold tb; decide)
      have a2 := ha 2 (by unfold tb; decide)
      cases h6 : D 6 <;> cases h7 : D 7 <;> cases h10 : D 10
      all_goals simp (maxSteps := 400000) (disch := omega) only [push_cast, ↓reduceIte, reduceCtorEq, Nat.reduceAdd, Nat.reduceSub, Nat.reduceEqDiff, Nat.reduceLeDiff, Nat.reduceLT, Nat.reduceBEq, Nat.reduceDiv, Nat.reduceMod, Nat.reducePow, Nat.reduceMul, Int.reduceToNat, Int.reduceLT, Int.reduceLE, slt_t, slt_f, mNew, bRow, bEng, nNx, List.cons_append, List.nil_append, hD, a1, a2, h6, h7, h10]
      all_goals (first | exact le_stK [5, 8, 37, 38, 39, 43, 44, 45, 46, 47, 48, 49, 50, 51, 52] _ (fun q hq => no60 b T a k j L (.oth (.fr vs tmF)) (.row 0 2 1 0 cI st) false false false q hq) (by rfl) | exact le_stK [5, 8, 37, 38, 39, 43, 44, 45, 46, 47, 48, 49, 50, 51, 52] _ (fun q hq => no60 b T a k j L (.oth (.fr vs tmF)) (.row 0 2 1 0 cI st) false false true q hq) (by rfl) | exact le_stK [5, 8, 37, 38, 39, 43, 44, 45, 46, 47, 48, 49, 50, 51, 52] _ (fun q hq => no60 b T a k j L (.oth (.fr vs tmF)) (.row 0 2 1 0 cI st) false true false q hq) (by rfl) | exact le_stK [5, 8, 37, 38, 39, 43, 44, 45, 46, 47, 48, 49, 50, 51, 52] _ (fun q hq => no60 b T a k j L (.oth (.fr vs tmF)) (.row 0 2 1 0 cI st) false true true q hq) (by rfl) | exact le_stK [5, 8, 37, 38, 39, 43, 44, 45, 46, 47, 48, 49, 50, 51, 52] _ (fun q hq => no60 b T a k j L (.oth (.fr vs tmF)) (.row 0 2 1 0 cI st) true false false q hq) (by rfl) | exact le_stK [5, 8, 37, 38, 39, 43, 44, 45, 46, 47, 48, 49, 50, 51, 52] _ (fun q hq => no60 b T a k j L (.oth (.fr vs tmF)) (.row 0 2 1 0 cI st) true false true q hq) (by rfl) | exact le_stK [5, 8, 37, 38, 39, 43, 44, 45, 46, 47, 48, 49, 50, 51, 52] _ (fun q hq => no60 b T a k j L (.oth (.fr vs tmF)) (.row 0 2 1 0 cI st) true true false q hq) (by rfl) | exact le_stK [5, 8, 37, 38, 39, 43, 44, 45, 46, 47, 48, 49, 50, 51, 52] _ (fun q hq => no60 b T a k j L (.oth (.fr vs tmF)) (.row 0 2 1 0 cI st) true true true q hq) (by rfl))
    · have a1 := ha 1 (by unfold tb; decide)
      have a2 := ha 2 (by unfold tb; decide)
      have a3 := ha 3 (by unfold tb; decide)
      have h10 : D 10 = false := by
        rw [← Bool.not_eq_true]
        intro q
        have := hcl 10 1023 q rfl 4 (by unfold tb; decide)
        rw [hD] at this; cases this
      cases h6 : D 6 <;> cases h7 : D 7
      all_goals simp (maxSteps := 400000) (disch := omega) only [push_cast, ↓reduceIte, reduceCtorEq, Nat.reduceAdd, Nat.reduceSub, Nat.reduceEqDiff, Nat.reduceLeDiff, Nat.reduceLT, Nat.reduceBEq, Nat.reduceDiv, Nat.reduceMod, Nat.reducePow, Nat.reduceMul, Int.reduceToNat, Int.reduceLT, Int.reduceLE, slt_t, slt_f, mNew, bRow, bEng, nNx, List.cons_append, List.nil_append, hD, a1, a2, a3, h6, h7, h10]
      all_goals (first | exact le_stK [5, 8, 37, 38, 39, 43, 44, 45, 46, 47, 48, 49, 50, 51, 52] _ (fun q hq => no60 b T a k j L (.oth (.fr vs tmF)) (.row 0 2 1 0 cI st) false false false q hq) (by rfl) | exact le_stK [5, 8, 37, 38, 39, 43, 44, 45, 46, 47, 48, 49, 50, 51, 52] _ (fun q hq => no60 b T a k j L (.oth (.fr vs tmF)) (.row 0 2 1 0 cI st) false false true q hq) (by rfl) | exact le_stK [5, 8, 37, 38, 39, 43, 44, 45, 46, 47, 48, 49, 50, 51, 52] _ (fun q hq => no60 b T a k j L (.oth (.fr vs tmF)) (.row 0 2 1 0 cI st) false true false q hq) (by rfl) | exact le_stK [5, 8, 37, 38, 39, 43, 44, 45, 46, 47, 48, 49, 50, 51, 52] _ (fun q hq => no60 b T a k j L (.oth (.fr vs tmF)) (.row 0 2 1 0 cI st) false true true q hq) (by rfl) | exact le_stK [5, 8, 37, 38, 39, 43, 44, 45, 46, 47, 48, 49, 50, 51, 52] _ (fun q hq => no60 b T a k j L (.oth (.fr vs tmF)) (.row 0 2 1 0 cI st) true false false q hq) (by rfl) | exact le_stK [5, 8, 37, 38, 39, 43, 44, 45, 46, 47, 48, 49, 50, 51, 52] _ (fun q hq => no60 b T a k j L (.oth (.fr vs tmF)) (.row 0 2 1 0 cI st) true false true q hq) (by rfl) | exact le_stK [5, 8, 37, 38, 39, 43, 44, 45, 46, 47, 48, 49, 50, 51, 52] _ (fun q hq => no60 b T a k j L (.oth (.fr vs tmF)) (.row 0 2 1 0 cI st) true true false q hq) (by rfl) | exact le_stK [5, 8, 37, 38, 39, 43, 44, 45, 46, 47, 48, 49, 50, 51, 52] _ (fun q hq => no60 b T a k j L (.oth (.fr vs tmF)) (.row 0 2 1 0 cI st) true true true q hq) (by rfl))
    · cases h6 : D 6 <;> cases h7 : D 7 <;> cases h10 : D 10
      all_goals simp (maxSteps := 400000) (disch := omega) only [push_cast, ↓reduceIte, reduceCtorEq, Nat.reduceAdd, Nat.reduceSub, Nat.reduceEqDiff, Nat.reduceLeDiff, Nat.reduceLT, Nat.reduceBEq, Nat.reduceDiv, Nat.reduceMod, Nat.reducePow, Nat.reduceMul, Int.reduceToNat, Int.reduceLT, Int.reduceLE, slt_t, slt_f, mNew, bRow, bEng, nNx, List.cons_append, List.nil_append, hD, h6, h7, h10]
      all_goals refine le.trans (le_cq_clo 48 23 15 b 0 112 (.fp (cA a) 0) rfl rfl rfl) ?_
      all_goals (first | exact le_stK [5, 8, 37, 38, 39, 43, 44, 45, 46, 47, 48, 49, 50, 51, 52] _ (fun q hq => no60 b T a k j L (.oth (.fr vs tmF)) (.row 0 2 1 0 cI st) false false false q hq) (by rfl) | exact le_stK [5, 8, 37, 38, 39, 43, 44, 45, 46, 47, 48, 49, 50, 51, 52] _ (fun q hq => no60 b T a k j L (.oth (.fr vs tmF)) (.row 0 2 1 0 cI st) false false true q hq) (by rfl) | exact le_stK [5, 8, 37, 38, 39, 43, 44, 45, 46, 47, 48, 49, 50, 51, 52] _ (fun q hq => no60 b T a k j L (.oth (.fr vs tmF)) (.row 0 2 1 0 cI st) false true false q hq) (by rfl) | exact le_stK [5, 8, 37, 38, 39, 43, 44, 45, 46, 47, 48, 49, 50, 51, 52] _ (fun q hq => no60 b T a k j L (.oth (.fr vs tmF)) (.row 0 2 1 0 cI st) false true true q hq) (by rfl) | exact le_stK [5, 8, 37, 38, 39, 43, 44, 45, 46, 47, 48, 49, 50, 51, 52] _ (fun q hq => no60 b T a k j L (.oth (.fr vs tmF)) (.row 0 2 1 0 cI st) true false false q hq) (by rfl) | exact le_stK [5, 8, 37, 38, 39, 43, 44, 45, 46, 47, 48, 49, 50, 51, 52] _ (fun q hq => no60 b T a k j L (.oth (.fr vs tmF)) (.row 0 2 1 0 cI st) true false true q hq) (by rfl) | exact le_stK [5, 8, 37, 38, 39, 43, 44, 45, 46, 47, 48, 49, 50, 51, 52] _ (fun q hq => no60 b T a k j L (.oth (.fr vs tmF)) (.row 0 2 1 0 cI st) true true false q hq) (by rfl) | exact le_stK [5, 8, 37, 38, 39, 43, 44, 45, 46, 47, 48, 49, 50, 51, 52] _ (fun q hq => no60 b T a k j L (.oth (.fr vs tmF)) (.row 0 2 1 0 cI st) true true true q hq) (by rfl))
    · have a5 := ha 5 (by unfold tb; decide)
      cases h7 : D 7 <;> cases h10 : D 10
      all_goals simp (maxSteps := 400000) (disch := omega) only [push_cast, ↓reduceIte, reduceCtorEq, Nat.reduceAdd, Nat.reduceSub, Nat.reduceEqDiff, Nat.reduceLeDiff, Nat.reduceLT, Nat.reduceBEq, Nat.reduceDiv, Nat.reduceMod, Nat.reducePow, Nat.reduceMul, Int.reduceToNat, Int.reduceLT, Int.reduceLE, slt_t, slt_f, mNew, bRow, bEng, nNx, List.cons_append, List.nil_append, hD, a5, h7, h10]
      all_goals refine ⟨rfl, trivial, Af, dAf, cCl b, [a], rfl, by omega, fun x _ => ⟨rfl, rfl⟩, rfl, ?_⟩
      all_goals simp (maxSteps := 400000) (disch := omega) only [push_cast, ↓reduceIte, reduceCtorEq, Nat.reduceAdd, Nat.reduceSub, Nat.reduceEqDiff, Nat.reduceLeDiff, Nat.reduceLT, Nat.reduceBEq, Nat.reduceDiv, Nat.reduceMod, Nat.reducePow, Nat.reduceMul, Int.reduceToNat, Int.reduceLT, Int.reduceLE, slt_t, slt_f]
      all_goals (first | exact le_stK [5, 8, 37, 38, 39, 43, 44, 45, 46, 47, 48, 49, 50, 51, 52] _ (fun q hq => no60 b T a k j L (.oth (.fr vs tmF)) (.row 0 2 1 0 cI st) false false false q hq) (by rfl) | exact le_stK [5, 8, 37, 38, 39, 43, 44, 45, 46, 47, 48, 49, 50, 51, 52] _ (fun q hq => no60 b T a k j L (.oth (.fr vs tmF)) (.row 0 2 1 0 cI st) false false true q hq) (by rfl) | exact le_stK [5, 8, 37, 38, 39, 43, 44, 45, 46, 47, 48, 49, 50, 51, 52] _ (fun q hq => no60 b T a k j L (.oth (.fr vs tmF)) (.row 0 2 1 0 cI st) false true false q hq) (by rfl) | exact le_stK [5, 8, 37, 38, 39, 43, 44, 45, 46, 47, 48, 49, 50, 51, 52] _ (fun q hq => no60 b T a k j L (.oth (.fr vs tmF)) (.row 0 2 1 0 cI st) false true true q hq) (by rfl) | exact le_stK [5, 8, 37, 38, 39, 43, 44, 45, 46, 47, 48, 49, 50, 51, 52] _ (fun q hq => no60 b T a k j L (.oth (.fr vs tmF)) (.row 0 2 1 0 cI st) true false false q hq) (by rfl) | exact le_stK [5, 8, 37, 38, 39, 43, 44, 45, 46, 47, 48, 49, 50, 51, 52] _ (fun q hq => no60 b T a k j L (.oth (.fr vs tmF)) (.row 0 2 1 0 cI st) true false true q hq) (by rfl) | exact le_stK [5, 8, 37, 38, 39, 43, 44, 45, 46, 47, 48, 49, 50, 51, 52] _ (fun q hq => no60 b T a k j L (.oth (.fr vs tmF)) (.row 0 2 1 0 cI st) true true false q hq) (by rfl) | exact le_stK [5, 8, 37, 38, 39, 43, 44, 45, 46, 47, 48, 49, 50, 51, 52] _ (fun q hq => no60 b T a k j L (.oth (.fr vs tmF)) (.row 0 2 1 0 cI st) true true true q hq) (by rfl))
    · have a4 := ha 4 (by unfold tb; decide)
      have a6 := ha 6 (by unfold tb; decide)
      cases h10 : D 10
      all_goals simp (maxSteps := 400000) (disch := omega) only [push_cast, ↓reduceIte, reduceCtorEq, Nat.reduceAdd, Nat.reduceSub, Nat.reduceEqDiff, Nat.reduceLeDiff, Nat.reduceLT, Nat.reduceBEq, Nat.reduceDiv, Nat.reduceMod, Nat.reducePow, Nat.reduceMul, Int.reduceToNat, Int.reduceLT, Int.reduceLE, slt_t, slt_f, mNew, bRow, bEng, nNx, List.cons_append, List.nil_append, hD, a4, a6, h10]
      all_goals refine ⟨rfl, ⟨Nat.le_of_ble_eq_true rfl, rfl⟩, trivial, [a], rfl, by first | omega | (simp; omega), by first | omega | (simp; omega), ?_⟩
      all_goals simp (maxSteps := 400000) (disch := omega) only [push_cast, ↓reduceIte, reduceCtorEq, Nat.reduceAdd, Nat.reduceSub, Nat.reduceEqDiff, Nat.reduceLeDiff, Nat.reduceLT, Nat.reduceBEq, Nat.reduceDiv, Nat.reduceMod, Nat.reducePow, Nat.reduceMul, Int.reduceToNat, Int.reduceLT, Int.reduceLE, slt_t, slt_f]
      all_goals (first | exact le_stK [5, 8, 37, 38, 39, 43, 44, 45, 46, 47, 48, 49, 50, 51, 52] _ (fun q hq => no60 b T a k j L (.oth (.fr vs tmF)) (.row 0 2 1 0 cI st) false false false q hq) (by rfl) | exact le_stK [5, 8, 37, 38, 39, 43, 44, 45, 46, 47, 48, 49, 50, 51, 52] _ (fun q hq => no60 b T a k j L (.oth (.fr vs tmF)) (.row 0 2 1 0 cI st) false false true q hq) (by rfl) | exact le_stK [5, 8, 37, 38, 39, 43, 44, 45, 46, 47, 48, 49, 50, 51, 52] _ (fun q hq => no60 b T a k j L (.oth (.fr vs tmF)) (.row 0 2 1 0 cI st) false true false q hq) (by rfl) | exact le_stK [5, 8, 37, 38, 39, 43, 44, 45, 46, 47, 48, 49, 50, 51, 52] _ (fun q hq => no60 b T a k j L (.oth (.fr vs tmF)) (.row 0 2 1 0 cI st) false true true q hq) (by rfl) | exact le_stK [5, 8, 37, 38, 39, 43, 44, 45, 46, 47, 48, 49, 50, 51, 52] _ (fun q hq => no60 b T a k j L (.oth (.fr vs tmF)) (.row 0 2 1 0 cI st) true false false q hq) (by rfl) | exact le_stK [5, 8, 37, 38, 39, 43, 44, 45, 46, 47, 48, 49, 50, 51, 52] _ (fun q hq => no60 b T a k j L (.oth (.fr vs tmF)) (.row 0 2 1 0 cI st) true false true q hq) (by rfl) | exact le_stK [5, 8, 37, 38, 39, 43, 44, 45, 46, 47, 48, 49, 50, 51, 52] _ (fun q hq => no60 b T a k j L (.oth (.fr vs tmF)) (.row 0 2 1 0 cI st) true true false q hq) (by rfl) | exact le_stK [5, 8, 37, 38, 39, 43, 44, 45, 46, 47, 48, 49, 50, 51, 52] _ (fun q hq => no60 b T a k j L (.oth (.fr vs tmF)) (.row 0 2 1 0 cI st) true true true q hq) (by rfl))
    · have a0 := ha 0 (by unfold tb; decide)
      cases h6 : D 6 <;> cases h7 : D 7 <;> cases h10 : D 10
      all_goals simp (maxSteps := 400000) (disch := omega) only [push_cast, ↓reduceIte, reduceCtorEq, Nat.reduceAdd, Nat.reduceSub, Nat.reduceEqDiff, Nat.reduceLeDiff, Nat.reduceLT, Nat.reduceBEq, Nat.reduceDiv, Nat.reduceMod, Nat.reducePow, Nat.reduceMul, Int.reduceToNat, Int.reduceLT, Int.reduceLE, slt_t, slt_f, mNew, bRow, bEng, nNx, List.cons_append, List.nil_append, hD, a0, h6, h7, h10]
      all_goals (first | exact le_stK [5, 8, 37, 38, 39, 43, 44, 45, 46, 47, 48, 49, 50, 51, 52] _ (fun q hq => no60 b T a k j L (.oth (.fr vs tmF)) (.row 0 2 1 0 cI st) false false false q hq) (by rfl) | exact le_stK [5, 8, 37, 38, 39, 43, 44, 45, 46, 47, 48, 49, 50, 51, 52] _ (fun q hq => no60 b T a k j L (.oth (.fr vs tmF)) (.row 0 2 1 0 cI st) false false true q hq) (by rfl) | exact le_stK [5, 8, 37, 38, 39, 43, 44, 45, 46, 47, 48, 49, 50, 51, 52] _ (fun q hq => no60 b T a k j L (.oth (.fr vs tmF)) (.row 0 2 1 0 cI st) false true false q hq) (by rfl) | exact le_stK [5, 8, 37, 38, 39, 43, 44, 45, 46, 47, 48, 49, 50, 51, 52] _ (fun q hq => no60 b T a k j L (.oth (.fr vs tmF)) (.row 0 2 1 0 cI st) false true true q hq) (by rfl) | exact le_stK [5, 8, 37, 38, 39, 43, 44, 45, 46, 47, 48, 49, 50, 51, 52] _ (fun q hq => no60 b T a k j L (.oth (.fr vs tmF)) (.row 0 2 1 0 cI st) true false false q hq) (by rfl) | exact le_stK [5, 8, 37, 38, 39, 43, 44, 45, 46, 47, 48, 49, 50, 51, 52] _ (fun q hq => no60 b T a k j L (.oth (.fr vs tmF)) (.row 0 2 1 0 cI st) true false true q hq) (by rfl) | exact le_stK [5, 8, 37, 38, 39, 43, 44, 45, 46, 47, 48, 49, 50, 51, 52] _ (fun q hq => no60 b T a k j L (.oth (.fr vs tmF)) (.row 0 2 1 0 cI st) true true false q hq) (by rfl) | exact le_stK [5, 8, 37, 38, 39, 43, 44, 45, 46, 47, 48, 49, 50, 51, 52] _ (fun q hq => no60 b T a k j L (.oth (.fr vs tmF)) (.row 0 2 1 0 cI st) true true true q hq) (by rfl))
    · have a8 := ha 8 (by unfold tb; decide)
      cases h6 : D 6 <;> cases h7 : D 7 <;> cases h10 : D 10
      all_goals simp (maxSteps := 400000) (disch := omega) only [push_cast, ↓reduceIte, reduceCtorEq, Nat.reduceAdd, Nat.reduceSub, Nat.reduceEqDiff, Nat.reduceLeDiff, Nat.reduceLT, Nat.reduceBEq, Nat.reduceDiv, Nat.reduceMod, Nat.reducePow, Nat.reduceMul, Int.reduceToNat, Int.reduceLT, Int.reduceLE, slt_t, slt_f, mNew, bRow, bEng, nNx, List.cons_append, List.nil_append, hD, a8, h6, h7, h10]
      all_goals (first | exact le_stK [5, 8, 37, 38, 39, 43, 44, 45, 46, 47, 48, 49, 50, 51, 52] _ (fun q hq => no60 b T a k j L (.oth (.fr vs tmF)) (.row 0 2 1 0 cI st) false false false q hq) (by rfl) | exact le_stK [5, 8, 37, 38, 39, 43, 44, 45, 46, 47, 48, 49, 50, 51, 52] _ (fun q hq => no60 b T a k j L (.oth (.fr vs tmF)) (.row 0 2 1 0 cI st) false false true q hq) (by rfl) | exact le_stK [5, 8, 37, 38, 39, 43, 44, 45, 46, 47, 48, 49, 50, 51, 52] _ (fun q hq => no60 b T a k j L (.oth (.fr vs tmF)) (.row 0 2 1 0 cI st) false true false q hq) (by rfl) | exact le_stK [5, 8, 37, 38, 39, 43, 44, 45, 46, 47, 48, 49, 50, 51, 52] _ (fun q hq => no60 b T a k j L (.oth (.fr vs tmF)) (.row 0 2 1 0 cI st) false true true q hq) (by rfl) | exact le_stK [5, 8, 37, 38, 39, 43, 44, 45, 46, 47, 48, 49, 50, 51, 52] _ (fun q hq => no60 b T a k j L (.oth (.fr vs tmF)) (.row 0 2 1 0 cI st) true false false q hq) (by rfl) | exact le_stK [5, 8, 37, 38, 39, 43, 44, 45, 46, 47, 48, 49, 50, 51, 52] _ (fun q hq => no60 b T a k j L (.oth (.fr vs tmF)) (.row 0 2 1 0 cI st) true false true q hq) (by rfl) | exact le_stK [5, 8, 37, 38, 39, 43, 44, 45, 46, 47, 48, 49, 50, 51, 52] _ (fun q hq => no60 b T a k j L (.oth (.fr vs tmF)) (.row 0 2 1 0 cI st) true true false q hq) (by rfl) | exact le_stK [5, 8, 37, 38, 39, 43, 44, 45, 46, 47, 48, 49, 50, 51, 52] _ (fun q hq => no60 b T a k j L (.oth (.fr vs tmF)) (.row 0 2 1 0 cI st) true true true q hq) (by rfl))
    · have a7 := ha 7 (by unfold tb; decide)
      have a9 := ha 9 (by unfold tb; decide)
      cases h6 : D 6
      all_goals simp (maxSteps := 400000) (disch := omega) only [push_cast, ↓reduceIte, reduceCtorEq, Nat.reduceAdd, Nat.reduceSub, Nat.reduceEqDiff, Nat.reduceLeDiff, Nat.reduceLT, Nat.reduceBEq, Nat.reduceDiv, Nat.reduceMod, Nat.reducePow, Nat.reduceMul, Int.reduceToNat, Int.reduceLT, Int.reduceLE, slt_t, slt_f, mNew, bRow, bEng, nNx, List.cons_append, List.nil_append, hD, a7, a9, h6]
      all_goals (first | (refine ⟨by simp, ?_⟩; (first | exact le_stK [5, 8, 37, 38, 39, 43, 44, 45, 46, 47, 48, 49, 50, 51, 52] _ (fun q hq => no60 b T a k j L (.oth (.fr vs tmF)) (.row 0 2 1 0 cI st) false false false q hq) (by rfl) | exact le_stK [5, 8, 37, 38, 39, 43, 44, 45, 46, 47, 48, 49, 50, 51, 52] _ (fun q hq => no60 b T a k j L (.oth (.fr vs tmF)) (.row 0 2 1 0 cI st) false false true q hq) (by rfl) | exact le_stK [5, 8, 37, 38, 39, 43, 44, 45, 46, 47, 48, 49, 50, 51, 52] _ (fun q hq => no60 b T a k j L (.oth (.fr vs tmF)) (.row 0 2 1 0 cI st) false true false q hq) (by rfl) | exact le_stK [5, 8, 37, 38, 39, 43, 44, 45, 46, 47, 48, 49, 50, 51, 52] _ (fun q hq => no60 b T a k j L (.oth (.fr vs tmF)) (.row 0 2 1 0 cI st) false true true q hq) (by rfl) | exact le_stK [5, 8, 37, 38, 39, 43, 44, 45, 46, 47, 48, 49, 50, 51, 52] _ (fun q hq => no60 b T a k j L (.oth (.fr vs tmF)) (.row 0 2 1 0 cI st) true false false q hq) (by rfl) | exact le_stK [5, 8, 37, 38, 39, 43, 44, 45, 46, 47, 48, 49, 50, 51, 52] _ (fun q hq => no60 b T a k j L (.oth (.fr vs tmF)) (.row 0 2 1 0 cI st) true false true q hq) (by rfl) | exact le_stK [5, 8, 37, 38, 39, 43, 44, 45, 46, 47, 48, 49, 50, 51, 52] _ (fun q hq => no60 b T a k j L (.oth (.fr vs tmF)) (.row 0 2 1 0 cI st) true true false q hq) (by rfl) | exact le_stK [5, 8, 37, 38, 39, 43, 44, 45, 46, 47, 48, 49, 50, 51, 52] _ (fun q hq => no60 b T a k j L (.oth (.fr vs tmF)) (.row 0 2 1 0 cI st) true true true q hq) (by rfl))) | (first | exact le_stK [5, 8, 37, 38, 39, 43, 44, 45, 46, 47, 48, 49, 50, 51, 52] _ (fun q hq => no60 b T a k j L (.oth (.fr vs tmF)) (.row 0 2 1 0 cI st) false false false q hq) (by rfl) | exact le_stK [5, 8, 37, 38, 39, 43, 44, 45, 46, 47, 48, 49, 50, 51, 52] _ (fun q hq => no60 b T a k j L (.oth (.fr vs tmF)) (.row 0 2 1 0 cI st) false false true q hq) (by rfl) | exact le_stK [5, 8, 37, 38, 39, 43, 44, 45, 46, 47, 48, 49, 50, 51, 52] _ (fun q hq => no60 b T a k j L (.oth (.fr vs tmF)) (.row 0 2 1 0 cI st) false true false q hq) (by rfl) | exact le_stK [5, 8, 37, 38, 39, 43, 44, 45, 46, 47, 48, 49, 50, 51, 52] _ (fun q hq => no60 b T a k j L (.oth (.fr vs tmF)) (.row 0 2 1 0 cI st) false true true q hq) (by rfl) | exact le_stK [5, 8, 37, 38, 39, 43, 44, 45, 46, 47, 48, 49, 50, 51, 52] _ (fun q hq => no60 b T a k j L (.oth (.fr vs tmF)) (.row 0 2 1 0 cI st) true false false q hq) (by rfl) | exact le_stK [5, 8, 37, 38, 39, 43, 44, 45, 46, 47, 48, 49, 50, 51, 52] _ (fun q hq => no60 b T a k j L (.oth (.fr vs tmF)) (.row 0 2 1 0 cI st) true false true q hq) (by rfl) | exact le_stK [5, 8, 37, 38, 39, 43, 44, 45, 46, 47, 48, 49, 50, 51, 52] _ (fun q hq => no60 b T a k j L (.oth (.fr vs tmF)) (.row 0 2 1 0 cI st) true true false q hq) (by rfl) | exact le_stK [5, 8, 37, 38, 39, 43, 44, 45, 46, 47, 48, 49, 50, 51, 52] _ (fun q hq => no60 b T a k j L (.oth (.fr vs tmF)) (.row 0 2 1 0 cI st) true true true q hq) (by rfl)))
  · refine ⟨_, le.refl _, ?_⟩
    have h6 := hD 6 (by decide)
    have h7 := hD 7 (by decide)
    have h10 := hD 10 (by decide)
    unfold stR
    rw [h6, h7, h10]
    exact hQ
def f1 (i : Nat) : Nat → Int := fun k => if k < i then -1 else 0
theorem f1_zero : (fun _ => 0) = f1 0 := by funext k; unfold f1; rw [if_neg (by omega)]
theorem f1_step (i : Nat) : putF (f1 i) i (-1) = f1 (i + 1) := by
  funext k
  unfold putF f1
  by_cases q : k = i
  · rw [if_pos q, if_pos (by omega)]
  · rw [if_neg q]
    by_cases q2 : k < i
    · rw [if_pos q2, if_pos (by omega)]
    · rw [if_neg q2, if_neg (by omega)]
end Go.Proofs.Ytoiohkjomcbadaa

namespace Go.Proofs.Ytoiohkjomcbadaa
open Go Sy
set_option maxRecDepth 100000
set_option maxHeartbeats 4000000
set_option linter.unusedVariables false
set_option linter.unusedSimpArgs false
def engM (b : Nat) (j : Jb) (L : List Af) (ss : List Int) (lg : List Rs) (dd : Bool) : Mem :=
  [(25, .row L.length 29 1 dAf (cCl b) L), (24, .row lg.length 64 4 dRs cR lg), (23, .oth (.nm 15 b)), (12, .row 0 2 1 0 cI ss), (14, .cells [aT j.ts, aA j.af, aI j.tm, .sl 3 dAf cA L, .row 12 0, .row 24 lg.length, .row 25 L.length, bv dd]), (15, .cells [.own 14 0])]
theorem engM_bas (b : Nat) (j : Jb) (L : List Af) (ss : List Int) (lg : List Rs) (dd : Bool) : Bas 60 (engM b j L ss lg dd) := bas_of rfl
def setN (j : Jb) (i : Nat) (fr : Int) : Int := fstW (gt j.ts i).mi fr (gt j.ts i).ws
theorem i113 (b : Nat) (j : Jb) (L : List Af) (ss : List Int) (lg : List Rs) (dd : Bool) (h : OkJ j) (i : Nat) (by' fr : Int) (hi : i < j.ts.length) (hs : ss.length = j.ts.length) (hlg : lg.length ≤ 1000000000) (hf : -1125899906842624 ≤ fr ∧ fr ≤ 1125899906842624)
    {tm : List (Nat × AV)} {R : Mem} {nx : Nat} (hR : Opq 60 R nx) :
    Inl Try.prog 113 [.own 14 0, iv i, iv by', iv fr] ⟨tm, engM b j L ss lg dd ++ R, nx⟩ (MidX 60 tm nx R fun r B' => r = bv (decide (0 ≤ setN j i fr)) ∧ B' = engM b j L (ss.set i (setN j i fr)) (lg ++ [⟨i, by', fr, setN j i fr⟩]) (!decide (0 ≤ setN j i fr))) := by
  refine Inl_opq mixed Xt113 rfl hR (engM_bas b j L ss lg dd) (fun R' nx' hR' => ?_)
  have hN := hR'.n
  obtain ⟨hk, _⟩ := h.t i hi
  have hw := h.w i hi
  have c64 := fn64 (gt j.ts i).ws (gt j.ts i).mi fr (by omega) hk.2.2 ⟨hk.1, hk.2.1⟩ hf
  have hV : fstV (gt j.ts i).mi fr (gt j.ts i).ws = if 0 ≤ setN j i fr then setN j i fr else 0 := rfl
  have hM : setN j i fr = -1 ∨ 0 ≤ setN j i fr := by
    rcases fst_fit (mi := (gt j.ts i).mi) (fr := fr) hk.2.2 (Int.le_refl 0) hk.1 with q | q
    · exact .inl q
    · exact .inr q.1
  have hF : fstW (gt j.ts i).mi fr (gt j.ts i).ws = setN j i fr := rfl
  have hgt : j.ts.getD i dTk = gt j.ts i := rfl
  rw [hV, hF] at c64
  generalize setN j i fr = n at *
  generalize hx : gt j.ts i = x at *
  obtain ⟨lg2, hl2⟩ : ∃ lg2, lg2 = lg ++ [⟨i, by', fr, n⟩] := ⟨_, rfl⟩
  have hl3 : lg2.length = lg.length + 1 := by rw [hl2]; simp
  obtain ⟨B1, hB1⟩ : ∃ B1, B1 = engM b j L (ss.set i n) lg2 (!decide (0 ≤ n)) := ⟨_, rfl⟩
  rw [← hl2, ← hB1]
  rw [← hx] at hgt
  by_cases hn : 0 ≤ n
  · rw [if_pos hn, decide_eq_true hn] at c64
    rw [decide_eq_true hn] at hB1 ⊢
    simp (maxSteps := 400000) (disch := omega) only [push_cast, ↓reduceIte, reduceCtorEq, Nat.reduceAdd, Nat.reduceSub, Nat.reduceEqDiff, Nat.reduceLeDiff, Nat.reduceLT, Nat.reduceBEq, Nat.reduceDiv, Nat.reduceMod, Nat.reducePow, Nat.reduceMul, Int.reduceToNat, Int.reduceLT, Int.reduceLE, initT, engM, List.cons_append, List.nil_append]
    repeat' (first | refine w1g ?_ | refine w1l ?_ | refine w1q ?_ | refine w1b ?_ | refine w1p ?_ | ((first | refine w1r ?_ | refine w1k ?_ | refine w1e ?_ | refine CallC.now (c64) ?_); simp (maxSteps := 400000) (disch := omega) only [push_cast, ↓reduceIte, reduceCtorEq, Nat.reduceAdd, Nat.reduceSub, Nat.reduceEqDiff, Nat.reduceLeDiff, Nat.reduceLT, Nat.reduceBEq, Nat.reduceDiv, Nat.reduceMod, Nat.reducePow, Nat.reduceMul, Int.reduceToNat, Int.reduceLT, Int.reduceLE, ne_l, ne_r, hgt, hx]) | refine an2 ?_ | fail)
    refine W_cond (by rfl) (fun h => by cases h) (fun _ => ?_)
    repeat' (first | refine w1g ?_ | refine w1l ?_ | refine w1q ?_ | refine w1b ?_ | refine w1p ?_ | ((first | refine w1r ?_ | refine w1k ?_ | refine w1e ?_); simp (maxSteps := 400000) (disch := omega) only [push_cast, ↓reduceIte, reduceCtorEq, Nat.reduceAdd, Nat.reduceSub, Nat.reduceEqDiff, Nat.reduceLeDiff, Nat.reduceLT, Nat.reduceBEq, Nat.reduceDiv, Nat.reduceMod, Nat.reducePow, Nat.reduceMul, Int.reduceToNat, Int.reduceLT, Int.reduceLE, ne_l, ne_r]) | refine an2 ?_ | fail)
    refine ⟨rfl, trivial, Rs, dRs, cR, [⟨i, by', fr, n⟩], rfl, by omega, fun x _ => ⟨rfl, rfl⟩, rfl, ?_⟩
    simp (maxSteps := 400000) (disch := omega) only [push_cast, ↓reduceIte, reduceCtorEq, Nat.reduceAdd, Nat.reduceSub, Nat.reduceEqDiff, Nat.reduceLeDiff, Nat.reduceLT, Nat.reduceBEq, Nat.reduceDiv, Nat.reduceMod, Nat.reducePow, Nat.reduceMul, Int.reduceToNat, Int.reduceLT, Int.reduceLE, ne_l, ne_r]
    refine ⟨rfl, ⟨by dsimp only; omega, rfl⟩, trivial, [⟨i, by', fr, n⟩], rfl, by first | omega | (simp; omega), by first | omega | (simp; omega), ?_⟩
    rw [← hl2]
    simp (maxSteps := 400000) (disch := omega) only [push_cast, ↓reduceIte, reduceCtorEq, Nat.reduceAdd, Nat.reduceSub, Nat.reduceEqDiff, Nat.reduceLeDiff, Nat.reduceLT, Nat.reduceBEq, Nat.reduceDiv, Nat.reduceMod, Nat.reducePow, Nat.reduceMul, Int.reduceToNat, Int.reduceLT, Int.reduceLE, ne_l, ne_r]
    repeat' (first | refine w1g ?_ | refine w1l ?_ | refine w1q ?_ | refine w1b ?_ | refine w1p ?_ | ((first | refine w1r ?_ | refine w1k ?_ | refine w1e ?_); simp (maxSteps := 400000) (disch := omega) only [push_cast, ↓reduceIte, reduceCtorEq, Nat.reduceAdd, Nat.reduceSub, Nat.reduceEqDiff, Nat.reduceLeDiff, Nat.reduceLT, Nat.reduceBEq, Nat.reduceDiv, Nat.reduceMod, Nat.reducePow, Nat.reduceMul, Int.reduceToNat, Int.reduceLT, Int.reduceLE, ne_l, ne_r, hs]) | refine an2 ?_ | fail)
    refine ⟨rfl, ⟨by dsimp only; omega, rfl⟩, by omega, n, rfl, rfl, ?_⟩
    simp (maxSteps := 400000) (disch := omega) only [push_cast, ↓reduceIte, reduceCtorEq, Nat.reduceAdd, Nat.reduceSub, Nat.reduceEqDiff, Nat.reduceLeDiff, Nat.reduceLT, Nat.reduceBEq, Nat.reduceDiv, Nat.reduceMod, Nat.reducePow, Nat.reduceMul, Int.reduceToNat, Int.reduceLT, Int.reduceLE, ne_l, ne_r]
    repeat' (first | refine w1g ?_ | refine w1l ?_ | refine w1q ?_ | refine w1b ?_ | refine w1p ?_ | ((first | refine w1r ?_ | refine w1k ?_ | refine w1e ?_); simp (maxSteps := 400000) (disch := omega) only [push_cast, ↓reduceIte, reduceCtorEq, Nat.reduceAdd, Nat.reduceSub, Nat.reduceEqDiff, Nat.reduceLeDiff, Nat.reduceLT, Nat.reduceBEq, Nat.reduceDiv, Nat.reduceMod, Nat.reducePow, Nat.reduceMul, Int.reduceToNat, Int.reduceLT, Int.reduceLE, ne_l, ne_r]) | refine an2 ?_ | fail)
    refine W_ret ⟨[_], B1, ?R2, ⟨rfl, rfl⟩, ?h1, ?h2, ?h3, rfl, rfl⟩
    case h1 =>
      rw [hB1]
      unfold engM
      rw [hl3]
      simp only [List.cons_append, List.nil_append, Bool.not_true]
      exact sameM.refl _
    case h2 =>
      rw [hB1]; exact engM_bas _ _ _ _ _ _
    case h3 =>
      exact ((Ext.refl hR').set (nx2 := nx' + 10) (by omega) (by omega)).set (by omega) (by dsimp only; omega)
  · rw [if_neg hn, decide_eq_false hn] at c64
    rw [decide_eq_false hn] at hB1 ⊢
    have hn1 : n = -1 := by omega
    rw [hn1] at hl2 hB1
    simp (maxSteps := 400000) (disch := omega) only [push_cast, ↓reduceIte, reduceCtorEq, Nat.reduceAdd, Nat.reduceSub, Nat.reduceEqDiff, Nat.reduceLeDiff, Nat.reduceLT, Nat.reduceBEq, Nat.reduceDiv, Nat.reduceMod, Nat.reducePow, Nat.reduceMul, Int.reduceToNat, Int.reduceLT, Int.reduceLE, initT, engM, List.cons_append, List.nil_append]
    repeat' (first | refine w1g ?_ | refine w1l ?_ | refine w1q ?_ | refine w1b ?_ | refine w1p ?_ | ((first | refine w1r ?_ | refine w1k ?_ | refine w1e ?_ | refine CallC.now (c64) ?_); simp (maxSteps := 400000) (disch := omega) only [push_cast, ↓reduceIte, reduceCtorEq, Nat.reduceAdd, Nat.reduceSub, Nat.reduceEqDiff, Nat.reduceLeDiff, Nat.reduceLT, Nat.reduceBEq, Nat.reduceDiv, Nat.reduceMod, Nat.reducePow, Nat.reduceMul, Int.reduceToNat, Int.reduceLT, Int.reduceLE, ne_l, ne_r, hgt, hx]) | refine an2 ?_ | fail)
    refine W_cond (by rfl) (fun _ => ?_) (fun h => by cases h)
    repeat' (first | refine w1g ?_ | refine w1l ?_ | refine w1q ?_ | refine w1b ?_ | refine w1p ?_ | ((first | refine w1r ?_ | refine w1k ?_ | refine w1e ?_); simp (maxSteps := 400000) (disch := omega) only [push_cast, ↓reduceIte, reduceCtorEq, Nat.reduceAdd, Nat.reduceSub, Nat.reduceEqDiff, Nat.reduceLeDiff, Nat.reduceLT, Nat.reduceBEq, Nat.reduceDiv, Nat.reduceMod, Nat.reducePow, Nat.reduceMul, Int.reduceToNat, Int.reduceLT, Int.reduceLE, ne_l, ne_r]) | refine an2 ?_ | fail)
    refine ⟨rfl, trivial, Rs, dRs, cR, [⟨i, by', fr, -1⟩], rfl, by omega, fun x _ => ⟨rfl, rfl⟩, rfl, ?_⟩
    simp (maxSteps := 400000) (disch := omega) only [push_cast, ↓reduceIte, reduceCtorEq, Nat.reduceAdd, Nat.reduceSub, Nat.reduceEqDiff, Nat.reduceLeDiff, Nat.reduceLT, Nat.reduceBEq, Nat.reduceDiv, Nat.reduceMod, Nat.reducePow, Nat.reduceMul, Int.reduceToNat, Int.reduceLT, Int.reduceLE, ne_l, ne_r]
    refine ⟨rfl, ⟨by dsimp only; omega, rfl⟩, trivial, [⟨i, by', fr, -1⟩], rfl, by first | omega | (simp; omega), by first | omega | (simp; omega), ?_⟩
    rw [← hl2]
    simp (maxSteps := 400000) (disch := omega) only [push_cast, ↓reduceIte, reduceCtorEq, Nat.reduceAdd, Nat.reduceSub, Nat.reduceEqDiff, Nat.reduceLeDiff, Nat.reduceLT, Nat.reduceBEq, Nat.reduceDiv, Nat.reduceMod, Nat.reducePow, Nat.reduceMul, Int.reduceToNat, Int.reduceLT, Int.reduceLE, ne_l, ne_r]
    repeat' (first | refine w1g ?_ | refine w1l ?_ | refine w1q ?_ | refine w1b ?_ | refine w1p ?_ | ((first | refine w1r ?_ | refine w1k ?_ | refine w1e ?_); simp (maxSteps := 400000) (disch := omega) only [push_cast, ↓reduceIte, reduceCtorEq, Nat.reduceAdd, Nat.reduceSub, Nat.reduceEqDiff, Nat.reduceLeDiff, Nat.reduceLT, Nat.reduceBEq, Nat.reduceDiv, Nat.reduceMod, Nat.reducePow, Nat.reduceMul, Int.reduceToNat, Int.reduceLT, Int.reduceLE, ne_l, ne_r, hs]) | refine an2 ?_ | fail)
    refine ⟨rfl, ⟨by dsimp only; omega, rfl⟩, by omega, -1, rfl, rfl, ?_⟩
    simp (maxSteps := 400000) (disch := omega) only [push_cast, ↓reduceIte, reduceCtorEq, Nat.reduceAdd, Nat.reduceSub, Nat.reduceEqDiff, Nat.reduceLeDiff, Nat.reduceLT, Nat.reduceBEq, Nat.reduceDiv, Nat.reduceMod, Nat.reducePow, Nat.reduceMul, Int.reduceToNat, Int.reduceLT, Int.reduceLE, ne_l, ne_r]
    repeat' (first | refine w1g ?_ | refine w1l ?_ | refine w1q ?_ | refine w1b ?_ | refine w1p ?_ | ((first | refine w1r ?_ | refine w1k ?_ | refine w1e ?_); simp (maxSteps := 400000) (disch := omega) only [push_cast, ↓reduceIte, reduceCtorEq, Nat.reduceAdd, Nat.reduceSub, Nat.reduceEqDiff, Nat.reduceLeDiff, Nat.reduceLT, Nat.reduceBEq, Nat.reduceDiv, Nat.reduceMod, Nat.reducePow, Nat.reduceMul, Int.reduceToNat, Int.reduceLT, Int.reduceLE, ne_l, ne_r]) | refine an2 ?_ | fail)
    refine W_ret ⟨[_], B1, ?R3, ⟨rfl, rfl⟩, ?k1, ?k2, ?k3, rfl, rfl⟩
    case k1 =>
      rw [hB1]
      unfold engM
      rw [hl3]
      simp only [List.cons_append, List.nil_append, Bool.not_false]
      exact sameM.refl _
    case k2 =>
      rw [hB1]; exact engM_bas _ _ _ _ _ _
    case k3 =>
      exact ((Ext.refl hR').set (nx2 := nx' + 10) (by omega) (by omega)).set (by omega) (by dsimp only; omega)
structure Es where
  ss : List Int
  lg : List Rs
  dd : Bool
abbrev engE (b : Nat) (j : Jb) (L : List Af) (e : Es) : Mem := engM b j L e.ss e.lg e.dd
def setE (j : Jb) (i : Nat) (by' fr : Int) (e : Es) : Es := ⟨e.ss.set i (setN j i fr), e.lg ++ [⟨i, by', fr, setN j i fr⟩], !decide (0 ≤ setN j i fr)⟩
def canE (a : Af) (e : Es) : Bool := decide (gi e.ss a.b.toNat < gi e.ss a.a.toNat + a.g)
def raiseE (j : Jb) (a : Af) (e : Es) : Es := if canE a e = true then setE j a.b.toNat a.a (gi e.ss a.a.toNat + a.g) e else e
def raiseB (j : Jb) (a : Af) (e : Es) : Bool := canE a e && decide (0 ≤ setN j a.b.toNat (gi e.ss a.a.toNat + a.g))
theorem i112 (b : Nat) (j : Jb) (L : List Af) (e : Es) (h : OkJ j) (a : Af) (ha : LkOk j.ts.length a) (hs : e.ss.length = j.ts.length) (hr : ∀ i, i < j.ts.length → -1 ≤ gi e.ss i ∧ gi e.ss i ≤ 1099511627776) (hlg : e.lg.length ≤ 1000000000)
    {tm : List (Nat × AV)} {R : Mem} {nx : Nat} (hR : Opq 60 R nx) :
    Inl Try.prog 112 [ptB b 0, .fp (cA a) 0] ⟨tm, engE b j L e ++ R, nx⟩ (MidX 60 tm nx R fun r B' => r = bv (raiseB j a e) ∧ B' = engE b j L (raiseE j a e)) := by
  obtain ⟨ss, lg, dd⟩ := e
  dsimp only at hs hlg
  refine Inl_opq mixed Xt112 rfl hR (engM_bas b j L ss lg dd) (fun R' nx' hR' => ?_)
  have hN := hR'.n
  obtain ⟨a1, a2, a3, a4, a5, a6⟩ := ha
  have ra := hr a.a.toNat (by omega)
  have rb := hr a.b.toNat (by omega)
  dsimp only at ra rb
  have hga : ss.getD a.a.toNat 0 = gi ss a.a.toNat := rfl
  have hgb : ss.getD a.b.toNat 0 = gi ss a.b.toNat := rfl
  have hbi : ((a.b.toNat : Nat) : Int) = a.b := by omega
  have hI := fun (fr : Int) (hf) tm (R2 : Mem) nx2 (hR2 : Opq 60 R2 nx2) => i113 b j L ss lg dd h a.b.toNat a.a fr (by omega) hs hlg hf (tm := tm) hR2
  have hE : ∀ c : Bool, canE a ⟨ss, lg, dd⟩ = c → (raiseE j a ⟨ss, lg, dd⟩ = if c = true then setE j a.b.toNat a.a (gi ss a.a.toNat + a.g) ⟨ss, lg, dd⟩ else ⟨ss, lg, dd⟩) ∧ raiseB j a ⟨ss, lg, dd⟩ = (c && decide (0 ≤ setN j a.b.toNat (gi ss a.a.toNat + a.g))) := fun c hc => by
    unfold raiseE raiseB
    rw [hc]
    exact ⟨rfl, rfl⟩
  have hC : canE a ⟨ss, lg, dd⟩ = decide (gi ss a.b.toNat < gi ss a.a.toNat + a.g) := rfl
  have hS : setE j a.b.toNat a.a (gi ss a.a.toNat + a.g) ⟨ss, lg, dd⟩ = ⟨ss.set a.b.toNat (setN j a.b.toNat (gi ss a.a.toNat + a.g)), lg ++ [⟨a.b.toNat, a.a, gi ss a.a.toNat + a.g, setN j a.b.toNat (gi ss a.a.toNat + a.g)⟩], !decide (0 ≤ setN j a.b.toNat (gi ss a.a.toNat + a.g))⟩ := rfl
  rw [hS] at hE
  generalize raiseE j a ⟨ss, lg, dd⟩ = E1 at *
  generalize raiseB j a ⟨ss, lg, dd⟩ = b1 at *
  generalize hx : gi ss a.a.toNat = x at *
  generalize hy : gi ss a.b.toNat = y at *
  have hI := hI (x + a.g) (by omega)
  generalize setN j a.b.toNat (x + a.g) = n at *
  by_cases hc : y < x + a.g
  · rw [decide_eq_true hc] at hC
    obtain ⟨e1, e2⟩ := hE true hC
    rw [if_pos rfl] at e1
    rw [Bool.true_and] at e2
    have hcb : decide (y < x + a.g) = true := decide_eq_true hc
    refine W_le (le_v_own 0 23 15 b 0 rfl ?_) ?_
    · show lm (engM b j L ss lg dd ++ R') 23 = _
      rfl
    rw [e1, e2]
    clear hE hS e1 e2
    rw [hbi] at hI ⊢
    obtain ⟨B1, hB1⟩ : ∃ B1, B1 = engM b j L (ss.set a.b.toNat n) (lg ++ [⟨a.b, a.a, x + a.g, n⟩]) (!decide (0 ≤ n)) := ⟨_, rfl⟩
    have hBs : Bas 60 B1 := by rw [hB1]; exact engM_bas _ _ _ _ _ _
    have hB2 : engE b j L ⟨ss.set a.b.toNat n, lg ++ [⟨a.b, a.a, x + a.g, n⟩], !decide (0 ≤ n)⟩ = B1 := hB1.symm
    rw [hB2]
    rw [← hB1] at hI
    simp (maxSteps := 400000) (disch := omega) only [push_cast, ↓reduceIte, reduceCtorEq, Nat.reduceAdd, Nat.reduceSub, Nat.reduceEqDiff, Nat.reduceLeDiff, Nat.reduceLT, Nat.reduceBEq, Nat.reduceDiv, Nat.reduceMod, Nat.reducePow, Nat.reduceMul, Int.reduceToNat, Int.reduceLT, Int.reduceLE, initT, engM, List.cons_append, List.nil_append]
    repeat' (first | refine w1g ?_ | refine w1l ?_ | refine w1q ?_ | refine w1b ?_ | refine w1p ?_ | ((first | refine W_regS 17 (by decide) (by decide) ?_ | refine w1r ?_ | refine w1k ?_ | refine w1e ?_); simp (maxSteps := 400000) (disch := omega) only [push_cast, ↓reduceIte, reduceCtorEq, Nat.reduceAdd, Nat.reduceSub, Nat.reduceEqDiff, Nat.reduceLeDiff, Nat.reduceLT, Nat.reduceBEq, Nat.reduceDiv, Nat.reduceMod, Nat.reducePow, Nat.reduceMul, Int.reduceToNat, Int.reduceLT, Int.reduceLE, ne_l, ne_r, hga, hgb, hs, hcb]) | refine an2 ?_ | fail)
    refine CallC.inlG (fun _ => ⟨trivial, Inl_sameM (engM b j L ss lg dd ++ R') nx' (sameM.refl _) (hR'.mem (engM_bas b j L ss lg dd)) (Inl_le' (hI _ R' nx' hR') (fun r s' hs2 => ?_))⟩) (fun q => absurd (by simp [pc]) q)
    obtain ⟨B', R2, nx2, hB', hX, ⟨rfl, rfl⟩, hl⟩ := hs2
    refine ⟨_, ?_, hl⟩
    (refine sy1 ?_; try exact True.intro)
    refine W_ret ⟨[_], B', R2, ⟨rfl, rfl⟩, sameM.refl _, hBs, ?_, rfl, rfl⟩
    exact hX.up (by dsimp only; omega)
  · rw [decide_eq_false hc] at hC
    obtain ⟨e1, e2⟩ := hE false hC
    rw [if_neg (by decide)] at e1
    rw [Bool.false_and] at e2
    have hcb : decide (y < x + a.g) = false := decide_eq_false hc
    refine W_le (le_v_own 0 23 15 b 0 rfl ?_) ?_
    · show lm (engM b j L ss lg dd ++ R') 23 = _
      rfl
    rw [e1, e2]
    clear hE hS e1 e2
    obtain ⟨B1, hB1⟩ : ∃ B1, B1 = engM b j L ss lg dd := ⟨_, rfl⟩
    have hBs : Bas 60 B1 := by rw [hB1]; exact engM_bas _ _ _ _ _ _
    have hB2 : engE b j L ⟨ss, lg, dd⟩ = B1 := hB1.symm
    rw [hB2]
    simp (maxSteps := 400000) (disch := omega) only [push_cast, ↓reduceIte, reduceCtorEq, Nat.reduceAdd, Nat.reduceSub, Nat.reduceEqDiff, Nat.reduceLeDiff, Nat.reduceLT, Nat.reduceBEq, Nat.reduceDiv, Nat.reduceMod, Nat.reducePow, Nat.reduceMul, Int.reduceToNat, Int.reduceLT, Int.reduceLE, initT, engM, List.cons_append, List.nil_append]
    repeat' (first | refine w1g ?_ | refine w1l ?_ | refine w1q ?_ | refine w1b ?_ | refine w1p ?_ | ((first | refine W_regS 17 (by decide) (by decide) ?_ | refine w1r ?_ | refine w1k ?_ | refine w1e ?_); simp (maxSteps := 400000) (disch := omega) only [push_cast, ↓reduceIte, reduceCtorEq, Nat.reduceAdd, Nat.reduceSub, Nat.reduceEqDiff, Nat.reduceLeDiff, Nat.reduceLT, Nat.reduceBEq, Nat.reduceDiv, Nat.reduceMod, Nat.reducePow, Nat.reduceMul, Int.reduceToNat, Int.reduceLT, Int.reduceLE, ne_l, ne_r, hga, hgb, hs, hcb]) | refine an2 ?_ | fail)
    refine CallC.inlG (fun q => absurd q (by simp [pc])) (fun q => ⟨bv false, ?_⟩)
    (refine sy1 ?_; try exact True.intro)
    refine W_ret ⟨[_], B1, R', ⟨rfl, rfl⟩, ?_, hBs, (Ext.refl hR').up (by dsimp only; omega), rfl, rfl⟩
    rw [hB1]
    exact sameM.refl _
end Go.Proofs.Ytoiohkjomcbadaa

namespace Go.Proofs.Ytoiohkjomcbadaa
open Go Sy
set_option linter.unusedVariables false
def lastS (lg : List Rs) (i : Int) : Int := lg.foldl (fun acc r => if r.k = i then r.st else acc) (-1)
theorem lastS_snoc (lg : List Rs) (r : Rs) (i : Int) : lastS (lg ++ [r]) i = if r.k = i then r.st else lastS lg i := by
  unfold lastS; rw [List.foldl_append]; rfl
def stO (lg : List Rs) : Nat → Int := fun i => lastS lg i
theorem stO_snoc (lg : List Rs) (i : Nat) (b f n : Int) : stO (lg ++ [⟨i, b, f, n⟩]) = putF (stO lg) i n := by
  funext k
  unfold stO putF
  rw [lastS_snoc]
  dsimp only
  by_cases q : k = i
  · rw [if_pos (by omega), if_pos q]
  · rw [if_neg (by omega), if_neg q]
inductive LogOk (j : Jb) (L : List Af) : List Rs → Prop where
  | nil : LogOk j L []
  | first {lg : List Rs} {i : Nat} (h : LogOk j L lg) (hi : i < j.ts.length) (hk : ∀ r ∈ lg, r.k < i ∧ 0 ≤ r.st) : LogOk j L (lg ++ [⟨i, -1, 0, setN j i 0⟩])
  | raise {lg : List Rs} {a : Af} (h : LogOk j L lg) (ha : a ∈ L) (hp : ∀ i, i < j.ts.length → 0 ≤ stO lg i) (hr : stO lg a.b.toNat < stO lg a.a.toNat + a.g) : LogOk j L (lg ++ [⟨a.b.toNat, a.a, stO lg a.a.toNat + a.g, setN j a.b.toNat (stO lg a.a.toNat + a.g)⟩])
theorem setN_rng {j : Jb} (h : OkJ j) {i : Nat} (hi : i < j.ts.length) (fr : Int) : setN j i fr = -1 ∨ (0 ≤ setN j i fr ∧ fr ≤ setN j i fr ∧ setN j i fr ≤ 1099511627776 ∧ fitW (gt j.ts i).mi (setN j i fr) (gt j.ts i).ws) := by
  obtain ⟨hk, _⟩ := h.t i hi
  rcases fst_fit (mi := (gt j.ts i).mi) (fr := fr) hk.2.2 (Int.le_refl 0) hk.1 with q | ⟨q1, q2, q3⟩
  · exact .inl q
  · exact .inr ⟨q1, q2, fit_le hk.2.2 hk.1 q3, q3⟩
section
variable {j : Jb} {L : List Af} (h : OkJ j) (hL : ∀ a ∈ L, LkOk j.ts.length a)
include h hL
theorem log_rng {lg : List Rs} (hl : LogOk j L lg) : ∀ i, -1 ≤ stO lg i ∧ stO lg i ≤ 1099511627776 := by
  induction hl with
  | nil => intro i; exact ⟨Int.le_refl _, by show (-1 : Int) ≤ _; omega⟩
  | @first lg i hl hi hk ih =>
    intro k
    rw [stO_snoc]
    unfold putF
    have := setN_rng h hi 0
    have := ih k
    split <;> omega
  | @raise lg a hl ha hp hr ih =>
    intro k
    rw [stO_snoc]
    unfold putF
    obtain ⟨a1, a2, a3, a4, _⟩ := hL a ha
    have := setN_rng h (i := a.b.toNat) (by omega) (stO lg a.a.toNat + a.g)
    have := ih k
    split <;> omega
theorem log_low {lg : List Rs} (hl : LogOk j L lg) : Low j.ts L (stO lg) ∧ ((∃ r ∈ lg, r.st < 0) → ¬ ∃ p, Rgt j.ts L p) := by
  induction hl with
  | nil =>
    refine ⟨fun p hp i hi => ?_, fun ⟨r, hr, _⟩ => by cases hr⟩
    obtain ⟨w, hw, h1, _⟩ := hp.f i hi
    have := (h.t i hi).1.2.2.all w hw
    show (-1 : Int) ≤ p i
    omega
  | @first lg i hl hi hk ih =>
    have key : ∀ p, Rgt j.ts L p → 0 ≤ setN j i 0 ∧ setN j i 0 ≤ p i := fun p hp => by
      obtain ⟨hkk, _⟩ := h.t i hi
      have hf := hp.f i hi
      obtain ⟨w, hw, h1, _⟩ := hf
      have := hkk.2.2.all w hw
      exact fst_least hkk.2.2 (Int.le_refl 0) hkk.1 (by omega) (hp.f i hi)
    refine ⟨fun p hp k hk2 => ?_, fun ⟨r, hr, hneg⟩ ⟨p, hp⟩ => ?_⟩
    · rw [stO_snoc]
      unfold putF
      split
      · rename_i q; subst q; exact (key p hp).2
      · exact ih.1 p hp k hk2
    · rcases List.mem_append.1 hr with hr | hr
      · exact ih.2 ⟨r, hr, hneg⟩ ⟨p, hp⟩
      · rw [List.mem_singleton] at hr
        subst hr
        have := (key p hp).1
        dsimp only at hneg
        omega
  | @raise lg a hl ha hp hr ih =>
    obtain ⟨a1, a2, a3, a4, _⟩ := hL a ha
    have key := low_raise ih.1 ha (by omega) (by omega) (h.t a.b.toNat (by omega)).1
    refine ⟨?_, fun ⟨r, hr, hneg⟩ ⟨p, hp⟩ => ?_⟩
    · rw [stO_snoc]; exact key.2
    · rcases List.mem_append.1 hr with hr | hr
      · exact ih.2 ⟨r, hr, hneg⟩ ⟨p, hp⟩
      · rw [List.mem_singleton] at hr
        subst hr
        have h2 := key.1 p hp
        have e : setN j a.b.toNat (stO lg a.a.toNat + a.g) = fstW (j.ts.getD a.b.toNat dTk).mi (stO lg a.a.toNat + a.g) (j.ts.getD a.b.toNat dTk).ws := rfl
        dsimp only at hneg
        omega
omit hL in
theorem log_fit {lg : List Rs} (hl : LogOk j L lg) : ∀ i, i < j.ts.length → 0 ≤ stO lg i → fitW (gt j.ts i).mi (stO lg i) (gt j.ts i).ws := by
  induction hl with
  | nil => intro i _ h0; exact absurd h0 (by show ¬ (0 : Int) ≤ -1; omega)
  | @first lg i hl hi hk ih =>
    intro k hk2 h0
    rw [stO_snoc] at h0 ⊢
    unfold putF at h0 ⊢
    by_cases q : k = i
    · subst q
      rw [if_pos rfl] at h0 ⊢
      rcases setN_rng h hk2 0 with q | q
      · omega
      · exact q.2.2.2
    · rw [if_neg q] at h0 ⊢
      exact ih k hk2 h0
  | @raise lg a hl ha hp hr ih =>
    intro k hk2 h0
    rw [stO_snoc] at h0 ⊢
    unfold putF at h0 ⊢
    by_cases q : k = a.b.toNat
    · subst q
      rw [if_pos rfl] at h0 ⊢
      rcases setN_rng h hk2 (stO lg a.a.toNat + a.g) with q | q
      · omega
      · exact q.2.2.2
    · rw [if_neg q] at h0 ⊢
      exact ih k hk2 h0
end
structure EI (j : Jb) (L : List Af) (e : Es) : Prop where
  ss : e.ss = lsF j.ts.length (stO e.lg)
  lg : LogOk j L e.lg
theorem EI.len {j : Jb} {L : List Af} {e : Es} (h : EI j L e) : e.ss.length = j.ts.length := by rw [h.ss, lsF_len]
theorem EI.get {j : Jb} {L : List Af} {e : Es} (h : EI j L e) {i : Nat} (hi : i < j.ts.length) : gi e.ss i = stO e.lg i := by rw [h.ss, lsF_get hi]
def e1 (j : Jb) : Nat → Es
  | 0 => ⟨lsF j.ts.length fun _ => -1, [], false⟩
  | k + 1 => setE j k (-1) 0 (e1 j k)
structure E1 (j : Jb) (L : List Af) (k : Nat) (e : Es) : Prop extends EI j L e where
  len' : e.lg.length = k
  bef : ∀ r ∈ e.lg, r.k < k ∧ 0 ≤ r.st
  dd : e.dd = false
  pos : ∀ i, i < k → 0 ≤ stO e.lg i
theorem e1_ok {j : Jb} {L : List Af} : ∀ k, k ≤ j.ts.length → (∀ i, i < k → 0 ≤ setN j i 0) → E1 j L k (e1 j k)
  | 0, _, _ => ⟨⟨by unfold e1; rfl, .nil⟩, rfl, fun r hr => (by cases hr), rfl, fun i hi => (by omega)⟩
  | k + 1, hk, hp => by
    have h := e1_ok (L := L) k (by omega) (fun i hi => hp i (by omega))
    have hn := hp k (by omega)
    refine ⟨⟨?_, ?_⟩, ?_, fun r hr => ?_, ?_, fun i hi => ?_⟩
    · show (e1 j k).ss.set k (setN j k 0) = lsF _ (stO ((e1 j k).lg ++ [⟨k, -1, 0, setN j k 0⟩]))
      rw [stO_snoc, h.ss, lsF_set (by omega)]
    · exact .first h.lg (by omega) h.bef
    · show ((e1 j k).lg ++ [_]).length = k + 1
      rw [List.length_append, h.len']; rfl
    · rcases List.mem_append.1 (show r ∈ (e1 j k).lg ++ [⟨k, -1, 0, setN j k 0⟩] from hr) with hr | hr
      · have := h.bef r hr
        omega
      · rw [List.mem_singleton] at hr
        subst hr
        dsimp only
        omega
    · show (!decide (0 ≤ setN j k 0)) = false
      rw [decide_eq_true hn]; rfl
    · show 0 ≤ stO ((e1 j k).lg ++ [⟨k, -1, 0, setN j k 0⟩]) i
      rw [stO_snoc]
      unfold putF
      split
      · exact hn
      · exact h.pos i (by omega)
theorem e1_dead {j : Jb} {L : List Af} (h : OkJ j) (hL : ∀ a ∈ L, LkOk j.ts.length a) {k : Nat} (hk : k < j.ts.length) (hp : ∀ i, i < k → 0 ≤ setN j i 0) (hn : setN j k 0 < 0) : LogOk j L (e1 j (k + 1)).lg ∧ ¬ ∃ p, Rgt j.ts L p := by
  have h1 := e1_ok (L := L) k (by omega) hp
  have h2 : LogOk j L (e1 j (k + 1)).lg := .first h1.lg hk h1.bef
  refine ⟨h2, (log_low h hL h2).2 ⟨⟨k, -1, 0, setN j k 0⟩, List.mem_append_right _ List.mem_cons_self, hn⟩⟩
theorem raise_no {j : Jb} {a : Af} {e : Es} (hc : canE a e = false) : raiseE j a e = e := by unfold raiseE; rw [hc, if_neg (by decide)]
theorem raise_ei {j : Jb} {L : List Af} (hL : ∀ a ∈ L, LkOk j.ts.length a) {e : Es} (h : EI j L e) {a : Af} (ha : a ∈ L) (hp : ∀ i, i < j.ts.length → 0 ≤ stO e.lg i) : EI j L (raiseE j a e) := by
  obtain ⟨a1, a2, a3, a4, _⟩ := hL a ha
  cases hc : canE a e
  · rw [raise_no hc]; exact h
  · unfold raiseE
    rw [hc, if_pos rfl]
    have e1 := h.get (i := a.a.toNat) (by omega)
    have e2 := h.get (i := a.b.toNat) (by omega)
    have hr : stO e.lg a.b.toNat < stO e.lg a.a.toNat + a.g := by
      unfold canE at hc
      rw [decide_eq_true_eq, e1, e2] at hc
      exact hc
    refine ⟨?_, ?_⟩
    · show e.ss.set a.b.toNat (setN j a.b.toNat (gi e.ss a.a.toNat + a.g)) = lsF _ (stO (e.lg ++ [_]))
      rw [stO_snoc, h.ss, lsF_set (by omega)]
    · show LogOk j L (e.lg ++ [⟨a.b.toNat, a.a, gi e.ss a.a.toNat + a.g, setN j a.b.toNat (gi e.ss a.a.toNat + a.g)⟩])
      rw [e1]
      exact .raise h.lg ha hp hr
theorem raise_len {j : Jb} {a : Af} {e : Es} : (raiseE j a e).lg.length ≤ e.lg.length + 1 := by
  unfold raiseE
  split
  · show (e.lg ++ [_]).length ≤ _
    rw [List.length_append]; exact Nat.le_refl _
  · omega
theorem raise_eng {j : Jb} {L : List Af} (h : OkJ j) (hL : ∀ a ∈ L, LkOk j.ts.length a) {e : Es} (hE : EI j L e) {a : Af} (ha : a ∈ L) (hp : ∀ i, i < j.ts.length → 0 ≤ stO e.lg i) (hd : e.dd = false) :
    ((raiseE j a e).dd = true → ¬ ∃ p, Rgt j.ts L p) ∧ ((raiseE j a e).dd = false → eng j.ts (stO e.lg) (lkO a) = some (stO (raiseE j a e).lg) ∧ raiseB j a e = decide (stO e.lg (lkO a).b < stO e.lg (lkO a).a + (lkO a).g) ∧ ∀ i, i < j.ts.length → 0 ≤ stO (raiseE j a e).lg i) := by
  obtain ⟨a1, a2, a3, a4, _⟩ := hL a ha
  have q1 := hE.get (i := a.a.toNat) (by omega)
  have q2 := hE.get (i := a.b.toNat) (by omega)
  have hcb : canE a e = decide (stO e.lg a.b.toNat < stO e.lg a.a.toNat + a.g) := by unfold canE; rw [q1, q2]
  have hEI := raise_ei hL hE ha hp
  cases hc : canE a e
  · rw [raise_no hc]
    rw [hc] at hcb
    refine ⟨fun q => (by rw [hd] at q; cases q), fun _ => ⟨?_, ?_, hp⟩⟩
    · unfold eng
      rw [if_neg]
      exact of_decide_eq_false hcb.symm
    · unfold raiseB
      rw [hc, Bool.false_and]
      exact hcb
  · rw [hc] at hcb
    have hr : raiseE j a e = setE j a.b.toNat a.a (gi e.ss a.a.toNat + a.g) e := by unfold raiseE; rw [hc, if_pos rfl]
    have hdd : (raiseE j a e).dd = !decide (0 ≤ setN j a.b.toNat (stO e.lg a.a.toNat + a.g)) := by rw [hr, q1]; rfl
    have hlg : (raiseE j a e).lg = e.lg ++ [⟨a.b.toNat, a.a, stO e.lg a.a.toNat + a.g, setN j a.b.toNat (stO e.lg a.a.toNat + a.g)⟩] := by rw [hr, q1]; rfl
    constructor
    · intro hq
      rw [hdd, Bool.not_eq_true', decide_eq_false_iff_not] at hq
      refine (log_low h hL hEI.lg).2 ⟨⟨a.b.toNat, a.a, stO e.lg a.a.toNat + a.g, setN j a.b.toNat (stO e.lg a.a.toNat + a.g)⟩, ?_, by dsimp only; omega⟩
      rw [hlg]; exact List.mem_append_right _ List.mem_cons_self
    · intro hq
      rw [hdd, Bool.not_eq_false', decide_eq_true_eq] at hq
      refine ⟨?_, ?_, fun i hi => ?_⟩
      · unfold eng
        have hlt : stO e.lg (lkO a).b < stO e.lg (lkO a).a + (lkO a).g := of_decide_eq_true hcb.symm
        rw [if_pos hlt, if_neg (by show ¬ setN j a.b.toNat (stO e.lg a.a.toNat + a.g) < 0; omega), hlg, stO_snoc]
        rfl
      · unfold raiseB
        rw [hc, Bool.true_and, q1, decide_eq_true hq]
        exact hcb
      · rw [hlg, stO_snoc]
        unfold putF
        split
        · exact hq
        · exact hp i hi
theorem raise_st {j : Jb} {a : Af} {e : Es} (hd : (raiseE j a e).dd = false) (h : ∀ r ∈ e.lg, 0 ≤ r.st) : ∀ r ∈ (raiseE j a e).lg, 0 ≤ r.st := by
  cases hc : canE a e
  · rw [raise_no hc]; exact h
  · have hr : raiseE j a e = setE j a.b.toNat a.a (gi e.ss a.a.toNat + a.g) e := by unfold raiseE; rw [hc, if_pos rfl]
    rw [hr] at hd ⊢
    have hd' : (!decide (0 ≤ setN j a.b.toNat (gi e.ss a.a.toNat + a.g))) = false := hd
    rw [Bool.not_eq_false', decide_eq_true_eq] at hd'
    intro r hx
    rcases List.mem_append.1 (show r ∈ e.lg ++ [_] from hx) with hx | hx
    · exact h r hx
    · rw [List.mem_singleton] at hx
      subst hx
      exact hd'
theorem raise_dead {j : Jb} {L : List Af} (h : OkJ j) (hL : ∀ a ∈ L, LkOk j.ts.length a) {a : Af} (ha : a ∈ L) {e : Es} (h0 : e.dd = false) (hd : (raiseE j a e).dd = true) : ∃ r, (raiseE j a e).lg = e.lg ++ [r] ∧ r.st = -1 := by
  obtain ⟨a1, a2, a3, a4, _⟩ := hL a ha
  cases hc : canE a e
  · rw [raise_no hc, h0] at hd; cases hd
  · have hr : raiseE j a e = setE j a.b.toNat a.a (gi e.ss a.a.toNat + a.g) e := by unfold raiseE; rw [hc, if_pos rfl]
    rw [hr] at hd ⊢
    have hd' : (!decide (0 ≤ setN j a.b.toNat (gi e.ss a.a.toNat + a.g))) = true := hd
    rw [Bool.not_eq_true', decide_eq_false_iff_not] at hd'
    refine ⟨_, rfl, ?_⟩
    rcases setN_rng h (i := a.b.toNat) (by omega) (gi e.ss a.a.toNat + a.g) with q | q
    · exact q
    · omega
structure OI (j : Jb) (L : List Af) (e : Es) (P : Nat) (ag : Bool) : Prop where
  ei : EI j L e
  dd : e.dd = false
  pos : ∀ i, i < j.ts.length → 0 ≤ stO e.lg i
  st : ∀ r ∈ e.lg, 0 ≤ r.st
  len : e.lg.length ≤ j.ts.length + P * L.length
  bt : ag = true → Btw j.ts (lkL L) j.ts.length (stO e.lg) P
  fin : ag = false → ∀ x ∈ lkL L, stO e.lg x.a + x.g ≤ stO e.lg x.b
  mx : P ≤ 19300
structure PI (j : Jb) (L : List Af) (o : Nat → Int) (P q : Nat) (e : Es) (ag : Bool) : Prop where
  ei : EI j L e
  dd : e.dd = false
  pos : ∀ i, i < j.ts.length → 0 ≤ stO e.lg i
  st : ∀ r ∈ e.lg, 0 ≤ r.st
  len : e.lg.length ≤ j.ts.length + P * L.length + q
  ip : InP j.ts (lkL L) o q (stO e.lg) ag
section
variable {j : Jb} {L : List Af} (h : OkJ j) (hL : ∀ a ∈ L, LkOk j.ts.length a)
include h hL
omit h hL in
theorem oi_zero : (∀ i, i < j.ts.length → 0 ≤ setN j i 0) → OI j L (e1 j j.ts.length) 0 true := fun hp => by
  have h1 := e1_ok (L := L) j.ts.length (Nat.le_refl _) hp
  exact ⟨h1.toEI, h1.dd, h1.pos, fun r hr => (h1.bef r hr).2, by rw [h1.len']; omega, fun _ => btw_zero _ _ _ _, fun q => (by cases q), by omega⟩
theorem pi_step {o : Nat → Int} {P q : Nat} {e : Es} {ag : Bool} (hp : PI j L o P q e ag) (hq : q < L.length) {a : Af} (ha : L.getD q dAf = a) (hd : (raiseE j a e).dd = false) : PI j L o P (q + 1) (raiseE j a e) (raiseB j a e || ag) := by
  have hm : a ∈ L := by rw [← ha]; exact getD_mem' dAf L q hq
  obtain ⟨e1, e2, e3⟩ := (raise_eng h hL hp.ei hm hp.pos hp.dd).2 hd
  refine ⟨raise_ei hL hp.ei hm hp.pos, hd, e3, raise_st hd hp.st, ?_, ?_⟩
  · have := hp.len
    have := raise_len (j := j) (a := a) (e := e)
    omega
  · rw [e2]
    refine inp_step hp.ip ?_ ?_ e1
    · rw [List.getElem?_map]
      have : L[q]? = some a := by
        rw [List.getElem?_eq_getElem hq]
        congr 1
        rw [← ha]
        simp [List.getD, List.getElem?_eq_getElem hq]
      rw [this]; rfl
    · obtain ⟨a1, a2, a3, a4, _⟩ := hL a hm
      show a.b.toNat < _
      omega
omit hL in
theorem oi_bound {e : Es} {P : Nat} (ho : OI j L e P true) : P ≤ 19224 := by
  have hb := btw_max (ho.bt rfl) (W := 32) h.w
  have hn := h.n
  have h1 : j.ts.length * 32 * (j.ts.length + 1) ≤ 24 * 32 * 25 := Nat.mul_le_mul (Nat.mul_le_mul_right _ hn) (by omega)
  omega
theorem oi_next (hc : ∀ x s c, Wx (lkL L) x x s c → 0 < c → c ≤ j.ts.length → s ≤ 0) {e e' : Es} {P : Nat} {ag : Bool} (ho : OI j L e P true) (hp : PI j L (stO e.lg) P L.length e' ag) : OI j L e' (P + 1) ag := by
  have hb := oi_bound h ho
  have hip := hp.ip
  rw [show L.length = (lkL L).length by rw [List.length_map]] at hip
  refine ⟨hp.ei, hp.dd, hp.pos, hp.st, ?_, fun q => ?_, fun q => ?_, by omega⟩
  · have := hp.len
    rw [Nat.add_mul]
    omega
  · subst q
    exact btw_step (lk_in hL) hc (ho.bt rfl) hip
  · subst q
    obtain ⟨q1, q2⟩ := inp_end hip
    rw [q1]; exact q2
omit h hL in
theorem oi_end {e : Es} {P : Nat} (ho : OI j L e P false) : ∀ a ∈ L, stO e.lg a.a.toNat + a.g ≤ stO e.lg a.b.toNat := fun a ha => ho.fin rfl (lkO a) (List.mem_map.2 ⟨a, ha, rfl⟩)
end
end Go.Proofs.Ytoiohkjomcbadaa

namespace Go.Proofs.Ytoiohkjomcbadaa
open Go Sy
set_option maxRecDepth 100000
set_option maxHeartbeats 4000000
set_option linter.unusedVariables false
set_option linter.unusedSimpArgs false
structure RunOk (j : Jb) (L : List Af) (ok : Bool) (e : Es) : Prop where
  ei : EI j L e
  len : e.lg.length ≤ 10000000
  ys : ok = true → (∀ i, i < j.ts.length → 0 ≤ stO e.lg i) ∧ (∀ a ∈ L, stO e.lg a.a.toNat + a.g ≤ stO e.lg a.b.toNat) ∧ ∀ r ∈ e.lg, 0 ≤ r.st
  no : ok = false → (¬ ∃ p, Rgt j.ts L p) ∧ ∃ lg r, e.lg = lg ++ [r] ∧ r.st = -1 ∧ ∀ x ∈ lg, 0 ≤ x.st
theorem i71 (b : Nat) (j : Jb) (L : List Af) (h : OkJ j) (hL : ∀ a ∈ L, LkOk j.ts.length a) (hll : L.length ≤ 240) (hc : ∀ x s c, Wx (lkL L) x x s c → 0 < c → c ≤ j.ts.length → s ≤ 0) {tm : List (Nat × AV)} {R : Mem} {nx : Nat} (hR : Opq 60 R nx) :
    Inl Try.prog 71 [.own 14 0] ⟨tm, engE b j L (e1 j 0) ++ R, nx⟩ (MidX 60 tm nx R fun r B' => ∃ ok e, r = bv ok ∧ B' = engE b j L e ∧ RunOk j L ok e) := by
  refine Inl_opq mixed Xt71 rfl hR (engM_bas b j L _ _ _) (fun R' nx' hR' => ?_)
  have hN := hR'.n
  have hn := h.n
  have hs0 : (e1 j 0).ss.length = j.ts.length := (e1_ok (L := L) 0 (by omega) (fun i hi => by omega)).len
  obtain ⟨KK, hKK⟩ : ∃ KK : AV → Mem → Prop, KK = fun r B' => ∃ ok e, r = bv ok ∧ B' = engE b j L e ∧ RunOk j L ok e := ⟨_, rfl⟩
  rw [← hKK]
  have fin : ∀ (s' : S) (ok : Bool) (e : Es) (R2 : Mem), lk s'.tm 2 = bv ok → sameM (engE b j L e ++ R2) s'.mem → Ext nx' R' s'.nx R2 → RunOk j L ok e → FinX 60 [.t 2] nx' R' KK .r s' := fun s' ok e R2 h1 h2 h3 h4 =>
    ⟨[bv ok], _, R2, ⟨h1.symm, rfl⟩, h2, engM_bas _ _ _ _ _ _, h3, by rw [hKK]; exact ⟨ok, e, rfl, rfl, h4⟩⟩
  clear hKK
  have hsn : ∀ k, (e1 j k).ss.length = j.ts.length := fun k => by
    induction k with
    | zero => exact hs0
    | succ k ih => show ((e1 j k).ss.set k (setN j k 0)).length = _; rw [List.length_set, ih]
  have hln : ∀ k, (e1 j k).lg.length = k := fun k => by
    induction k with
    | zero => rfl
    | succ k ih => show ((e1 j k).lg ++ [_]).length = _; rw [List.length_append, ih]; rfl
  obtain ⟨e, he⟩ : ∃ e, e = e1 j 0 := ⟨_, rfl⟩
  rw [← he] at hs0 ⊢
  simp (maxSteps := 400000) (disch := omega) only [push_cast, ↓reduceIte, reduceCtorEq, Nat.reduceAdd, Nat.reduceSub, Nat.reduceEqDiff, Nat.reduceLeDiff, Nat.reduceLT, Nat.reduceBEq, Nat.reduceDiv, Nat.reduceMod, Nat.reducePow, Nat.reduceMul, Int.reduceToNat, Int.reduceLT, Int.reduceLE, initT, engM, List.cons_append, List.nil_append]
  repeat' (first | refine w1g ?_ | refine w1l ?_ | refine w1q ?_ | refine w1b ?_ | refine w1p ?_ | ((first | refine w1r ?_ | refine w1k ?_ | refine w1e ?_); simp (maxSteps := 400000) (disch := omega) only [push_cast, ↓reduceIte, reduceCtorEq, Nat.reduceAdd, Nat.reduceSub, Nat.reduceEqDiff, Nat.reduceLeDiff, Nat.reduceLT, Nat.reduceBEq, Nat.reduceDiv, Nat.reduceMod, Nat.reducePow, Nat.reduceMul, Int.reduceToNat, Int.reduceLT, Int.reduceLE, ne_l, ne_r, hs0]) | refine an2 ?_ | fail)
  refine W_loopX 60 (fun k : Nat => [(12, iv k)]) (fun k => engE b j L (e1 j k)) (fun k => k ≤ j.ts.length ∧ ∀ i, i < k → 0 ≤ setN j i 0) (fun k => j.ts.length - k) (fun k _ => engM_bas _ _ _ _ _ _) (hR'.le (show nx' ≤ nx' + 7 by omega)) 0 ⟨by omega, fun i hi => by omega⟩ (by rfl) (by rw [← he]; exact sameM.refl _) (fun k R1 nx1 hk hX => ?_)
  obtain ⟨hkn, hpos⟩ := hk
  have hX' : Ext nx' R' nx1 R1 := ((Ext.refl hR').up (show nx' ≤ nx' + 7 by omega)).trans hX
  have hN1 := (hX'.opq hR').n
  have hI := fun (hlt : k < j.ts.length) (tm : List (Nat × AV)) (R2 : Mem) (nx2 : Nat) (hR2 : Opq 60 R2 nx2) => i113 b j L (e1 j k).ss (e1 j k).lg (e1 j k).dd h k (-1) 0 hlt (hsn k) (by rw [hln]; omega) (by omega) (tm := tm) hR2
  clear he hs0
  simp (maxSteps := 400000) (disch := omega) only [push_cast, ↓reduceIte, reduceCtorEq, Nat.reduceAdd, Nat.reduceSub, Nat.reduceEqDiff, Nat.reduceLeDiff, Nat.reduceLT, Nat.reduceBEq, Nat.reduceDiv, Nat.reduceMod, Nat.reducePow, Nat.reduceMul, Int.reduceToNat, Int.reduceLT, Int.reduceLE, keepL]
  repeat' (first | refine w1g ?_ | refine w1l ?_ | refine w1q ?_ | refine w1b ?_ | refine w1p ?_ | ((first | refine w1r ?_ | refine w1k ?_ | refine w1e ?_); simp (maxSteps := 400000) (disch := omega) only [push_cast, ↓reduceIte, reduceCtorEq, Nat.reduceAdd, Nat.reduceSub, Nat.reduceEqDiff, Nat.reduceLeDiff, Nat.reduceLT, Nat.reduceBEq, Nat.reduceDiv, Nat.reduceMod, Nat.reducePow, Nat.reduceMul, Int.reduceToNat, Int.reduceLT, Int.reduceLE, keepL]) | refine an2 ?_ | fail)
  refine W_condD (by rfl) (fun h5 => ?_) (fun h5 => ?_)
  · have hlt : k < j.ts.length := by omega
    have hdead := fun q => e1_dead (L := L) h hL hlt hpos q
    have hs1 : (e1 j (k + 1)) = setE j k (-1) 0 (e1 j k) := rfl
    have hdd : (e1 j (k + 1)).dd = !decide (0 ≤ setN j k 0) := rfl
    have hl1 : (e1 j (k + 1)).lg = (e1 j k).lg ++ [⟨k, -1, 0, setN j k 0⟩] := rfl
    repeat' (first | refine w1g ?_ | refine w1l ?_ | refine w1q ?_ | refine w1b ?_ | refine w1p ?_ | ((first | refine w1r ?_ | refine w1k ?_ | refine w1e ?_); simp (maxSteps := 400000) (disch := omega) only [push_cast, ↓reduceIte, reduceCtorEq, Nat.reduceAdd, Nat.reduceSub, Nat.reduceEqDiff, Nat.reduceLeDiff, Nat.reduceLT, Nat.reduceBEq, Nat.reduceDiv, Nat.reduceMod, Nat.reducePow, Nat.reduceMul, Int.reduceToNat, Int.reduceLT, Int.reduceLE, keepL]) | refine an2 ?_ | fail)
    refine CallC.inl (Inl_le' (hI hlt _ R1 _ ((hX'.opq hR').le (by omega))) (fun r s' hs2 => ?_))
    obtain ⟨B', R2, nx2, hB', hX2, ⟨rfl, hBe⟩, hl⟩ := hs2
    refine ⟨_, ?_, hl⟩
    have hBe2 : B' = engE b j L (e1 j (k + 1)) := hBe
    clear hI hBe hl
    subst hBe2
    (refine sy1 ?_; try exact True.intro)
    by_cases hp : 0 ≤ setN j k 0
    · rw [decide_eq_true hp]
      refine W_cond (by rfl) (fun h => by cases h) (fun _ => ?_)
      repeat' (first | refine w1g ?_ | refine w1l ?_ | refine w1q ?_ | refine w1b ?_ | refine w1p ?_ | ((first | refine w1r ?_ | refine w1k ?_ | refine w1e ?_); simp (maxSteps := 400000) (disch := omega) only [push_cast, ↓reduceIte, reduceCtorEq, Nat.reduceAdd, Nat.reduceSub, Nat.reduceEqDiff, Nat.reduceLeDiff, Nat.reduceLT, Nat.reduceBEq, Nat.reduceDiv, Nat.reduceMod, Nat.reducePow, Nat.reduceMul, Int.reduceToNat, Int.reduceLT, Int.reduceLE, keepL]) | refine an2 ?_ | fail)
      refine ⟨k + 1, R2, ⟨by omega, up_all hpos hp⟩, by omega, by rfl, sameM.refl _, ?_⟩
      exact (hX2.dn (by omega)).up (by first | omega | (dsimp only; omega))
    · rw [decide_eq_false hp]
      refine W_cond (by rfl) (fun _ => ?_) (fun h => by cases h)
      repeat' (first | refine w1g ?_ | refine w1l ?_ | refine w1q ?_ | refine w1b ?_ | refine w1p ?_ | ((first | refine w1r ?_ | refine w1k ?_ | refine w1e ?_); simp (maxSteps := 400000) (disch := omega) only [push_cast, ↓reduceIte, reduceCtorEq, Nat.reduceAdd, Nat.reduceSub, Nat.reduceEqDiff, Nat.reduceLeDiff, Nat.reduceLT, Nat.reduceBEq, Nat.reduceDiv, Nat.reduceMod, Nat.reducePow, Nat.reduceMul, Int.reduceToNat, Int.reduceLT, Int.reduceLE, keepL]) | refine an2 ?_ | fail)
      obtain ⟨d1, d2⟩ := hdead (by omega)
      have h1 := e1_ok (L := L) k (by omega) hpos
      refine W_ret ?_
      refine fin _ false (e1 j (k + 1)) R2 (by rfl) (by exact sameM.refl _) ((hX'.trans (hX2.dn (by omega))).up (by first | omega | (dsimp only; omega))) ⟨⟨?_, d1⟩, by rw [hln]; omega, fun q => (by cases q), fun _ => ⟨d2, _, _, hl1, ?_, fun x hx => (h1.bef x hx).2⟩⟩
      · rw [hs1]
        show (e1 j k).ss.set k (setN j k 0) = lsF _ (stO ((e1 j k).lg ++ [⟨k, -1, 0, setN j k 0⟩]))
        rw [stO_snoc, h1.ss, lsF_set (by omega)]
      · rcases setN_rng h hlt 0 with q | q
        · exact q
        · omega
  obtain rfl : k = j.ts.length := by omega
  have hO := oi_zero (L := L) hpos
  generalize e1 j j.ts.length = e0 at *
  clear hI hsn hln hpos hkn h5
  repeat' (first | refine w1g ?_ | refine w1l ?_ | refine w1q ?_ | refine w1b ?_ | refine w1p ?_ | ((first | refine w1r ?_ | refine w1k ?_ | refine w1e ?_); simp (maxSteps := 400000) (disch := omega) only [push_cast, ↓reduceIte, reduceCtorEq, Nat.reduceAdd, Nat.reduceSub, Nat.reduceEqDiff, Nat.reduceLeDiff, Nat.reduceLT, Nat.reduceBEq, Nat.reduceDiv, Nat.reduceMod, Nat.reducePow, Nat.reduceMul, Int.reduceToNat, Int.reduceLT, Int.reduceLE, keepL]) | refine an2 ?_ | fail)
  refine W_loopX 60 (fun u : Es × Nat × Bool => [(4, bv u.2.2)]) (fun u => engE b j L u.1) (fun u => OI j L u.1 u.2.1 u.2.2) (fun u => if u.2.2 = true then 19300 - u.2.1 else 0) (fun u _ => engM_bas _ _ _ _ _ _) ((hX'.opq hR').le (show nx1 ≤ nx1 + 2 by omega)) (e0, 0, true) hO (by rfl) (sameM.refl _) (fun u R2 nx2 hu hX2 => ?_)
  obtain ⟨e, P, ag⟩ := u
  dsimp only at hu ⊢
  have hX3 : Ext nx' R' nx2 R2 := (hX'.up (show nx1 ≤ nx1 + 2 by omega)).trans hX2
  clear hX2 hX' hX hO e0 R1 nx1 hN1
  simp (maxSteps := 400000) (disch := omega) only [push_cast, ↓reduceIte, reduceCtorEq, Nat.reduceAdd, Nat.reduceSub, Nat.reduceEqDiff, Nat.reduceLeDiff, Nat.reduceLT, Nat.reduceBEq, Nat.reduceDiv, Nat.reduceMod, Nat.reducePow, Nat.reduceMul, Int.reduceToNat, Int.reduceLT, Int.reduceLE, keepL]
  repeat' (first | refine w1g ?_ | refine w1l ?_ | refine w1q ?_ | refine w1b ?_ | refine w1p ?_ | ((first | refine w1r ?_ | refine w1k ?_ | refine w1e ?_); simp (maxSteps := 400000) (disch := omega) only [push_cast, ↓reduceIte, reduceCtorEq, Nat.reduceAdd, Nat.reduceSub, Nat.reduceEqDiff, Nat.reduceLeDiff, Nat.reduceLT, Nat.reduceBEq, Nat.reduceDiv, Nat.reduceMod, Nat.reducePow, Nat.reduceMul, Int.reduceToNat, Int.reduceLT, Int.reduceLE, keepL]) | refine an2 ?_ | fail)
  cases ag
  · refine W_cond (by rfl) (fun h => by cases h) (fun _ => ?_)
    repeat' (first | refine w1g ?_ | refine w1l ?_ | refine w1q ?_ | refine w1b ?_ | refine w1p ?_ | ((first | refine w1r ?_ | refine w1k ?_ | refine w1e ?_); simp (maxSteps := 400000) (disch := omega) only [push_cast, ↓reduceIte, reduceCtorEq, Nat.reduceAdd, Nat.reduceSub, Nat.reduceEqDiff, Nat.reduceLeDiff, Nat.reduceLT, Nat.reduceBEq, Nat.reduceDiv, Nat.reduceMod, Nat.reducePow, Nat.reduceMul, Int.reduceToNat, Int.reduceLT, Int.reduceLE, keepL]) | refine an2 ?_ | fail)
    refine W_ret ?_
    refine fin _ true e R2 (by rfl) (by exact sameM.refl _) (hX3.up (by first | omega | (dsimp only; omega))) ⟨hu.ei, ?_, fun _ => ⟨hu.pos, oi_end hu, hu.st⟩, fun q => (by cases q)⟩
    have h1 := hu.len
    have h2 := hu.mx
    have h3 : P * L.length ≤ 19300 * 240 := Nat.mul_le_mul h2 hll
    omega
  refine W_cond (by rfl) (fun _ => ?_) (fun h => by cases h)
  have hbd := oi_bound h hu
  have hp0 : PI j L (stO e.lg) P 0 e false := ⟨hu.ei, hu.dd, hu.pos, hu.st, by have := hu.len; omega, inp_zero _ _ _⟩
  have hne := fun e' ag' hp => oi_next h hL hc hu (e' := e') (ag := ag') hp
  have hN2 := (hX3.opq hR').n
  simp (maxSteps := 400000) (disch := omega) only [push_cast, ↓reduceIte, reduceCtorEq, Nat.reduceAdd, Nat.reduceSub, Nat.reduceEqDiff, Nat.reduceLeDiff, Nat.reduceLT, Nat.reduceBEq, Nat.reduceDiv, Nat.reduceMod, Nat.reducePow, Nat.reduceMul, Int.reduceToNat, Int.reduceLT, Int.reduceLE, engM, List.cons_append, List.nil_append]
  repeat' (first | refine w1g ?_ | refine w1l ?_ | refine w1q ?_ | refine w1b ?_ | refine w1p ?_ | ((first | refine w1r ?_ | refine w1k ?_ | refine w1e ?_); simp (maxSteps := 400000) (disch := omega) only [push_cast, ↓reduceIte, reduceCtorEq, Nat.reduceAdd, Nat.reduceSub, Nat.reduceEqDiff, Nat.reduceLeDiff, Nat.reduceLT, Nat.reduceBEq, Nat.reduceDiv, Nat.reduceMod, Nat.reducePow, Nat.reduceMul, Int.reduceToNat, Int.reduceLT, Int.reduceLE, keepL, ne_l, ne_r]) | refine an2 ?_ | fail)
  refine W_loopX 60 (fun v : Nat × Es × Bool => [(4, bv v.2.2), (26, iv v.1)]) (fun v => engE b j L v.2.1) (fun v => v.1 ≤ L.length ∧ PI j L (stO e.lg) P v.1 v.2.1 v.2.2) (fun v => L.length - v.1) (fun v _ => engM_bas _ _ _ _ _ _) ((hX3.opq hR').le (show nx2 ≤ nx2 + 9 by omega)) (0, e, false) ⟨by dsimp only; omega, hp0⟩ (by rfl) (sameM.refl _) (fun v R3 nx3 hv hX4 => ?_)
  obtain ⟨q, f, ag⟩ := v
  obtain ⟨hq, hp⟩ := hv
  dsimp only at hq hp ⊢
  have hX5 : Ext nx' R' nx3 R3 := (hX3.up (show nx2 ≤ nx2 + 9 by omega)).trans hX4
  have hN3 := (hX5.opq hR').n
  clear hX3 hN2 hp0
  have hfl := hp.ei.len
  simp (maxSteps := 400000) (disch := omega) only [push_cast, ↓reduceIte, reduceCtorEq, Nat.reduceAdd, Nat.reduceSub, Nat.reduceEqDiff, Nat.reduceLeDiff, Nat.reduceLT, Nat.reduceBEq, Nat.reduceDiv, Nat.reduceMod, Nat.reducePow, Nat.reduceMul, Int.reduceToNat, Int.reduceLT, Int.reduceLE, keepL]
  repeat' (first | refine w1g ?_ | refine w1l ?_ | refine w1q ?_ | refine w1b ?_ | refine w1p ?_ | ((first | refine w1r ?_ | refine w1k ?_ | refine w1e ?_); simp (maxSteps := 400000) (disch := omega) only [push_cast, ↓reduceIte, reduceCtorEq, Nat.reduceAdd, Nat.reduceSub, Nat.reduceEqDiff, Nat.reduceLeDiff, Nat.reduceLT, Nat.reduceBEq, Nat.reduceDiv, Nat.reduceMod, Nat.reducePow, Nat.reduceMul, Int.reduceToNat, Int.reduceLT, Int.reduceLE, keepL]) | refine an2 ?_ | fail)
  refine W_condD (by rfl) (fun h6 => ?_) (fun h6 => ?_)
  · have hql : q < L.length := by omega
    obtain ⟨a, ha⟩ : ∃ a, L.getD q dAf = a := ⟨_, rfl⟩
    have ham : a ∈ L := by rw [← ha]; exact getD_mem' dAf L q hql
    have hst := fun hd => pi_step h hL hp hql ha hd
    have hrl := raise_len (j := j) (a := a) (e := f)
    have hei := raise_ei hL hp.ei ham hp.pos
    have hdn := (raise_eng h hL hp.ei ham hp.pos hp.dd).1
    have hdd := raise_dead h hL ham hp.dd
    have hflen : f.lg.length ≤ 5000000 := by
      have h1 := hp.len
      have h3 : P * L.length ≤ 19300 * 240 := Nat.mul_le_mul (by omega) hll
      omega
    have hI := fun (tm : List (Nat × AV)) (R2 : Mem) (nx2 : Nat) (hR2 : Opq 60 R2 nx2) => i112 b j L f h a (hL a ham) hfl (fun i hi => by rw [hp.ei.get hi]; exact log_rng h hL hp.ei.lg i) (by omega) (tm := tm) hR2
    simp (maxSteps := 400000) (disch := omega) only [push_cast, ↓reduceIte, reduceCtorEq, Nat.reduceAdd, Nat.reduceSub, Nat.reduceEqDiff, Nat.reduceLeDiff, Nat.reduceLT, Nat.reduceBEq, Nat.reduceDiv, Nat.reduceMod, Nat.reducePow, Nat.reduceMul, Int.reduceToNat, Int.reduceLT, Int.reduceLE, engM, List.cons_append, List.nil_append]
    repeat' (first | refine w1g ?_ | refine w1l ?_ | refine w1q ?_ | refine w1b ?_ | refine w1p ?_ | ((first | refine w1r ?_ | refine w1k ?_ | refine w1e ?_); simp (maxSteps := 400000) (disch := omega) only [push_cast, ↓reduceIte, reduceCtorEq, Nat.reduceAdd, Nat.reduceSub, Nat.reduceEqDiff, Nat.reduceLeDiff, Nat.reduceLT, Nat.reduceBEq, Nat.reduceDiv, Nat.reduceMod, Nat.reducePow, Nat.reduceMul, Int.reduceToNat, Int.reduceLT, Int.reduceLE, keepL, ne_l, ne_r, ha]) | refine an2 ?_ | fail)
    refine CallC.inl (Inl_sameM (engE b j L f ++ R3) _ (sameM.refl _) (((hX5.opq hR').le (Nat.le_refl _)).mem (engM_bas b j L _ _ _)) (Inl_le' (hI _ R3 _ (hX5.opq hR')) (fun r s' hs2 => ?_)))
    obtain ⟨B', R4, nx4, hB', hX6, ⟨rfl, rfl⟩, hl⟩ := hs2
    refine ⟨_, ?_, hl⟩
    clear hI hl hB'
    generalize raiseE j a f = g at *
    generalize raiseB j a f = rb at *
    have hgl : g.lg.length ≤ 10000000 := by omega
    have hX7 : Ext nx' R' nx4 R4 := hX5.trans hX6
    have hN4 := (hX7.opq hR').n
    simp (maxSteps := 400000) (disch := omega) only [push_cast, ↓reduceIte, reduceCtorEq, Nat.reduceAdd, Nat.reduceSub, Nat.reduceEqDiff, Nat.reduceLeDiff, Nat.reduceLT, Nat.reduceBEq, Nat.reduceDiv, Nat.reduceMod, Nat.reducePow, Nat.reduceMul, Int.reduceToNat, Int.reduceLT, Int.reduceLE, engM, List.cons_append, List.nil_append]
    repeat' (first | refine w1g ?_ | refine w1l ?_ | refine w1q ?_ | refine w1b ?_ | refine w1p ?_ | ((first | refine w1r ?_ | refine w1k ?_ | refine w1e ?_); simp (maxSteps := 400000) (disch := omega) only [push_cast, ↓reduceIte, reduceCtorEq, Nat.reduceAdd, Nat.reduceSub, Nat.reduceEqDiff, Nat.reduceLeDiff, Nat.reduceLT, Nat.reduceBEq, Nat.reduceDiv, Nat.reduceMod, Nat.reducePow, Nat.reduceMul, Int.reduceToNat, Int.reduceLT, Int.reduceLE, keepL, ne_l, ne_r]) | refine an2 ?_ | fail)
    cases hgd : g.dd
    · refine W_cond (by rfl) (fun h => by cases h) (fun _ => ?_)
      repeat' (first | refine w1g ?_ | refine w1l ?_ | refine w1q ?_ | refine w1b ?_ | refine w1p ?_ | ((first | refine w1r ?_ | refine w1k ?_ | refine w1e ?_); simp (maxSteps := 400000) (disch := omega) only [push_cast, ↓reduceIte, reduceCtorEq, Nat.reduceAdd, Nat.reduceSub, Nat.reduceEqDiff, Nat.reduceLeDiff, Nat.reduceLT, Nat.reduceBEq, Nat.reduceDiv, Nat.reduceMod, Nat.reducePow, Nat.reduceMul, Int.reduceToNat, Int.reduceLT, Int.reduceLE, keepL]) | refine an2 ?_ | fail)
      refine ⟨(q + 1, g, rb || ag), R4, ⟨by dsimp only; omega, hst hgd⟩, by dsimp only; omega, by rfl, ?_, (hX6.up (by first | omega | (dsimp only; omega)))⟩
      show sameM (engM b j L g.ss g.lg g.dd ++ R4) _
      rw [hgd]
      exact sameM.refl _
    · refine W_cond (by rfl) (fun _ => ?_) (fun h => by cases h)
      repeat' (first | refine w1g ?_ | refine w1l ?_ | refine w1q ?_ | refine w1b ?_ | refine w1p ?_ | ((first | refine w1r ?_ | refine w1k ?_ | refine w1e ?_); simp (maxSteps := 400000) (disch := omega) only [push_cast, ↓reduceIte, reduceCtorEq, Nat.reduceAdd, Nat.reduceSub, Nat.reduceEqDiff, Nat.reduceLeDiff, Nat.reduceLT, Nat.reduceBEq, Nat.reduceDiv, Nat.reduceMod, Nat.reducePow, Nat.reduceMul, Int.reduceToNat, Int.reduceLT, Int.reduceLE, keepL]) | refine an2 ?_ | fail)
      refine W_ret ?_
      obtain ⟨r, hr1, hr2⟩ := hdd hgd
      refine fin _ false g R4 (by rfl) ?_ (hX7.up (by first | omega | (dsimp only; omega))) ⟨hei, hgl, fun q => (by cases q), fun _ => ⟨hdn hgd, _, _, hr1, hr2, hp.st⟩⟩
      show sameM (engM b j L g.ss g.lg g.dd ++ R4) _
      rw [hgd]
      exact sameM.refl _
  · obtain rfl : q = L.length := by omega
    have hne := hne _ _ hp
    repeat' (first | refine w1g ?_ | refine w1l ?_ | refine w1q ?_ | refine w1b ?_ | refine w1p ?_ | ((first | refine w1r ?_ | refine w1k ?_ | refine w1e ?_); simp (maxSteps := 400000) (disch := omega) only [push_cast, ↓reduceIte, reduceCtorEq, Nat.reduceAdd, Nat.reduceSub, Nat.reduceEqDiff, Nat.reduceLeDiff, Nat.reduceLT, Nat.reduceBEq, Nat.reduceDiv, Nat.reduceMod, Nat.reducePow, Nat.reduceMul, Int.reduceToNat, Int.reduceLT, Int.reduceLE, keepL]) | refine an2 ?_ | fail)
    refine ⟨(f, P + 1, ag), R3, hne, ?_, by rfl, sameM.refl _, ?_⟩
    · dsimp only
      split <;> omega
    · exact (hX4.dn (by omega)).up (by first | omega | (dsimp only; omega))
end Go.Proofs.Ytoiohkjomcbadaa

namespace Go.Proofs.Ytoiohkjomcbadaa
open Go Sy
set_option maxRecDepth 100000
set_option maxHeartbeats 4000000
set_option linter.unusedVariables false
set_option linter.unusedSimpArgs false
open Classical in
noncomputable def erlB (j : Jb) (L : List Af) : Bool := decide (∃ p, Rgt j.ts L p)
open Classical in
noncomputable def lstP (j : Jb) (L : List Af) : Nat → Int := if h : ∃ p, Rgt j.ts L p ∧ Low j.ts L p then Classical.choose h else fun _ => 0
noncomputable def erlL (j : Jb) (L : List Af) : List Int := if erlB j L = true then lsF j.ts.length (lstP j L) else []
theorem erl_yes {j : Jb} {L : List Af} {q : Nat → Int} (h1 : Rgt j.ts L q) (h2 : Low j.ts L q) : erlB j L = true ∧ erlL j L = lsF j.ts.length q ∧ Rgt j.ts L (lstP j L) ∧ Low j.ts L (lstP j L) := by
  have hb : erlB j L = true := by unfold erlB; exact @decide_eq_true _ (Classical.propDecidable _) ⟨q, h1⟩
  have hx : ∃ p, Rgt j.ts L p ∧ Low j.ts L p := ⟨q, h1, h2⟩
  have hs : Rgt j.ts L (lstP j L) ∧ Low j.ts L (lstP j L) := by
    unfold lstP
    rw [dif_pos hx]
    exact Classical.choose_spec hx
  refine ⟨hb, ?_, hs⟩
  unfold erlL
  rw [if_pos hb]
  exact lsF_congr fun i hi => low_end hs.2 hs.1 h2 h1 i hi
theorem erl_no {j : Jb} {L : List Af} (h : ¬ ∃ p, Rgt j.ts L p) : erlB j L = false ∧ erlL j L = [] := by
  have hb : erlB j L = false := by unfold erlB; exact @decide_eq_false _ (Classical.propDecidable _) h
  refine ⟨hb, ?_⟩
  unfold erlL
  rw [hb, if_neg (by decide)]
theorem run_yes {j : Jb} {L : List Af} (h : OkJ j) (hL : ∀ a ∈ L, LkOk j.ts.length a) {e : Es} (hr : RunOk j L true e) : Rgt j.ts L (stO e.lg) ∧ Low j.ts L (stO e.lg) := by
  obtain ⟨h1, h2, _⟩ := hr.ys rfl
  exact ⟨⟨fun i hi => log_fit h hr.ei.lg i hi (h1 i hi), h2⟩, (log_low h hL hr.ei.lg).1⟩
theorem can_no {j : Jb} {L : List Af} (hL : ∀ a ∈ L, LkOk j.ts.length a) (hc : Can (lkL L) (rnds (lkL L) (fun _ => 0) j.ts.length)) : ¬ ∃ p, Rgt j.ts L p := fun ⟨p, hp⟩ => by
  refine bf_stop (p := p) (fun e he => ?_) (lk_in hL) (Nat.le_succ j.ts.length) hc
  obtain ⟨a, ha, rfl⟩ := List.mem_map.1 he
  exact hp.l a ha
theorem can_none {j : Jb} {L : List Af} (hL : ∀ a ∈ L, LkOk j.ts.length a) (hc : ¬ Can (lkL L) (rnds (lkL L) (fun _ => 0) j.ts.length)) : ∀ x s c, Wx (lkL L) x x s c → 0 < c → c ≤ j.ts.length → s ≤ 0 := fun x s c hw h0 hn => by
  rcases Int.lt_or_le 0 s with q | q
  · exact absurd ((can_iff (lk_in hL) (Nat.le_succ j.ts.length)).2 ⟨x, s, c, hw, h0, hn, q⟩) hc
  · exact q
theorem lks_lk' {j : Jb} {o : List (List Int)} (h : OkO j o) : ∀ e ∈ lks j o, LkOk j.ts.length e := fun e he => by
  obtain ⟨h1, h2, h3, h4, h5, h6, h7⟩ := lks_ok h e he
  exact ⟨h1, h2, h3, h4, h6, h7⟩
theorem fn50 (j : Jb) (o : List (List Int)) (h : OkO j o) : Sy.Fn Try.prog 50 [aJ j, aO o] (.tup [aI (erlL j (lks j o)), bv (erlB j (lks j o))]) := by
  refine Fn_of_W mixed Xt50 rfl ?_
  have c52 := fn52 j o h
  have hn := h.n
  have hcJ : cJ j = [aT j.ts, aA j.af, aI j.tm] := rfl
  have hLL := lks_lk' h
  repeat (first | refine w1g ?_ | refine w1l ?_ | refine w1q ?_ | refine w1b ?_)
  refine w1r ?_
  (refine sy1 ?_; try exact True.intro)
  repeat (refine w1g ?_)
  refine W_gc [1, 2] [] 0 (by rfl) ?_
  simp (maxSteps := 400000) (disch := omega) only [push_cast, ↓reduceIte, reduceCtorEq, Nat.reduceAdd, Nat.reduceSub, Nat.reduceEqDiff, Nat.reduceLeDiff, Nat.reduceLT, Nat.reduceBEq, Nat.reduceDiv, Nat.reduceMod, Nat.reducePow, Nat.reduceMul, Int.reduceToNat, Int.reduceLT, Int.reduceLE, S.norm, List.map_cons, List.map_nil, keepM]
  repeat' (first | refine w1g ?_ | refine w1l ?_ | refine w1q ?_ | refine w1b ?_ | refine w1p ?_ | ((first | refine w1r ?_ | refine w1k ?_ | refine w1e ?_); (refine sy1 ?_; try exact True.intro)) | refine an2 ?_ | fail)
  refine CallC.inl (Inl_of_W mixed Xs69 rfl (fun vs => ?_))
  (refine sy1 ?_; try exact True.intro)
  repeat' (first | refine w1g ?_ | refine w1l ?_ | refine w1q ?_ | refine w1b ?_ | refine w1p ?_ | ((first | refine w1r ?_ | refine w1k ?_ | refine w1e ?_ | refine CallC.now (c52) ?_); (refine sy1 ?_; try exact True.intro)) | refine an2 ?_ | fail)
  refine ⟨rfl, ⟨by omega, by omega, by omega⟩, Int, 0, cI, 0, rfl, rfl, by omega, rfl, ?_⟩
  simp (maxSteps := 400000) (disch := omega) only [push_cast, ↓reduceIte, reduceCtorEq, Nat.reduceAdd, Nat.reduceSub, Nat.reduceEqDiff, Nat.reduceLeDiff, Nat.reduceLT, Nat.reduceBEq, Nat.reduceDiv, Nat.reduceMod, Nat.reducePow, Nat.reduceMul, Int.reduceToNat, Int.reduceLT, Int.reduceLE, Int.toNat_natCast, hcJ, List.cons_append, List.nil_append, List.append_nil, List.take_succ_cons, List.take_zero, List.drop_succ_cons, List.drop_zero, List.drop_nil, List.length_cons, List.length_nil]
  rw [lsF_rep]
  repeat' (first | refine w1g ?_ | refine w1l ?_ | refine w1q ?_ | refine w1b ?_ | refine w1p ?_ | ((first | refine w1r ?_ | refine w1k ?_ | refine w1e ?_); (refine sy1 ?_; try exact True.intro)) | refine an2 ?_ | fail)
  refine W_name 15 (by rfl) (fun b => ?_)
  (refine sy1 ?_; try exact True.intro)
  refine W_le (le_adoptC 14 5 64 4 dRs cR (by omega) _ rfl rfl (by simp)) ?_
  (refine sy1 ?_; try exact True.intro)
  refine W_le (le_adoptC 14 6 29 1 dAf (cCl b) (by omega) _ rfl rfl (by simp)) ?_
  (refine sy1 ?_; try exact True.intro)
  have hl0 := lsF_len j.ts.length (fun _ => 0)
  rw [hl0]
  clear hl0
  rw [f1_zero]
  refine W_loopU (fun i : Nat => [(24, iv i)]) (fun i => [(12, .row 0 2 1 0 cI (lsF j.ts.length (f1 i)))]) (fun i => i ≤ j.ts.length) (fun i => j.ts.length - i) 0 (by omega) (by rfl) (by rfl) (fun i hi => ?_)
  have hli := lsF_len j.ts.length (f1 i)
  (refine sy1 ?_; try exact True.intro)
  repeat' (first | refine w1g ?_ | refine w1l ?_ | refine w1q ?_ | refine w1b ?_ | refine w1p ?_ | ((first | refine w1r ?_ | refine w1k ?_ | refine w1e ?_); (refine sy1 ?_; try exact True.intro)) | refine an2 ?_ | fail)
  refine W_condD (by rfl) (fun h5 => ?_) (fun h5 => ?_)
  · have hset : (lsF j.ts.length (f1 i)).set i (-1) = lsF j.ts.length (f1 (i + 1)) := by rw [lsF_set (by omega), f1_step]
    repeat' (first | refine w1g ?_ | refine w1l ?_ | refine w1q ?_ | refine w1b ?_ | refine w1p ?_ | ((first | refine w1r ?_ | refine w1k ?_ | refine w1e ?_); simp (maxSteps := 400000) (disch := omega) only [push_cast, ↓reduceIte, reduceCtorEq, Nat.reduceAdd, Nat.reduceSub, Nat.reduceEqDiff, Nat.reduceLeDiff, Nat.reduceLT, Nat.reduceBEq, Nat.reduceDiv, Nat.reduceMod, Nat.reducePow, Nat.reduceMul, Int.reduceToNat, Int.reduceLT, Int.reduceLE, hli]) | refine an2 ?_ | fail)
    refine ⟨rfl, ⟨Nat.le_of_ble_eq_true rfl, rfl⟩, by omega, -1, rfl, rfl, ?_⟩
    rw [hset]
    (refine sy1 ?_; try exact True.intro)
    repeat' (first | refine w1g ?_ | refine w1l ?_ | refine w1q ?_ | refine w1b ?_ | refine w1p ?_ | ((first | refine w1r ?_ | refine w1k ?_ | refine w1e ?_); (refine sy1 ?_; try exact True.intro)) | refine an2 ?_ | fail)
    refine ⟨i + 1, by omega, by omega, by rfl, ?_⟩
    (refine syE ?_; try exact True.intro)
  obtain rfl : i = j.ts.length := by omega
  repeat' (first | refine w1g ?_ | refine w1l ?_ | refine w1q ?_ | refine w1b ?_ | refine w1p ?_ | ((first | refine w1r ?_ | refine w1k ?_ | refine w1e ?_); (refine sy1 ?_; try exact True.intro)) | refine an2 ?_ | fail)
  have hll := lks_len h
  generalize lks j o = L at *
  refine W_loopU (fun k : Nat => [(39, iv k)]) (fun k => [(25, .row k 29 1 dAf (cCl b) (L.take k)), (14, .cells [aT j.ts, aA j.af, aI j.tm, .sl 3 dAf cA L, .row 12 0, .row 24 0, .row 25 k, bv false])]) (fun k => k ≤ L.length) (fun k => L.length - k) 0 (by omega) (by rfl) (by rfl) (fun k hk => ?_)
  have htl : (L.take k).length = k := by rw [List.length_take]; omega
  (refine sy1 ?_; try exact True.intro)
  repeat' (first | refine w1g ?_ | refine w1l ?_ | refine w1q ?_ | refine w1b ?_ | refine w1p ?_ | ((first | refine w1r ?_ | refine w1k ?_ | refine w1e ?_); (refine sy1 ?_; try exact True.intro)) | refine an2 ?_ | fail)
  refine W_condD (by rfl) (fun h6 => ?_) (fun h6 => ?_)
  · have hts := take_snoc dAf L k (by omega)
    obtain ⟨a, hga⟩ : ∃ a, L.getD k dAf = a := ⟨_, rfl⟩
    rw [hga] at hts
    refine W_skip ?_
    (refine sy1 ?_; try exact True.intro)
    repeat (first | refine w1g ?_ | refine w1l ?_ | refine w1q ?_ | refine w1b ?_)
    refine w1r ?_
    simp (maxSteps := 400000) (disch := omega) only [push_cast, ↓reduceIte, reduceCtorEq, Nat.reduceAdd, Nat.reduceSub, Nat.reduceEqDiff, Nat.reduceLeDiff, Nat.reduceLT, Nat.reduceBEq, Nat.reduceDiv, Nat.reduceMod, Nat.reducePow, Nat.reduceMul, Int.reduceToNat, Int.reduceLT, Int.reduceLE, hga]
    refine ⟨⟨by omega, by omega⟩, ?_⟩
    repeat (refine w1g ?_)
    refine W_le (le_frz 8 [5, 37, 38, 39] [25, 24, 23, 2, 12, 14, 15] 60 36 0 (cA a) rfl rfl rfl rfl rfl) ?_
    simp (maxSteps := 400000) (disch := omega) only [push_cast, ↓reduceIte, reduceCtorEq, Nat.reduceAdd, Nat.reduceSub, Nat.reduceEqDiff, Nat.reduceLeDiff, Nat.reduceLT, Nat.reduceBEq, Nat.reduceDiv, Nat.reduceMod, Nat.reducePow, Nat.reduceMul, Int.reduceToNat, Int.reduceLT, Int.reduceLE, List.map_cons, List.map_nil, keepM]
    generalize L.take k = T at *
    refine reg69 j L T a b k vs _ (lsF j.ts.length (f1 j.ts.length)) htl (by omega) ?_
    (refine sy1 ?_; try exact True.intro)
    repeat' (first | refine w1g ?_ | refine w1l ?_ | refine w1q ?_ | refine w1b ?_ | refine w1p ?_ | ((first | refine w1r ?_ | refine w1k ?_ | refine w1e ?_); (refine sy1 ?_; try exact True.intro)) | refine an2 ?_ | fail)
    refine ⟨k + 1, by omega, by omega, by rfl, ?_⟩
    rw [hts]
    (refine syE ?_; try exact True.intro)
  obtain rfl : k = L.length := by omega
  rw [List.take_length]
  repeat' (first | refine w1g ?_ | refine w1l ?_ | refine w1q ?_ | refine w1b ?_ | refine w1p ?_ | ((first | refine w1r ?_ | refine w1k ?_ | refine w1e ?_); (refine sy1 ?_; try exact True.intro)) | refine an2 ?_ | fail)
  refine W_ret ⟨[_], _, ⟨rfl, rfl⟩, rfl, ?_⟩
  simp (maxSteps := 400000) (disch := omega) only [push_cast, ↓reduceIte, reduceCtorEq, Nat.reduceAdd, Nat.reduceSub, Nat.reduceEqDiff, Nat.reduceLeDiff, Nat.reduceLT, Nat.reduceBEq, Nat.reduceDiv, Nat.reduceMod, Nat.reducePow, Nat.reduceMul, Int.reduceToNat, Int.reduceLT, Int.reduceLE, pack, delm]
  have hf1 : lsF j.ts.length (f1 j.ts.length) = (e1 j 0).ss := lsF_congr fun i hi => by unfold f1; rw [if_pos hi]
  rw [hf1]
  refine W_gc [2, 6] [25, 24, 23, 12, 14, 15] 60 (by rfl) ?_
  simp (maxSteps := 400000) (disch := omega) only [push_cast, ↓reduceIte, reduceCtorEq, Nat.reduceAdd, Nat.reduceSub, Nat.reduceEqDiff, Nat.reduceLeDiff, Nat.reduceLT, Nat.reduceBEq, Nat.reduceDiv, Nat.reduceMod, Nat.reducePow, Nat.reduceMul, Int.reduceToNat, Int.reduceLT, Int.reduceLE, S.norm, List.map_cons, List.map_nil, keepM]
  by_cases hc : Can (lkL L) (rnds (lkL L) (fun _ => 0) j.ts.length)
  · obtain ⟨p, hp1, hp2, c70⟩ := fn70s j.ts.length L (by have := h.n0; omega) hn hll hLL hc
    obtain ⟨e1, e2⟩ := erl_no (can_no hLL hc)
    have hpl := cirL_len (brs (lkL L) (j.ts.length + 1)).by' (crcX j.ts.length (lkL L)) p
    have hpp := hp2.pos
    have hrl : 0 < (cirL (brs (lkL L) (j.ts.length + 1)).by' (crcX j.ts.length (lkL L)) p).reverse.length := by rw [List.length_reverse]; omega
    generalize (cirL (brs (lkL L) (j.ts.length + 1)).by' (crcX j.ts.length (lkL L)) p).reverse = C at *
    rw [e1, e2]
    repeat' (first | refine w1g ?_ | refine w1l ?_ | refine w1q ?_ | refine w1b ?_ | refine w1p ?_ | ((first | refine W_regS 11 (by decide) (by decide) ?_ | refine w1r ?_ | refine w1k ?_ | refine w1e ?_ | refine CallC.now (c70) ?_); (refine sy1 ?_; try exact True.intro)) | refine an2 ?_ | fail)
    refine CallC.inlG (fun q => absurd q (by simp [pc])) (fun q => ⟨bv false, ?_⟩)
    (refine sy1 ?_; try exact True.intro)
    refine W_cond (by rfl) (fun _ => ?_) (fun h => by cases h)
    repeat' (first | refine w1g ?_ | refine w1l ?_ | refine w1q ?_ | refine w1b ?_ | refine w1p ?_ | ((first | refine w1r ?_ | refine w1k ?_ | refine w1e ?_); (refine sy1 ?_; try exact True.intro)) | refine an2 ?_ | fail)
    refine W_le (le_nil 4 1 0 cI rfl) ?_
    exact W_ret ⟨[_, _], ⟨rfl, rfl, rfl⟩, rfl⟩
  · have c70 := fn70n j.ts.length L (by have := h.n0; omega) hn hll hLL hc
    have hR0 := fun (tm : List (Nat × AV)) => i71 b j L h.toOkJ hLL hll (can_none hLL hc) (tm := tm) (opq_nil 60)
    repeat' (first | refine w1g ?_ | refine w1l ?_ | refine w1q ?_ | refine w1b ?_ | refine w1p ?_ | ((first | refine W_regS 11 (by decide) (by decide) ?_ | refine w1r ?_ | refine w1k ?_ | refine w1e ?_ | refine CallC.now (c70) ?_); (refine sy1 ?_; try exact True.intro)) | refine an2 ?_ | fail)
    refine CallC.inlG (fun _ => ⟨trivial, Inl_sameM (engE b j L (e1 j 0) ++ []) 60 (fun _ => rfl) ((opq_nil 60).mem (engM_bas b j L _ _ _)) (Inl_le' (hR0 _) (fun r s' hs2 => ?_))⟩) (fun q => absurd (by simp [pc]) q)
    obtain ⟨B', R2, nx2, hB', hX, ⟨ok, e, rfl, rfl, hr⟩, hl⟩ := hs2
    refine ⟨_, ?_, hl⟩
    (refine sy1 ?_; try exact True.intro)
    cases ok
    · obtain ⟨e1, e2⟩ := erl_no (hr.no rfl).1
      rw [e1, e2]
      refine W_cond (by rfl) (fun _ => ?_) (fun h => by cases h)
      repeat' (first | refine w1g ?_ | refine w1l ?_ | refine w1q ?_ | refine w1b ?_ | refine w1p ?_ | ((first | refine w1r ?_ | refine w1k ?_ | refine w1e ?_); (refine sy1 ?_; try exact True.intro)) | refine an2 ?_ | fail)
      refine W_le (le_nil 4 1 0 cI rfl) ?_
      exact W_ret ⟨[_, _], ⟨rfl, rfl, rfl⟩, rfl⟩
    · obtain ⟨q1, q2⟩ := run_yes h.toOkJ hLL hr
      obtain ⟨e1, e2, _⟩ := erl_yes q1 q2
      have hss := hr.ei.ss
      rw [e1, e2, ← hss]
      refine W_cond (by rfl) (fun h => by cases h) (fun _ => ?_)
      simp (maxSteps := 400000) (disch := omega) only [push_cast, ↓reduceIte, reduceCtorEq, Nat.reduceAdd, Nat.reduceSub, Nat.reduceEqDiff, Nat.reduceLeDiff, Nat.reduceLT, Nat.reduceBEq, Nat.reduceDiv, Nat.reduceMod, Nat.reducePow, Nat.reduceMul, Int.reduceToNat, Int.reduceLT, Int.reduceLE, engM, List.cons_append, List.nil_append]
      repeat' (first | refine w1g ?_ | refine w1l ?_ | refine w1q ?_ | refine w1b ?_ | refine w1p ?_ | ((first | refine w1r ?_ | refine w1k ?_ | refine w1e ?_); (refine sy1 ?_; try exact True.intro)) | refine an2 ?_ | fail)
      exact W_ret ⟨[_, _], ⟨rfl, rfl, rfl⟩, rfl⟩
end Go.Proofs.Ytoiohkjomcbadaa

namespace Go.Proofs.Ytoiohkjomcbadaa
open Go Sy
set_option maxRecDepth 100000
set_option maxHeartbeats 4000000
set_option linter.unusedVariables false
set_option linter.unusedSimpArgs false
noncomputable def eaE (j : Jb) (o : List (List Int)) : Int := if chkO j o = 0 then (if erlB j (lks j o) = true then 0 else 15) else chkO j o
noncomputable def eaL (j : Jb) (o : List (List Int)) : List Int := if chkO j o = 0 then erlL j (lks j o) else []
theorem erlL_no {j : Jb} {L : List Af} (h : erlB j L = false) : erlL j L = [] := by unfold erlL; rw [h, if_neg (by decide)]
theorem fn14 (j : Jb) (o : List (List Int)) (h : Gj j) (ho : Go' o) : Sy.Fn Try.prog 14 [aJ j, aO o] (.tup [aI (eaL j o), iv (eaE j o)]) := by
  refine Fn_of_W mixed Xt14 rfl ?_
  have c40 := fn40 j o h ho
  by_cases h0 : chkO j o = 0
  · have e1 : eaL j o = erlL j (lks j o) := by unfold eaL; rw [if_pos h0]
    have e2 : eaE j o = if erlB j (lks j o) = true then 0 else 15 := by unfold eaE; rw [if_pos h0]
    have c50 := fn50 j o (chkO_ok h0).1
    have hno := erlL_no (j := j) (L := lks j o)
    rw [h0] at c40
    rw [e1, e2]
    generalize erlL j (lks j o) = E at *
    generalize erlB j (lks j o) = b at *
    repeat' (first | refine w1g ?_ | refine w1l ?_ | refine w1q ?_ | refine w1b ?_ | refine w1p ?_ | ((first | refine w1r ?_ | refine w1k ?_ | refine w1e ?_ | refine CallC.now (c40) ?_); (refine sy1 ?_; try exact True.intro)) | refine an2 ?_ | fail)
    refine W_cond (by rfl) (fun h => by cases h) (fun _ => ?_)
    repeat' (first | refine w1g ?_ | refine w1l ?_ | refine w1q ?_ | refine w1b ?_ | refine w1p ?_ | ((first | refine w1r ?_ | refine w1k ?_ | refine w1e ?_ | refine CallC.now (c50) ?_); (refine sy1 ?_; try exact True.intro)) | refine an2 ?_ | fail)
    cases b
    · rw [hno rfl]
      refine W_cond (by rfl) (fun _ => ?_) (fun h => by cases h)
      repeat' (first | refine w1g ?_ | refine w1l ?_ | refine w1q ?_ | refine w1b ?_ | refine w1p ?_ | ((first | refine w1r ?_ | refine w1k ?_ | refine w1e ?_); (refine sy1 ?_; try exact True.intro)) | refine an2 ?_ | fail)
      refine W_le (le_nil 4 1 0 cI rfl) ?_
      exact W_ret ⟨[_, _], ⟨rfl, rfl, rfl⟩, rfl⟩
    · refine W_cond (by rfl) (fun h => by cases h) (fun _ => ?_)
      repeat' (first | refine w1g ?_ | refine w1l ?_ | refine w1q ?_ | refine w1b ?_ | refine w1p ?_ | ((first | refine w1r ?_ | refine w1k ?_ | refine w1e ?_); (refine sy1 ?_; try exact True.intro)) | refine an2 ?_ | fail)
      exact W_ret ⟨[_, _], ⟨rfl, rfl, rfl⟩, rfl⟩
  · have e1 : eaL j o = [] := by unfold eaL; rw [if_neg h0]
    have e2 : eaE j o = chkO j o := by unfold eaE; rw [if_neg h0]
    rw [e1, e2]
    generalize chkO j o = E at *
    repeat' (first | refine w1g ?_ | refine w1l ?_ | refine w1q ?_ | refine w1b ?_ | refine w1p ?_ | ((first | refine w1r ?_ | refine w1k ?_ | refine w1e ?_ | refine CallC.now (c40) ?_); (refine sy1 ?_; try exact True.intro)) | refine an2 ?_ | fail)
    refine W_cond (by rfl) (fun _ => ?_) (fun h => absurd (by simpa using h) h0)
    repeat' (first | refine w1g ?_ | refine w1l ?_ | refine w1q ?_ | refine w1b ?_ | refine w1p ?_ | ((first | refine w1r ?_ | refine w1k ?_ | refine w1e ?_); (refine sy1 ?_; try exact True.intro)) | refine an2 ?_ | fail)
    refine W_le (le_nil 4 1 0 cI rfl) ?_
    exact W_ret ⟨[_, _], ⟨rfl, rfl, rfl⟩, rfl⟩
def exW : List Wn := [⟨0, 100⟩, ⟨1000, 2000⟩]
def exJ : Jb := ⟨[⟨60, exW, 0⟩, ⟨60, exW, 0⟩, ⟨60, exW, -1⟩], [⟨0, 2, 50⟩], [30]⟩
def exO : List (List Int) := [[0, 1]]
theorem ex_chk : chkO exJ exO = 0 := by
  have h1 : chkJ exJ = 0 := by decide +kernel
  have h2 : ordB exJ exO = true := by
    unfold ordB
    show (rowB exJ 0 [0, 1] && true) = true
    rw [Bool.and_true, rowB_iff]
    exact List.Perm.refl _
  unfold chkO
  rw [if_pos h1, if_pos (by decide), if_pos h2]
def exP : Nat → Int := fun i => if i = 0 then 0 else 1000
theorem ex_lks : lks exJ exO = [⟨0, 2, 50⟩, ⟨0, 1, 90⟩] := by rfl
theorem ex_rgt : Rgt exJ.ts (lks exJ exO) exP := by
  rw [ex_lks]
  refine ⟨fun i hi => ?_, fun e he => ?_⟩
  · rcases i with _ | _ | _ | i
    · exact ⟨⟨0, 100⟩, by simp [exJ, exW], by decide, by decide⟩
    · exact ⟨⟨1000, 2000⟩, by simp [exJ, exW], by decide, by decide⟩
    · exact ⟨⟨1000, 2000⟩, by simp [exJ, exW], by decide, by decide⟩
    · exact absurd (show i + 1 + 1 + 1 < 3 from hi) (by omega)
  · simp only [List.mem_cons, List.not_mem_nil, or_false] at he
    rcases he with rfl | rfl <;> decide
theorem ex_low : Low exJ.ts (lks exJ exO) exP := by
  rw [ex_lks]
  intro p hp i hi
  have f0 := hp.f 0 (by decide)
  have f1 := hp.f 1 (by decide)
  have f2 := hp.f 2 (by decide)
  have l1 := hp.l ⟨0, 2, 50⟩ (by simp)
  have l2 := hp.l ⟨0, 1, 90⟩ (by simp)
  have key : ∀ x, fitW 60 x exW → (0 ≤ x ∧ x ≤ 40) ∨ 1000 ≤ x := fun x hx => by
    obtain ⟨w, hw, h1, h2⟩ := hx
    simp only [exW, List.mem_cons, List.not_mem_nil, or_false] at hw
    rcases hw with rfl | rfl
    · dsimp only at h1 h2; left; omega
    · dsimp only at h1 h2; right; omega
  have k0 := key _ f0
  have k1 := key _ f1
  have k2 := key _ f2
  have l1' : p 0 + 50 ≤ p 2 := l1
  have l2' : p 0 + 90 ≤ p 1 := l2
  rcases i with _ | _ | _ | i
  · show 0 ≤ p 0; omega
  · show 1000 ≤ p 1; omega
  · show 1000 ≤ p 2; omega
  · exact absurd (show i + 1 + 1 + 1 < 3 from hi) (by omega)
theorem ex_ea : eaE exJ exO = 0 ∧ eaL exJ exO = [0, 1000, 1000] := by
  obtain ⟨h1, h2, _⟩ := erl_yes ex_rgt ex_low
  unfold eaE eaL
  rw [if_pos ex_chk, if_pos ex_chk, h1, h2, if_pos rfl]
  exact ⟨rfl, rfl⟩
theorem ex_gj : Gj exJ := ⟨by decide, by decide, by decide, fun i hi => by
  rcases i with _ | _ | _ | i
  · decide
  · decide
  · decide
  · exact absurd (show i + 1 + 1 + 1 < 3 from hi) (by omega)⟩
theorem ex_go : Go' exO := ⟨by decide, fun t ht => by
  rcases t with _ | t
  · decide
  · simp [exO] at ht⟩
theorem fn49 : Sy.Fn Try.prog 49 [] (aJ exJ) := by
  refine Fn_of_W mixed Xt49 rfl ?_
  repeat' (first | refine w1g ?_ | refine w1l ?_ | refine w1q ?_ | refine w1b ?_ | refine w1p ?_ | ((first | refine w1r ?_ | refine w1k ?_ | refine w1e ?_); (refine sy1 ?_; try exact True.intro)) | refine an2 ?_ | fail)
  refine ⟨rfl, trivial, Wn, dWn, cN, exW, rfl, by omega, fun x _ => ⟨rfl, rfl⟩, rfl, ?_⟩
  (refine sy1 ?_; try exact True.intro)
  repeat (refine w1g ?_)
  refine W_le (le_frzR 1 [0] [0] 60 3 0 37 2 dWn cN exW rfl rfl rfl rfl) ?_
  simp (maxSteps := 400000) (disch := omega) only [push_cast, ↓reduceIte, reduceCtorEq, Nat.reduceAdd, Nat.reduceSub, Nat.reduceEqDiff, Nat.reduceLeDiff, Nat.reduceLT, Nat.reduceBEq, Nat.reduceDiv, Nat.reduceMod, Nat.reducePow, Nat.reduceMul, Int.reduceToNat, Int.reduceLT, Int.reduceLE, List.map_cons, List.map_nil, keepM]
  repeat' (first | refine w1g ?_ | refine w1l ?_ | refine w1q ?_ | refine w1b ?_ | refine w1p ?_ | ((first | refine w1r ?_ | refine w1k ?_ | refine w1e ?_); (refine sy1 ?_; try exact True.intro)) | refine an2 ?_ | fail)
  refine ⟨rfl, trivial, Tk, dTk, cT, exJ.ts, rfl, by omega, fun x _ => ⟨rfl, rfl⟩, rfl, ?_⟩
  (refine sy1 ?_; try exact True.intro)
  refine ⟨rfl, trivial, Af, dAf, cA, exJ.af, rfl, by omega, fun x _ => ⟨rfl, rfl⟩, rfl, ?_⟩
  (refine sy1 ?_; try exact True.intro)
  refine ⟨rfl, trivial, Int, 0, cI, exJ.tm, rfl, by omega, fun x _ => ⟨rfl, rfl⟩, rfl, ?_⟩
  (refine sy1 ?_; try exact True.intro)
  repeat' (first | refine w1g ?_ | refine w1l ?_ | refine w1q ?_ | refine w1b ?_ | refine w1p ?_ | ((first | refine w1r ?_ | refine w1k ?_ | refine w1e ?_); (refine sy1 ?_; try exact True.intro)) | refine an2 ?_ | fail)
  exact W_ret ⟨[_], ⟨⟨by decide, rfl⟩, rfl⟩, rfl⟩
theorem ex_fit : ftE exW 60 41 = 0 ∧ ftV exW 60 41 = 1000 := by decide +kernel
theorem fn13 : Sy.Fn Try.prog 13 [] (bv true) := by
  refine Fn_of_W mixed Xt13 rfl ?_
  have c49 := fn49
  have c14 := fn14 exJ exO ex_gj ex_go
  obtain ⟨e1, e2⟩ := ex_ea
  rw [e1, e2] at c14
  have c42 := fn42 exW 60 41 (by decide)
  obtain ⟨e3, e4⟩ := ex_fit
  rw [e3, e4] at c42
  have hcJ : cJ exJ = [aT exJ.ts, aA exJ.af, aI exJ.tm] := rfl
  have g0 : exJ.ts.getD 0 dTk = ⟨60, exW, 0⟩ := rfl
  have l0 : exJ.ts.length = 3 := rfl
  repeat (first | refine w1g ?_ | refine w1l ?_ | refine w1q ?_ | refine w1b ?_)
  refine w1r ?_
  (refine sy1 ?_; try exact True.intro)
  repeat (first | refine w1g ?_ | refine w1l ?_ | refine w1q ?_ | refine w1b ?_)
  refine W_regP [2, 1] (by decide) ?_
  simp (maxSteps := 400000) (disch := omega) only [push_cast, ↓reduceIte, reduceCtorEq, Nat.reduceAdd, Nat.reduceSub, Nat.reduceEqDiff, Nat.reduceLeDiff, Nat.reduceLT, Nat.reduceBEq, Nat.reduceDiv, Nat.reduceMod, Nat.reducePow, Nat.reduceMul, Int.reduceToNat, Int.reduceLT, Int.reduceLE, chainP, List.take_succ_cons, List.take_zero, List.drop_succ_cons, List.drop_zero]
  refine CallC.now c49 ?_
  simp (maxSteps := 400000) (disch := omega) only [push_cast, ↓reduceIte, reduceCtorEq, Nat.reduceAdd, Nat.reduceSub, Nat.reduceEqDiff, Nat.reduceLeDiff, Nat.reduceLT, Nat.reduceBEq, Nat.reduceDiv, Nat.reduceMod, Nat.reducePow, Nat.reduceMul, Int.reduceToNat, Int.reduceLT, Int.reduceLE, chainP, List.take_succ_cons, List.take_zero, List.drop_succ_cons, List.drop_zero]
  refine ⟨rfl, trivial, Int, 0, cI, [0, 1], rfl, by omega, fun x _ => ⟨rfl, rfl⟩, rfl, ?_⟩
  (refine sy1 ?_; try exact True.intro)
  refine ⟨_, le_frzR 7 [6] [] 60 2 0 3 1 0 cI [0, 1] rfl rfl rfl rfl, ?_⟩
  simp (maxSteps := 400000) (disch := omega) only [push_cast, ↓reduceIte, reduceCtorEq, Nat.reduceAdd, Nat.reduceSub, Nat.reduceEqDiff, Nat.reduceLeDiff, Nat.reduceLT, Nat.reduceBEq, Nat.reduceDiv, Nat.reduceMod, Nat.reducePow, Nat.reduceMul, Int.reduceToNat, Int.reduceLT, Int.reduceLE, List.map_cons, List.map_nil, keepM, chainP, List.take_succ_cons, List.take_zero, List.drop_succ_cons, List.drop_zero]
  refine ⟨rfl, trivial, List Int, [], cO, exO, rfl, by omega, fun x _ => ⟨rfl, rfl⟩, rfl, ?_⟩
  (refine sy1 ?_; try exact True.intro)
  refine ⟨_, le_frzR 8 [6] [] 70 60 0 52 1 [] cO exO rfl rfl rfl rfl, ?_⟩
  simp (maxSteps := 400000) (disch := omega) only [push_cast, ↓reduceIte, reduceCtorEq, Nat.reduceAdd, Nat.reduceSub, Nat.reduceEqDiff, Nat.reduceLeDiff, Nat.reduceLT, Nat.reduceBEq, Nat.reduceDiv, Nat.reduceMod, Nat.reducePow, Nat.reduceMul, Int.reduceToNat, Int.reduceLT, Int.reduceLE, List.map_cons, List.map_nil, keepM, chainP, List.take_succ_cons, List.take_zero, List.drop_succ_cons, List.drop_zero]
  repeat' (first | refine w1g ?_ | refine w1l ?_ | refine w1q ?_ | refine w1b ?_ | refine w1p ?_ | ((first | refine w1r ?_ | refine w1k ?_ | refine w1e ?_ | refine CallC.now (c14) ?_); (refine sy1 ?_; try exact True.intro)) | refine an2 ?_ | fail)
  repeat' (first | refine w1g ?_ | refine w1l ?_ | refine w1q ?_ | refine w1b ?_ | refine w1p ?_ | ((first | refine w1r ?_ | refine w1k ?_ | refine w1e ?_ | refine CallC.now (c49) ?_ | refine CallC.now (c42) ?_); simp (maxSteps := 400000) (disch := omega) only [push_cast, ↓reduceIte, reduceCtorEq, Nat.reduceAdd, Nat.reduceSub, Nat.reduceEqDiff, Nat.reduceLeDiff, Nat.reduceLT, Nat.reduceBEq, Nat.reduceDiv, Nat.reduceMod, Nat.reducePow, Nat.reduceMul, Int.reduceToNat, Int.reduceLT, Int.reduceLE, hcJ, g0, l0]) | refine an2 ?_ | fail)
  exact W_ret ⟨[_], ⟨rfl, rfl⟩, rfl⟩
end Go.Proofs.Ytoiohkjomcbadaa

namespace Go.Proofs.Ytoiohkjomcbadaa
open Go Sy
set_option linter.unusedVariables false
theorem least_ex {j : Jb} {L : List Af} (h : OkJ j) (hL : ∀ a ∈ L, LkOk j.ts.length a) (hx : ∃ p, Rgt j.ts L p) : ∃ q, Rgt j.ts L q ∧ Low j.ts L q := by
  obtain ⟨p0, hp0⟩ := hx
  have hge : ∀ p, Rgt j.ts L p → ∀ i, i < j.ts.length → 0 ≤ p i := fun p hp i hi => by
    obtain ⟨w, hw, h1, _⟩ := hp.f i hi
    have := (h.t i hi).1.2.2.all w hw
    omega
  have key : ∀ i, ∃ d : Int, i < j.ts.length → (∃ p, Rgt j.ts L p ∧ p i = d) ∧ ∀ p, Rgt j.ts L p → d ≤ p i := fun i => by
    by_cases hi : i < j.ts.length
    · obtain ⟨d, ⟨p, hp, hd⟩, hm⟩ := max_ex (P := fun x => ∃ p, Rgt j.ts L p ∧ p i = -x) (B := 0) (fun x ⟨p, hp, hx⟩ => by have := hge p hp i hi; omega) (x := -p0 i) ⟨p0, hp0, by omega⟩
      refine ⟨-d, fun _ => ⟨⟨p, hp, hd⟩, fun q hq => ?_⟩⟩
      have := hm (-q i) ⟨q, hq, by omega⟩
      omega
    · exact ⟨0, fun q => absurd q hi⟩
  refine ⟨fun i => Classical.choose (key i), ⟨fun i hi => ?_, fun e he => ?_⟩, fun p hp i hi => ((Classical.choose_spec (key i)) hi).2 p hp⟩
  · obtain ⟨⟨p, hp, hd⟩, _⟩ := (Classical.choose_spec (key i)) hi
    rw [← hd]
    exact hp.f i hi
  · obtain ⟨a1, a2, a3, a4, _⟩ := hL e he
    obtain ⟨_, hA⟩ := (Classical.choose_spec (key e.a.toNat)) (by omega)
    obtain ⟨⟨p, hp, hd⟩, _⟩ := (Classical.choose_spec (key e.b.toNat)) (by omega)
    have := hp.l e he
    have := hA p hp
    omega
theorem rgt_congr {j : Jb} {L : List Af} (hL : ∀ a ∈ L, LkOk j.ts.length a) {p q : Nat → Int} (h : ∀ i, i < j.ts.length → p i = q i) (hp : Rgt j.ts L p) : Rgt j.ts L q := by
  refine ⟨fun i hi => by rw [← h i hi]; exact hp.f i hi, fun e he => ?_⟩
  obtain ⟨a1, a2, a3, a4, _⟩ := hL e he
  rw [← h _ (by omega), ← h _ (by omega)]
  exact hp.l e he
theorem erl_facts {j : Jb} {L : List Af} (h : OkJ j) (hL : ∀ a ∈ L, LkOk j.ts.length a) (hb : erlB j L = true) : (erlL j L).length = j.ts.length ∧ Rgt j.ts L (gi (erlL j L)) ∧ Low j.ts L (gi (erlL j L)) := by
  have hx : ∃ p, Rgt j.ts L p := by
    unfold erlB at hb
    exact @of_decide_eq_true _ (Classical.propDecidable _) hb
  obtain ⟨q, h1, h2⟩ := least_ex h hL hx
  obtain ⟨_, h3, _⟩ := erl_yes h1 h2
  rw [h3]
  have hg : ∀ i, i < j.ts.length → q i = gi (lsF j.ts.length q) i := fun i hi => (lsF_get hi).symm
  exact ⟨lsF_len _ _, rgt_congr hL hg h1, fun p hp i hi => by rw [← hg i hi]; exact h2 p hp i hi⟩
theorem erlB_no {j : Jb} {L : List Af} (hb : erlB j L = false) : ¬ ∃ p, Rgt j.ts L p := by
  unfold erlB at hb
  exact @of_decide_eq_false _ (Classical.propDecidable _) hb
end Go.Proofs.Ytoiohkjomcbadaa

namespace Go.Proofs.Ytoiohkjomcbadaa
open Go Sy
set_option maxRecDepth 100000
set_option maxHeartbeats 4000000
set_option linter.unusedVariables false
set_option linter.unusedSimpArgs false
def f2 (i : Nat) : Nat → Int := fun k => if k < i then noS else 0
end Go.Proofs.Ytoiohkjomcbadaa

namespace Go.Proofs.Ytoiohkjomcbadaa
open Go Sy
set_option maxRecDepth 100000
set_option maxHeartbeats 4000000
set_option linter.unusedVariables false
set_option linter.unusedSimpArgs false
structure RF (j : Jb) (L : List Af) (F : Nat → Int) : Prop where
  low : Low j.ts L F
  fit : ∀ i, i < j.ts.length → fitW (gt j.ts i).mi (F i) (gt j.ts i).ws
  rng : ∀ i, i < j.ts.length → 0 ≤ F i ∧ F i ≤ 1099511627776
end Go.Proofs.Ytoiohkjomcbadaa

namespace Go.Proofs.Ytoiohkjomcbadaa
set_option linter.unusedVariables false
section
variable {α : Type} (lt : α → α → Bool)
def ins (v : α) : List α → List α
  | [] => [v]
  | u :: l => if lt v u = true then v :: u :: l else u :: ins v l
def isort (l : List α) : List α := l.foldl (fun o v => ins lt v o) []
def mrg : List α → List α → List α
  | [], V => V
  | u :: U, [] => u :: U
  | u :: U, v :: V => if lt v u = true then v :: mrg (u :: U) V else u :: mrg U (v :: V)
termination_by U V => U.length + V.length
structure SW (lt : α → α → Bool) : Prop where
  asym : ∀ {a b}, lt a b = true → lt b a = false
  nt : ∀ {a b c}, lt b a = false → lt c b = false → lt c a = false
def SrtL (l : List α) : Prop := l.Pairwise (fun a b => lt b a = false)
variable {lt}
theorem SW.trans (h : SW lt) {a b c : α} (h1 : lt a b = true) (h2 : lt b c = true) : lt a c = true := by
  cases q : lt a c with
  | true => rfl
  | false =>
    have := h.nt q (h.asym h1)
    rw [this] at h2; cases h2
theorem SW.lt_le (h : SW lt) {a b c : α} (h1 : lt a b = true) (h2 : lt c b = false) : lt a c = true := by
  cases q : lt a c with
  | true => rfl
  | false =>
    have := h.nt h2 q
    rw [this] at h1; cases h1
theorem SW.le_lt (h : SW lt) {a b c : α} (h1 : lt b a = false) (h2 : lt b c = true) : lt a c = true := by
  cases q : lt a c with
  | true => rfl
  | false =>
    have := h.nt q h1
    rw [this] at h2; cases h2
theorem ins_split {v : α} : ∀ {A B : List α}, (∀ a ∈ A, lt v a = false) → (∀ b ∈ B, lt v b = true) → ins lt v (A ++ B) = A ++ v :: B
  | [], [], _, _ => rfl
  | [], b :: B, _, h => by
    simp only [List.nil_append, ins]
    rw [if_pos (h b List.mem_cons_self)]
  | a :: A, B, h1, h2 => by
    simp only [List.cons_append, ins]
    rw [if_neg (by rw [h1 a List.mem_cons_self]; decide), ins_split (fun x hx => h1 x (List.mem_cons_of_mem _ hx)) h2]
theorem ins_len {v : α} : ∀ {l : List α}, (ins lt v l).length = l.length + 1
  | [] => rfl
  | u :: l => by
    simp only [ins]
    split
    · simp
    · simp [ins_len (l := l)]
theorem ins_mem {v x : α} : ∀ {l : List α}, x ∈ ins lt v l ↔ x = v ∨ x ∈ l
  | [] => by simp [ins]
  | u :: l => by
    simp only [ins]
    split
    · simp
    · simp only [List.mem_cons, ins_mem (l := l)]
      constructor
      · rintro (h | h | h)
        · exact .inr (.inl h)
        · exact .inl h
        · exact .inr (.inr h)
      · rintro (h | h | h)
        · exact .inr (.inl h)
        · exact .inl h
        · exact .inr (.inr h)
theorem srt_ins (h : SW lt) {v : α} : ∀ {l : List α}, SrtL lt l → SrtL lt (ins lt v l)
  | [], _ => by simp [ins, SrtL]
  | u :: l, hs => by
    unfold SrtL at hs
    rw [List.pairwise_cons] at hs
    simp only [ins]
    split
    · rename_i q
      unfold SrtL
      rw [List.pairwise_cons, List.pairwise_cons]
      refine ⟨fun x hx => ?_, hs⟩
      rcases List.mem_cons.1 hx with rfl | hx
      · exact h.asym q
      · exact h.nt (h.asym q) (hs.1 x hx)
    · rename_i q
      have q' : lt v u = false := by simpa using q
      unfold SrtL
      rw [List.pairwise_cons]
      refine ⟨fun x hx => ?_, srt_ins h hs.2⟩
      rcases ins_mem.1 hx with rfl | hx
      · exact q'
      · exact hs.1 x hx
theorem isort_snoc (l : List α) (v : α) : isort lt (l ++ [v]) = ins lt v (isort lt l) := by
  unfold isort
  rw [List.foldl_append]; rfl
theorem snoc_ind {P : List α → Prop} (h0 : P []) (h1 : ∀ l v, P l → P (l ++ [v])) : ∀ l, P l := by
  have key : ∀ l : List α, P l.reverse := by
    intro l
    induction l with
    | nil => exact h0
    | cons x l ih => rw [List.reverse_cons]; exact h1 _ _ ih
  intro l
  have := key l.reverse
  rwa [List.reverse_reverse] at this
theorem isort_len (l : List α) : (isort lt l).length = l.length := snoc_ind (P := fun l => (isort lt l).length = l.length) rfl (fun l v ih => by rw [isort_snoc, ins_len, ih, List.length_append]; rfl) l
theorem srt_isort (h : SW lt) (l : List α) : SrtL lt (isort lt l) := snoc_ind (P := fun l => SrtL lt (isort lt l)) (by simp [isort, SrtL]) (fun l v ih => by rw [isort_snoc]; exact srt_ins h ih) l
theorem isort_mem {x : α} (l : List α) : x ∈ isort lt l ↔ x ∈ l := snoc_ind (P := fun l => x ∈ isort lt l ↔ x ∈ l) (by simp [isort]) (fun l v ih => by
  rw [isort_snoc, ins_mem, ih, List.mem_append, List.mem_singleton]
  exact Or.comm) l
theorem mrg_nil (U : List α) : mrg lt U [] = U := by cases U <;> simp [mrg]
theorem nil_mrg (V : List α) : mrg lt [] V = V := by simp [mrg]
theorem mrg_ins (h : SW lt) {v : α} : ∀ (A B : List α), mrg lt A (ins lt v B) = ins lt v (mrg lt A B)
  | [], B => by simp [mrg]
  | a :: A, [] => by
    have ih := mrg_ins h (v := v) A []
    rw [mrg_nil] at ih ⊢
    simp only [ins]
    rw [mrg]
    split
    · simp [mrg_nil]
    · rw [show [v] = ins lt v [] from rfl, ih]
  | a :: A, b :: B => by
    have i1 := mrg_ins h (v := v) A (b :: B)
    have i2 := mrg_ins h (v := v) (a :: A) B
    simp only [ins] at i1 ⊢
    rw [mrg.eq_3 lt a A b B]
    by_cases q : lt v b = true
    · rw [if_pos q] at i1 ⊢
      rw [mrg]
      by_cases r : lt b a = true
      · rw [if_pos r, if_pos (h.trans q r)]
        simp only [ins]
        rw [if_pos q, mrg, if_pos r]
      · rw [if_neg r]
        simp only [ins]
        by_cases s : lt v a = true
        · rw [if_pos s, if_pos s, mrg, if_neg r]
        · rw [if_neg s, if_neg s, i1]
    · rw [if_neg q] at i1 ⊢
      rw [mrg]
      by_cases r : lt b a = true
      · rw [if_pos r, if_pos r, i2]
        simp only [ins]
        rw [if_neg q]
      · rw [if_neg r, if_neg r, i1]
        simp only [ins]
        have : lt v a = false := h.nt (by simpa using r) (by simpa using q)
        rw [if_neg (by rw [this]; decide)]
termination_by A B => A.length + B.length
theorem mrg_isort (h : SW lt) (A B : List α) : mrg lt (isort lt A) (isort lt B) = isort lt (A ++ B) :=
  snoc_ind (P := fun B => mrg lt (isort lt A) (isort lt B) = isort lt (A ++ B)) (by rw [show isort lt ([] : List α) = [] from rfl, mrg_nil, List.append_nil]) (fun l v ih => by
    rw [isort_snoc, mrg_ins h, ih, ← isort_snoc, List.append_assoc]) B
theorem mrg_split : ∀ (U1 V1 : List α) {U2 V2 : List α}, (∀ u ∈ U1, ∀ v ∈ V2, lt v u = false) → (∀ v ∈ V1, ∀ u ∈ U2, lt v u = true) → mrg lt (U1 ++ U2) (V1 ++ V2) = mrg lt U1 V1 ++ mrg lt U2 V2
  | [], [], U2, V2, _, _ => by simp [mrg]
  | [], v :: V1, U2, V2, h1, h2 => by
    have ih := mrg_split [] V1 (U2 := U2) (V2 := V2) (fun u hu => by cases hu) (fun x hx => h2 x (List.mem_cons_of_mem _ hx))
    rw [nil_mrg, List.nil_append] at ih ⊢
    cases U2 with
    | nil => simp [mrg]
    | cons u U2 =>
      rw [List.cons_append, mrg, if_pos (h2 v List.mem_cons_self u List.mem_cons_self), ih, List.cons_append]
  | u :: U1, [], U2, V2, h1, h2 => by
    have ih := mrg_split U1 [] (U2 := U2) (V2 := V2) (fun x hx => h1 x (List.mem_cons_of_mem _ hx)) (fun x hx => by cases hx)
    rw [mrg_nil, List.nil_append] at ih ⊢
    cases V2 with
    | nil => simp [mrg_nil]
    | cons v V2 =>
      rw [List.cons_append, mrg, if_neg (by rw [h1 u List.mem_cons_self v List.mem_cons_self]; decide), ih, List.cons_append]
  | u :: U1, v :: V1, U2, V2, h1, h2 => by
    have i1 := mrg_split U1 (v :: V1) (U2 := U2) (V2 := V2) (fun x hx => h1 x (List.mem_cons_of_mem _ hx)) h2
    have i2 := mrg_split (u :: U1) V1 (U2 := U2) (V2 := V2) h1 (fun x hx => h2 x (List.mem_cons_of_mem _ hx))
    simp only [List.cons_append] at i1 i2 ⊢
    rw [mrg, mrg]
    split
    · rw [i2, List.cons_append]
    · rw [i1, List.cons_append]
termination_by U1 V1 => U1.length + V1.length
theorem mrg_len : ∀ (U V : List α), (mrg lt U V).length = U.length + V.length
  | [], V => by simp [mrg]
  | u :: U, [] => by simp [mrg]
  | u :: U, v :: V => by
    rw [mrg]
    split
    · simp [mrg_len (u :: U) V]; omega
    · simp [mrg_len U (v :: V)]; omega
termination_by U V => U.length + V.length
theorem mrg_one {v : α} {U1 U2 : List α} (h1 : ∀ u ∈ U1, lt v u = false) (h2 : ∀ u ∈ U2, lt v u = true) : mrg lt (U1 ++ U2) [v] = U1 ++ v :: U2 := by
  have := mrg_split (lt := lt) U1 [] (U2 := U2) (V2 := [v]) (fun u hu x hx => by rw [List.mem_singleton] at hx; subst hx; exact h1 u hu) (fun x hx => by cases hx)
  rw [mrg_nil, List.nil_append] at this
  rw [this]
  congr 1
  cases U2 with
  | nil => simp [mrg]
  | cons u U2 => rw [mrg, if_pos (h2 u List.mem_cons_self), mrg_nil]
theorem one_mrg {u : α} {V1 V2 : List α} (h1 : ∀ v ∈ V1, lt v u = true) (h2 : ∀ v ∈ V2, lt v u = false) : mrg lt [u] (V1 ++ V2) = V1 ++ u :: V2 := by
  have := mrg_split (lt := lt) [] V1 (U2 := [u]) (V2 := V2) (fun x hx => by cases hx) (fun v hv x hx => by rw [List.mem_singleton] at hx; subst hx; exact h1 v hv)
  rw [nil_mrg, List.nil_append] at this
  rw [this]
  congr 1
  cases V2 with
  | nil => simp [mrg]
  | cons v V2 => rw [mrg, if_neg (by rw [h2 v List.mem_cons_self]; decide), nil_mrg]
def chS (lt : α → α → Bool) (n : Nat) (l : List α) : List α := if h : l.length ≤ n ∨ n = 0 then isort lt l else isort lt (l.take n) ++ chS lt n (l.drop n)
termination_by l.length
decreasing_by rw [List.length_drop]; omega
theorem chS_one {n : Nat} {l : List α} (h : l.length ≤ n) : chS lt n l = isort lt l := by rw [chS, dif_pos (.inl h)]
theorem chS_eq {n : Nat} (hn : 0 < n) (l : List α) : chS lt n l = isort lt (l.take n) ++ chS lt n (l.drop n) := by
  by_cases h : l.length ≤ n
  · rw [chS_one h, List.take_of_length_le h, List.drop_of_length_le h, chS_one (by simp)]
    rw [show isort lt ([] : List α) = [] from rfl, List.append_nil]
  · rw [chS, dif_neg (by omega)]
theorem chS_len {n : Nat} (hn : 0 < n) : ∀ (k : Nat) (l : List α), l.length ≤ k → (chS lt n l).length = l.length
  | 0, l, h => by rw [chS_one (by omega), isort_len]
  | k + 1, l, h => by
    by_cases q : l.length ≤ n
    · rw [chS_one q, isort_len]
    · rw [chS_eq hn, List.length_append, isort_len, chS_len hn k _ (by rw [List.length_drop]; omega), List.length_take, List.length_drop]; omega
end
end Go.Proofs.Ytoiohkjomcbadaa

