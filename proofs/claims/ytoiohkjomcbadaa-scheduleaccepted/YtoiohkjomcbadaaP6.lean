/- ScheduleAccepted: for every input the law returns true; each argument reads behind the call as it read before. -/
import Derived.Test.YtoiohkjomcbadaaP5
import Derived.Test.YtoiohkjomcbadaaRows
import Derived.ShutString
namespace Go.Proofs.Ytoiohkjomcbadaa
open Go Sy
set_option maxRecDepth 100000
set_option maxHeartbeats 4000000
set_option linter.unusedVariables false
set_option linter.unusedSimpArgs false
theorem fn63 (n : Nat) (e : Af) (r : Rs) (S : List Int) (he : LkOk n e) (hS : ∀ k, k < S.length → -1 ≤ gi S k ∧ gi S k ≤ 1099511627776) (hb : r.by' < (S.length : Int)) (hsn : S.length = n) : Sy.Fn Try.prog 63 [.agg (cA e), .fp (cR r) 0, .fp [aI S] 0] (bv ((e.a == r.by' && e.b == r.k) && (max 0 (gi S r.by'.toNat + e.g) == r.fr))) := by
  refine Fn_of_W mixed Xt63 rfl ?_
  obtain ⟨a1, a2, a3, a4, a5, a6⟩ := he
  have hS := hS r.by'.toNat
  have hgs : S.getD r.by'.toNat 0 = gi S r.by'.toNat := rfl
  generalize gi S r.by'.toNat = m at *
  repeat' (first | refine w1g ?_ | refine w1l ?_ | refine w1q ?_ | refine w1b ?_ | refine w1p ?_ | ((first | refine w1r ?_ | refine w1k ?_ | refine w1e ?_); simp (maxSteps := 400000) (disch := omega) only [push_cast, ↓reduceIte, reduceCtorEq, Nat.reduceAdd, Nat.reduceSub, Nat.reduceEqDiff, Nat.reduceLeDiff, Nat.reduceLT, Nat.reduceBEq, Nat.reduceDiv, Nat.reduceMod, Nat.reducePow, Nat.reduceMul, Int.reduceToNat, Int.reduceLT, Int.reduceLE, hgs]) | refine an2 ?_ | fail)
  exact W_ret ⟨[_], ⟨rfl, rfl⟩, rfl⟩
theorem mxS_out {pre : List Rs} {n : Nat} {t : Int} (h : ∀ r ∈ pre, 0 ≤ r.k ∧ r.k < (n : Int)) (ht : t < 0 ∨ (n : Int) ≤ t) : mxS pre t = -1 := by
  have key : ∀ (l : List Rs) (m : Int), (∀ r ∈ l, 0 ≤ r.k ∧ r.k < (n : Int)) → l.foldl (fun m r => if r.k = t then max m r.st else m) m = m := by
    intro l
    induction l with
    | nil => intro m _; rfl
    | cons r l ih =>
      intro m hs
      have := hs r List.mem_cons_self
      rw [List.foldl_cons, if_neg (by omega)]
      exact ih _ fun x hx => hs x (List.mem_cons_of_mem _ hx)
  exact key pre (-1) h
def f3 (i : Nat) : Nat → Int := fun k => if k < i then -1 else 0
theorem f3_zero : (fun _ => 0) = f3 0 := by funext k; unfold f3; rw [if_neg (by omega)]
theorem f3_step (i : Nat) : putF (f3 i) i (-1) = f3 (i + 1) := by
  funext k
  unfold putF f3
  by_cases q : k = i
  · rw [if_pos q, if_pos (by omega)]
  · rw [if_neg q]
    by_cases q2 : k < i
    · rw [if_pos q2, if_pos (by omega)]
    · rw [if_neg q2, if_neg (by omega)]
theorem fn24 (j : Jb) (o : List (List Int)) (lg : List Rs) (h : Gj j) (ho : Go' o) (hl : lg.length ≤ 1000000) : Sy.Fn Try.prog 24 [aJ j, aO o, aR lg] (iv (cwE j o lg)) := by
  refine Fn_of_W mixed Xt24 rfl ?_
  have c40 := fn40 j o h ho
  by_cases h0 : chkO j o = 0
  rotate_left
  · have e1 : cwE j o lg = chkO j o := by unfold cwE; rw [if_neg h0]
    rw [e1]
    generalize chkO j o = E at *
    repeat' (first | refine w1g ?_ | refine w1l ?_ | refine w1q ?_ | refine w1b ?_ | refine w1p ?_ | ((first | refine w1r ?_ | refine w1k ?_ | refine w1e ?_ | refine CallC.now (c40) ?_); (refine sy1 ?_; try exact True.intro)) | refine an2 ?_ | fail)
    refine W_cond (by rfl) (fun _ => ?_) (fun h => absurd (by simpa using h) h0)
    repeat' (first | refine w1g ?_ | refine w1l ?_ | refine w1q ?_ | refine w1b ?_ | refine w1p ?_ | ((first | refine w1r ?_ | refine w1k ?_ | refine w1e ?_); (refine sy1 ?_; try exact True.intro)) | refine an2 ?_ | fail)
    exact W_ret ⟨[_], ⟨rfl, rfl⟩, rfl⟩
  have hok := (chkO_ok h0).1
  have c52 := fn52 j o hok
  have eE : cwE j o lg = if 20000 < lg.length then 6 else if lg.length = 0 then 16 else if cwB j (lks j o) lg = true then 0 else 16 := by unfold cwE; rw [if_pos h0]
  rw [h0] at c40
  rw [eE]
  have hyes := cwB_yes (j := j) (L := lks j o) (lg := lg)
  have hno := fun i => cwB_no (j := j) (L := lks j o) (lg := lg) (i := i)
  have hpr := fun i hi hp => pre_rng (L := lks j o) hok.toOkJ (lg := lg) (i := i) hi hp
  have hL := lks_lk' hok
  have hll := lks_len hok
  have hn := hok.n
  generalize cwB j (lks j o) lg = B at *
  generalize lks j o = L at *
  repeat' (first | refine w1g ?_ | refine w1l ?_ | refine w1q ?_ | refine w1b ?_ | refine w1p ?_ | ((first | refine w1r ?_ | refine w1k ?_ | refine w1e ?_ | refine CallC.now (c40) ?_); (refine sy1 ?_; try exact True.intro)) | refine an2 ?_ | fail)
  refine W_cond (by rfl) (fun h => by cases h) (fun _ => ?_)
  repeat' (first | refine w1g ?_ | refine w1l ?_ | refine w1q ?_ | refine w1b ?_ | refine w1p ?_ | ((first | refine w1r ?_ | refine w1k ?_ | refine w1e ?_); (refine sy1 ?_; try exact True.intro)) | refine an2 ?_ | fail)
  refine W_condD (by rfl) (fun h1 => ?_) (fun h1 => ?_)
  · rw [if_pos (by omega)]
    repeat' (first | refine w1g ?_ | refine w1l ?_ | refine w1q ?_ | refine w1b ?_ | refine w1p ?_ | ((first | refine w1r ?_ | refine w1k ?_ | refine w1e ?_); (refine sy1 ?_; try exact True.intro)) | refine an2 ?_ | fail)
    exact W_ret ⟨[_], ⟨rfl, rfl⟩, rfl⟩
  rw [if_neg (by omega)]
  repeat' (first | refine w1g ?_ | refine w1l ?_ | refine w1q ?_ | refine w1b ?_ | refine w1p ?_ | ((first | refine w1r ?_ | refine w1k ?_ | refine w1e ?_); (refine sy1 ?_; try exact True.intro)) | refine an2 ?_ | fail)
  by_cases h2 : lg.length = 0
  · rw [if_pos h2]
    rw [show ((lg.length : Int) == 0) = true by rw [h2]; rfl]
    refine W_cond (by rfl) (fun _ => ?_) (fun h => by cases h)
    repeat' (first | refine w1g ?_ | refine w1l ?_ | refine w1q ?_ | refine w1b ?_ | refine w1p ?_ | ((first | refine w1r ?_ | refine w1k ?_ | refine w1e ?_); (refine sy1 ?_; try exact True.intro)) | refine an2 ?_ | fail)
    exact W_ret ⟨[_], ⟨rfl, rfl⟩, rfl⟩
  rw [if_neg h2]
  rw [show ((lg.length : Int) == 0) = false from beq_eq_false_iff_ne.2 (by omega)]
  refine W_cond (by rfl) (fun h => by cases h) (fun _ => ?_)
  repeat' (first | refine w1g ?_ | refine w1l ?_ | refine w1q ?_ | refine w1b ?_ | refine w1p ?_ | ((first | refine w1r ?_ | refine w1k ?_ | refine w1e ?_ | refine CallC.now (c52) ?_); (refine sy1 ?_; try exact True.intro)) | refine an2 ?_ | fail)
  refine ⟨rfl, ⟨by omega, by omega, by omega⟩, Int, 0, cI, 0, rfl, rfl, by omega, rfl, ?_⟩
  simp (maxSteps := 400000) (disch := omega) only [push_cast, ↓reduceIte, reduceCtorEq, Nat.reduceAdd, Nat.reduceSub, Nat.reduceEqDiff, Nat.reduceLeDiff, Nat.reduceLT, Nat.reduceBEq, Nat.reduceDiv, Nat.reduceMod, Nat.reducePow, Nat.reduceMul, Int.reduceToNat, Int.reduceLT, Int.reduceLE, Int.toNat_natCast]
  rw [lsF_rep, f3_zero]
  have hl0 := lsF_len j.ts.length (f3 0)
  repeat' (first | refine w1g ?_ | refine w1l ?_ | refine w1q ?_ | refine w1b ?_ | refine w1p ?_ | ((first | refine w1r ?_ | refine w1k ?_ | refine w1e ?_); simp (maxSteps := 400000) (disch := omega) only [push_cast, ↓reduceIte, reduceCtorEq, Nat.reduceAdd, Nat.reduceSub, Nat.reduceEqDiff, Nat.reduceLeDiff, Nat.reduceLT, Nat.reduceBEq, Nat.reduceDiv, Nat.reduceMod, Nat.reducePow, Nat.reduceMul, Int.reduceToNat, Int.reduceLT, Int.reduceLE, hl0]) | refine an2 ?_ | fail)
  refine W_loopU (fun i : Nat => [(37, iv i)]) (fun i => [(21, .row 0 2 1 0 cI (lsF j.ts.length (f3 i)))]) (fun i => i ≤ j.ts.length) (fun i => j.ts.length - i) 0 (by omega) (by rfl) (by rfl) (fun i hi => ?_)
  have hli := lsF_len j.ts.length (f3 i)
  (refine sy1 ?_; try exact True.intro)
  repeat' (first | refine w1g ?_ | refine w1l ?_ | refine w1q ?_ | refine w1b ?_ | refine w1p ?_ | ((first | refine w1r ?_ | refine w1k ?_ | refine w1e ?_); (refine sy1 ?_; try exact True.intro)) | refine an2 ?_ | fail)
  refine W_condD (by rfl) (fun h5 => ?_) (fun h5 => ?_)
  · have hset : (lsF j.ts.length (f3 i)).set i (-1) = lsF j.ts.length (f3 (i + 1)) := by rw [lsF_set (by omega), f3_step]
    repeat' (first | refine w1g ?_ | refine w1l ?_ | refine w1q ?_ | refine w1b ?_ | refine w1p ?_ | ((first | refine w1r ?_ | refine w1k ?_ | refine w1e ?_); simp (maxSteps := 400000) (disch := omega) only [push_cast, ↓reduceIte, reduceCtorEq, Nat.reduceAdd, Nat.reduceSub, Nat.reduceEqDiff, Nat.reduceLeDiff, Nat.reduceLT, Nat.reduceBEq, Nat.reduceDiv, Nat.reduceMod, Nat.reducePow, Nat.reduceMul, Int.reduceToNat, Int.reduceLT, Int.reduceLE, hli]) | refine an2 ?_ | fail)
    refine ⟨rfl, ⟨Nat.le_of_ble_eq_true rfl, rfl⟩, by omega, -1, rfl, rfl, ?_⟩
    rw [hset]
    (refine sy1 ?_; try exact True.intro)
    repeat' (first | refine w1g ?_ | refine w1l ?_ | refine w1q ?_ | refine w1b ?_ | refine w1p ?_ | ((first | refine w1r ?_ | refine w1k ?_ | refine w1e ?_); (refine sy1 ?_; try exact True.intro)) | refine an2 ?_ | fail)
    refine ⟨i + 1, by omega, by omega, by rfl, ?_⟩
    (refine syE ?_; try exact True.intro)
  obtain rfl : i = j.ts.length := by omega
  have hs0 : lsF j.ts.length (f3 j.ts.length) = lsF j.ts.length (fun t => mxS (lg.take 0) (t : Nat)) := lsF_congr fun k hk => by
    unfold f3; rw [if_pos hk]; rfl
  rw [hs0]
  clear hl0 hli hs0
  repeat' (first | refine w1g ?_ | refine w1l ?_ | refine w1q ?_ | refine w1b ?_ | refine w1p ?_ | ((first | refine w1r ?_ | refine w1k ?_ | refine w1e ?_); (refine sy1 ?_; try exact True.intro)) | refine an2 ?_ | fail)
  refine W_loopU (fun i : Nat => [(46, iv i)]) (fun i => [(21, .row 0 2 1 0 cI (lsF j.ts.length (fun t => mxS (lg.take i) (t : Nat))))]) (fun i => i ≤ lg.length ∧ ∀ k, k < i → (rsB j L (lg.take k) (lg.getD k dRs) && rsE lg.length k (lg.getD k dRs)) = true) (fun i => lg.length - i) 0 ⟨by omega, fun k hk => by omega⟩ (by rfl) (by rfl) (fun i hi => ?_)
  obtain ⟨hi, hp⟩ := hi
  have hli := lsF_len j.ts.length (fun t => mxS (lg.take i) (t : Nat))
  (refine sy1 ?_; try exact True.intro)
  repeat' (first | refine w1g ?_ | refine w1l ?_ | refine w1q ?_ | refine w1b ?_ | refine w1p ?_ | ((first | refine w1r ?_ | refine w1k ?_ | refine w1e ?_); (refine sy1 ?_; try exact True.intro)) | refine an2 ?_ | fail)
  refine W_condD (by rfl) (fun h6 => ?_) (fun h6 => ?_)
  rotate_left
  · obtain rfl : i = lg.length := by omega
    rw [hyes hp, if_pos rfl]
    repeat' (first | refine w1g ?_ | refine w1l ?_ | refine w1q ?_ | refine w1b ?_ | refine w1p ?_ | ((first | refine w1r ?_ | refine w1k ?_ | refine w1e ?_); (refine sy1 ?_; try exact True.intro)) | refine an2 ?_ | fail)
    exact W_ret ⟨[_], ⟨rfl, rfl⟩, rfl⟩
  have hil : i < lg.length := by omega
  have hno := hno i hil
  have hup := @up_all _ i hp
  have hpre := hpr i hi hp
  have htl : (lg.take i).length = i := by rw [List.length_take]; omega
  have hts : lg.take (i + 1) = lg.take i ++ [lg.getD i dRs] := take_snoc dRs lg i hil
  obtain ⟨r, hr⟩ : ∃ r, lg.getD i dRs = r := ⟨_, rfl⟩
  rw [hr] at hno hup hts
  have hrE : rsE lg.length i r = !(decide (r.st < 0) && decide (i + 1 < lg.length)) := rfl
  have hrB : rsB j L (lg.take i) r = ((decide (0 ≤ r.k) && decide (r.k < j.ts.length)) && (decide (0 ≤ r.fr) && (r.st == setN j r.k.toNat r.fr)) && (if r.by' = -1 then r.fr == 0 else decide (0 ≤ mxS (lg.take i) r.by') && lkB L (mxS (lg.take i) r.by') r)) := rfl
  have hmr := mxS_rng (fun r hr => (hpre r hr).1)
  have hmo := mxS_out (fun r hr => (hpre r hr).2) (t := r.by')
  have hsnoc := fun t => mxS_snoc (lg.take i) r t
  rw [← hts] at hsnoc
  generalize hPM : mxS (lg.take i) = PM at *
  generalize hPN : mxS (lg.take (i + 1)) = PN at *
  generalize rsB j L (lg.take i) r = Q at *
  rw [hrE] at hno hup
  repeat' (first | refine w1g ?_ | refine w1l ?_ | refine w1q ?_ | refine w1b ?_ | refine w1p ?_ | ((first | refine w1r ?_ | refine w1k ?_ | refine w1e ?_); simp (maxSteps := 400000) (disch := omega) only [push_cast, ↓reduceIte, reduceCtorEq, Nat.reduceAdd, Nat.reduceSub, Nat.reduceEqDiff, Nat.reduceLeDiff, Nat.reduceLT, Nat.reduceBEq, Nat.reduceDiv, Nat.reduceMod, Nat.reducePow, Nat.reduceMul, Int.reduceToNat, Int.reduceLT, Int.reduceLE, hr]) | refine an2 ?_ | fail)
  refine W_cond (by rfl) (fun hb => ?_) (fun hb => ?_)
  · simp only [Bool.or_eq_true, decide_eq_true_eq] at hb
    have : Q = false := by
      rw [hrB]
      by_cases hk : 0 ≤ r.k ∧ r.k < (j.ts.length : Int)
      · have hby : r.by' ≠ -1 := by omega
        rw [if_neg hby, hmo (by omega), decide_eq_false (show ¬ (0 : Int) ≤ -1 by decide)]
        simp
      · have : (decide (0 ≤ r.k) && decide (r.k < (j.ts.length : Int))) = false := by
          simp only [Bool.and_eq_false_iff, decide_eq_false_iff_not]; omega
        rw [this]; simp
    rw [hno (by rw [this]; rfl), if_neg (by decide)]
    repeat' (first | refine w1g ?_ | refine w1l ?_ | refine w1q ?_ | refine w1b ?_ | refine w1p ?_ | ((first | refine w1r ?_ | refine w1k ?_ | refine w1e ?_); (refine sy1 ?_; try exact True.intro)) | refine an2 ?_ | fail)
    exact W_ret ⟨[_], ⟨rfl, rfl⟩, rfl⟩
  simp only [Bool.or_eq_false_iff, decide_eq_false_iff_not] at hb
  have hk0 : 0 ≤ r.k := by omega
  have hkn : r.k < (j.ts.length : Int) := by omega
  rw [decide_eq_true hk0, decide_eq_true hkn, Bool.true_and, Bool.true_and] at hrB
  have hgm : 0 ≤ r.by' → (lsF j.ts.length (fun t => PM (t : Nat))).getD r.by'.toNat 0 = PM r.by' := fun q => by
    rw [show (lsF j.ts.length (fun t => PM (t : Nat))).getD r.by'.toNat 0 = PM (r.by'.toNat : Nat) from lsF_get (by omega), show ((r.by'.toNat : Nat) : Int) = r.by' by omega]
  have hgk : (lsF j.ts.length (fun t => PM (t : Nat))).getD r.k.toNat 0 = PM r.k := by
    rw [show (lsF j.ts.length (fun t => PM (t : Nat))).getD r.k.toNat 0 = PM (r.k.toNat : Nat) from lsF_get (by omega), show ((r.k.toNat : Nat) : Int) = r.k by omega]
  repeat' (first | refine w1g ?_ | refine w1l ?_ | refine w1q ?_ | refine w1b ?_ | refine w1p ?_ | ((first | refine w1r ?_ | refine w1k ?_ | refine w1e ?_); simp (maxSteps := 400000) (disch := omega) only [push_cast, ↓reduceIte, reduceCtorEq, Nat.reduceAdd, Nat.reduceSub, Nat.reduceEqDiff, Nat.reduceLeDiff, Nat.reduceLT, Nat.reduceBEq, Nat.reduceDiv, Nat.reduceMod, Nat.reducePow, Nat.reduceMul, Int.reduceToNat, Int.reduceLT, Int.reduceLE, hr]) | refine an2 ?_ | fail)
  have hkt : r.k.toNat < j.ts.length := by omega
  have hsn : setN j r.k.toNat r.fr = fstW (gt j.ts r.k.toNat).mi r.fr (gt j.ts r.k.toNat).ws := rfl
  have hk := (hok.t _ hkt).1
  have hw := hok.w _ hkt
  have hgt : ∀ k, j.ts.getD k dTk = gt j.ts k := fun _ => rfl
  by_cases hby : r.by' = -1
  · rw [if_pos hby] at hrB
    by_cases hfr : r.fr = 0
    rotate_left
    · rw [show (r.by' == -1 && r.fr != 0 || decide (0 ≤ r.by') && decide ((lsF j.ts.length fun t => PM (t : Nat)).getD r.by'.toNat 0 < 0)) = true by rw [show (r.by' == -1) = true from beq_iff_eq.2 hby, show (r.fr != 0) = true from bne_iff_ne.2 hfr]; rfl]
      rw [hno (by rw [hrB, show (r.fr == 0) = false from beq_eq_false_iff_ne.2 hfr]; simp), if_neg (by decide)]
      refine W_cond (by rfl) (fun _ => ?_) (fun h => by cases h)
      repeat' (first | refine w1g ?_ | refine w1l ?_ | refine w1q ?_ | refine w1b ?_ | refine w1p ?_ | ((first | refine w1r ?_ | refine w1k ?_ | refine w1e ?_); (refine sy1 ?_; try exact True.intro)) | refine an2 ?_ | fail)
      exact W_ret ⟨[_], ⟨rfl, rfl⟩, rfl⟩
    rw [show (r.by' == -1 && r.fr != 0 || decide (0 ≤ r.by') && decide ((lsF j.ts.length fun t => PM (t : Nat)).getD r.by'.toNat 0 < 0)) = false by rw [show (r.fr != 0) = false by rw [hfr]; rfl, decide_eq_false (show ¬ 0 ≤ r.by' by omega)]; simp]
    refine W_cond (by rfl) (fun h => by cases h) (fun _ => ?_)
    have hd0 : decide (0 ≤ r.by') = false := decide_eq_false (by omega)
    repeat' (first | refine w1g ?_ | refine w1l ?_ | refine w1q ?_ | refine w1b ?_ | refine w1p ?_ | ((first | refine w1r ?_ | refine w1k ?_ | refine w1e ?_); simp (maxSteps := 400000) (disch := omega) only [push_cast, ↓reduceIte, reduceCtorEq, Nat.reduceAdd, Nat.reduceSub, Nat.reduceEqDiff, Nat.reduceLeDiff, Nat.reduceLT, Nat.reduceBEq, Nat.reduceDiv, Nat.reduceMod, Nat.reducePow, Nat.reduceMul, Int.reduceToNat, Int.reduceLT, Int.reduceLE, hd0]) | refine an2 ?_ | (refine CallC.go (bv true) (fun hp => absurd hp (by simp [pc])) rfl ?_; simp (maxSteps := 400000) (disch := omega) only [push_cast, ↓reduceIte, reduceCtorEq, Nat.reduceAdd, Nat.reduceSub, Nat.reduceEqDiff, Nat.reduceLeDiff, Nat.reduceLT, Nat.reduceBEq, Nat.reduceDiv, Nat.reduceMod, Nat.reducePow, Nat.reduceMul, Int.reduceToNat, Int.reduceLT, Int.reduceLE, hd0]) | fail)
    refine W_cond (by rfl) (fun h => by cases h) (fun _ => ?_)
    have hQ : Q = (r.st == setN j r.k.toNat r.fr) := by rw [hrB, hfr]; simp
    clear hrB hd0
    have c64 := fn64 (gt j.ts r.k.toNat).ws (gt j.ts r.k.toNat).mi r.fr (by omega) hk.2.2 ⟨hk.1, hk.2.1⟩ (by omega)
    have hVr := setN_rng hok.toOkJ hkt r.fr
    have hVV : fstV (gt j.ts r.k.toNat).mi r.fr (gt j.ts r.k.toNat).ws = if 0 ≤ setN j r.k.toNat r.fr then setN j r.k.toNat r.fr else 0 := rfl
    rw [hVV, ← hsn] at c64
    generalize setN j r.k.toNat r.fr = V at *
    obtain ⟨T, hT⟩ : ∃ T, gt j.ts r.k.toNat = T := ⟨_, rfl⟩
    have hgt : j.ts.getD r.k.toNat dTk = T := hT
    rw [hT] at c64
    by_cases hV : 0 ≤ V
    · rw [if_pos hV, decide_eq_true hV] at c64
      repeat' (first | refine w1g ?_ | refine w1l ?_ | refine w1q ?_ | refine w1b ?_ | refine w1p ?_ | ((first | refine w1r ?_ | refine w1k ?_ | refine w1e ?_ | refine CallC.now (c64) ?_); simp (maxSteps := 400000) (disch := omega) only [push_cast, ↓reduceIte, reduceCtorEq, Nat.reduceAdd, Nat.reduceSub, Nat.reduceEqDiff, Nat.reduceLeDiff, Nat.reduceLT, Nat.reduceBEq, Nat.reduceDiv, Nat.reduceMod, Nat.reducePow, Nat.reduceMul, Int.reduceToNat, Int.reduceLT, Int.reduceLE, hgt]) | refine an2 ?_ | fail)
      refine W_cond (by rfl) (fun h => by cases h) (fun _ => ?_)
      repeat' (first | refine w1g ?_ | refine w1l ?_ | refine w1q ?_ | refine w1b ?_ | refine w1p ?_ | ((first | refine w1r ?_ | refine w1k ?_ | refine w1e ?_); (refine sy1 ?_; try exact True.intro)) | refine an2 ?_ | fail)
      by_cases hst : r.st = V
      rotate_left
      · rw [show (V != r.st) = true from bne_iff_ne.2 fun q => hst q.symm]
        rw [hno (by rw [hQ, show (r.st == V) = false from beq_eq_false_iff_ne.2 hst]; rfl), if_neg (by decide)]
        refine W_cond (by rfl) (fun _ => ?_) (fun h => by cases h)
        repeat' (first | refine w1g ?_ | refine w1l ?_ | refine w1q ?_ | refine w1b ?_ | refine w1p ?_ | ((first | refine w1r ?_ | refine w1k ?_ | refine w1e ?_); (refine sy1 ?_; try exact True.intro)) | refine an2 ?_ | fail)
        exact W_ret ⟨[_], ⟨rfl, rfl⟩, rfl⟩
      rw [show (V != r.st) = false by rw [hst, bne_self_eq_false]]
      have hset : (lsF j.ts.length (fun t => PM (t : Nat))).set r.k.toNat (max (PM r.k) V) = lsF j.ts.length (fun t => PN (t : Nat)) := by
        rw [lsF_set hkt]
        refine lsF_congr fun t ht => ?_
        have hsn := hsnoc t
        unfold putF
        by_cases q : t = r.k.toNat
        · rw [if_pos q, hsn, if_pos (by omega), hst, show ((t : Nat) : Int) = r.k by omega]
        · rw [if_neg q, hsn, if_neg (by omega)]
      refine W_cond (by rfl) (fun h => by cases h) (fun _ => ?_)
      repeat' (first | refine w1g ?_ | refine w1l ?_ | refine w1q ?_ | refine w1b ?_ | refine w1p ?_ | ((first | refine w1r ?_ | refine w1k ?_ | refine w1e ?_); simp (maxSteps := 400000) (disch := omega) only [push_cast, ↓reduceIte, reduceCtorEq, Nat.reduceAdd, Nat.reduceSub, Nat.reduceEqDiff, Nat.reduceLeDiff, Nat.reduceLT, Nat.reduceBEq, Nat.reduceDiv, Nat.reduceMod, Nat.reducePow, Nat.reduceMul, Int.reduceToNat, Int.reduceLT, Int.reduceLE, hr, hgk]) | refine an2 ?_ | fail)
      refine ⟨rfl, ⟨Nat.le_of_ble_eq_true rfl, rfl⟩, by omega, max (PM r.k) V, rfl, rfl, ?_⟩
      rw [hset]
      (refine sy1 ?_; try exact True.intro)
      repeat' (first | refine w1g ?_ | refine w1l ?_ | refine w1q ?_ | refine w1b ?_ | refine w1p ?_ | ((first | refine w1r ?_ | refine w1k ?_ | refine w1e ?_); (refine sy1 ?_; try exact True.intro)) | refine an2 ?_ | fail)
      refine ⟨i + 1, ⟨by omega, hup (by rw [hQ]; rw [show (r.st == V) = true from beq_iff_eq.2 hst, decide_eq_false (show ¬ r.st < 0 by omega)]; rfl)⟩, by omega, by rfl, ?_⟩
      rw [hPN]
      (refine syE ?_; try exact True.intro)
    · rw [if_neg hV, decide_eq_false hV] at c64
      repeat' (first | refine w1g ?_ | refine w1l ?_ | refine w1q ?_ | refine w1b ?_ | refine w1p ?_ | ((first | refine w1r ?_ | refine w1k ?_ | refine w1e ?_ | refine CallC.now (c64) ?_); simp (maxSteps := 400000) (disch := omega) only [push_cast, ↓reduceIte, reduceCtorEq, Nat.reduceAdd, Nat.reduceSub, Nat.reduceEqDiff, Nat.reduceLeDiff, Nat.reduceLT, Nat.reduceBEq, Nat.reduceDiv, Nat.reduceMod, Nat.reducePow, Nat.reduceMul, Int.reduceToNat, Int.reduceLT, Int.reduceLE, hgt]) | refine an2 ?_ | fail)
      refine W_cond (by rfl) (fun _ => ?_) (fun h => by cases h)
      repeat' (first | refine w1g ?_ | refine w1l ?_ | refine w1q ?_ | refine w1b ?_ | refine w1p ?_ | ((first | refine w1r ?_ | refine w1k ?_ | refine w1e ?_); (refine sy1 ?_; try exact True.intro)) | refine an2 ?_ | fail)
      have hV1 : V = -1 := by omega
      by_cases hst : r.st = -1 ∧ i + 1 = lg.length
      rotate_left
      · rw [show (-1 != r.st || decide ((i : Int) < (lg.length : Int) - 1)) = true by
          rw [Bool.or_eq_true, bne_iff_ne, decide_eq_true_eq]
          by_cases q : r.st = -1
          · right; have : ¬ i + 1 = lg.length := fun z => hst ⟨q, z⟩; omega
          · left; exact fun z => q z.symm]
        rw [hno (by
          rw [hQ, hV1, Bool.and_eq_false_iff]
          by_cases q : r.st = -1
          · right
            have : ¬ i + 1 = lg.length := fun z => hst ⟨q, z⟩
            rw [decide_eq_true (show r.st < 0 by omega), decide_eq_true (show i + 1 < lg.length by omega)]; rfl
          · left; exact beq_eq_false_iff_ne.2 q), if_neg (by decide)]
        refine W_cond (by rfl) (fun _ => ?_) (fun h => by cases h)
        repeat' (first | refine w1g ?_ | refine w1l ?_ | refine w1q ?_ | refine w1b ?_ | refine w1p ?_ | ((first | refine w1r ?_ | refine w1k ?_ | refine w1e ?_); (refine sy1 ?_; try exact True.intro)) | refine an2 ?_ | fail)
        exact W_ret ⟨[_], ⟨rfl, rfl⟩, rfl⟩
      obtain ⟨hst, hil1⟩ := hst
      rw [show (-1 != r.st || decide ((i : Int) < (lg.length : Int) - 1)) = false by rw [hst, decide_eq_false (show ¬ (i : Int) < (lg.length : Int) - 1 by omega)]; rfl]
      have hset : (lsF j.ts.length (fun t => PM (t : Nat))).set r.k.toNat (max (PM r.k) (-1)) = lsF j.ts.length (fun t => PN (t : Nat)) := by
        rw [lsF_set hkt]
        refine lsF_congr fun t ht => ?_
        have hsn := hsnoc t
        unfold putF
        by_cases q : t = r.k.toNat
        · rw [if_pos q, hsn, if_pos (by omega), hst, show ((t : Nat) : Int) = r.k by omega]
        · rw [if_neg q, hsn, if_neg (by omega)]
      refine W_cond (by rfl) (fun h => by cases h) (fun _ => ?_)
      repeat' (first | refine w1g ?_ | refine w1l ?_ | refine w1q ?_ | refine w1b ?_ | refine w1p ?_ | ((first | refine w1r ?_ | refine w1k ?_ | refine w1e ?_); simp (maxSteps := 400000) (disch := omega) only [push_cast, ↓reduceIte, reduceCtorEq, Nat.reduceAdd, Nat.reduceSub, Nat.reduceEqDiff, Nat.reduceLeDiff, Nat.reduceLT, Nat.reduceBEq, Nat.reduceDiv, Nat.reduceMod, Nat.reducePow, Nat.reduceMul, Int.reduceToNat, Int.reduceLT, Int.reduceLE, hr, hgk]) | refine an2 ?_ | fail)
      refine ⟨rfl, ⟨Nat.le_of_ble_eq_true rfl, rfl⟩, by omega, max (PM r.k) (-1), rfl, rfl, ?_⟩
      rw [hset]
      (refine sy1 ?_; try exact True.intro)
      repeat' (first | refine w1g ?_ | refine w1l ?_ | refine w1q ?_ | refine w1b ?_ | refine w1p ?_ | ((first | refine w1r ?_ | refine w1k ?_ | refine w1e ?_); (refine sy1 ?_; try exact True.intro)) | refine an2 ?_ | fail)
      refine ⟨i + 1, ⟨by omega, hup (by rw [hQ]; rw [hV1, hst, decide_eq_false (show ¬ i + 1 < lg.length by omega)]; rfl)⟩, by omega, by rfl, ?_⟩
      rw [hPN]
      (refine syE ?_; try exact True.intro)
  · rw [if_neg hby] at hrB
    have hb0 : 0 ≤ r.by' := by omega
    have hmr := hmr r.by'
    rw [show (r.by' == -1 && r.fr != 0 || decide (0 ≤ r.by') && decide ((lsF j.ts.length fun t => PM (t : Nat)).getD r.by'.toNat 0 < 0)) = decide (PM r.by' < 0) by rw [hgm hb0, show (r.by' == -1) = false from beq_eq_false_iff_ne.2 hby, decide_eq_true hb0]; simp]
    by_cases hm0 : 0 ≤ PM r.by'
    rotate_left
    · rw [decide_eq_true (show PM r.by' < 0 by omega)]
      rw [hno (by rw [hrB, decide_eq_false hm0]; simp), if_neg (by decide)]
      refine W_cond (by rfl) (fun _ => ?_) (fun h => by cases h)
      repeat' (first | refine w1g ?_ | refine w1l ?_ | refine w1q ?_ | refine w1b ?_ | refine w1p ?_ | ((first | refine w1r ?_ | refine w1k ?_ | refine w1e ?_); (refine sy1 ?_; try exact True.intro)) | refine an2 ?_ | fail)
      exact W_ret ⟨[_], ⟨rfl, rfl⟩, rfl⟩
    rw [decide_eq_false (show ¬ PM r.by' < 0 by omega)]
    rw [decide_eq_true hm0, Bool.true_and] at hrB
    refine W_cond (by rfl) (fun h => by cases h) (fun _ => ?_)
    have hgS : gi (lsF j.ts.length fun t => PM (t : Nat)) r.by'.toNat = PM r.by' := hgm hb0
    have c63 := fun e he => fn63 j.ts.length e r (lsF j.ts.length fun t => PM (t : Nat)) (hL e he) (fun k hk => by
      rw [hli] at hk
      rw [show gi (lsF j.ts.length fun t => PM (t : Nat)) k = PM (k : Nat) from lsF_get hk]
      have := mxS_rng (fun r hr => (hpre r hr).1) (k : Nat)
      rw [hPM] at this
      exact this) (by rw [hli]; omega) hli
    rw [hgS] at c63
    have c62 := fn62 L (by omega) 63 [] [.fp (cR r) 0, .fp [aI (lsF j.ts.length fun t => PM (t : Nat))] 0] _ c63
    have hlk : lkB L (PM r.by') r = L.any fun e => (e.a == r.by' && e.b == r.k) && (max 0 (PM r.by' + e.g) == r.fr) := rfl
    rw [← hlk] at c62
    have hfrb : lkB L (PM r.by') r = true → 0 ≤ r.fr ∧ r.fr ≤ 1099511627776 + 1058656 := fun q => by
      rw [hlk, List.any_eq_true] at q
      obtain ⟨e, he, q⟩ := q
      simp only [Bool.and_eq_true, beq_iff_eq] at q
      have := (hL e he).2.2.2.2
      omega
    generalize lkB L (PM r.by') r = W1 at *
    have hd0 : decide (0 ≤ r.by') = true := decide_eq_true hb0
    repeat' (first | refine w1g ?_ | refine w1l ?_ | refine w1q ?_ | refine w1b ?_ | refine w1p ?_ | ((first | refine w1r ?_ | refine w1k ?_ | refine w1e ?_ | refine CallC.go _ (fun _ => ⟨trivial, c62⟩) rfl ?_); simp (maxSteps := 400000) (disch := omega) only [push_cast, ↓reduceIte, reduceCtorEq, Nat.reduceAdd, Nat.reduceSub, Nat.reduceEqDiff, Nat.reduceLeDiff, Nat.reduceLT, Nat.reduceBEq, Nat.reduceDiv, Nat.reduceMod, Nat.reducePow, Nat.reduceMul, Int.reduceToNat, Int.reduceLT, Int.reduceLE, hd0]) | refine an2 ?_ | fail)
    cases W1
    · rw [hno (by rw [hrB]; simp), if_neg (by decide)]
      refine W_cond (by rfl) (fun _ => ?_) (fun h => by cases h)
      repeat' (first | refine w1g ?_ | refine w1l ?_ | refine w1q ?_ | refine w1b ?_ | refine w1p ?_ | ((first | refine w1r ?_ | refine w1k ?_ | refine w1e ?_); (refine sy1 ?_; try exact True.intro)) | refine an2 ?_ | fail)
      exact W_ret ⟨[_], ⟨rfl, rfl⟩, rfl⟩
    refine W_cond (by rfl) (fun h => by cases h) (fun _ => ?_)
    have hfr := hfrb rfl
    have hQ : Q = (r.st == setN j r.k.toNat r.fr) := by rw [hrB, decide_eq_true hfr.1]; simp
    clear hrB hd0
    have c64 := fn64 (gt j.ts r.k.toNat).ws (gt j.ts r.k.toNat).mi r.fr (by omega) hk.2.2 ⟨hk.1, hk.2.1⟩ (by omega)
    have hVr := setN_rng hok.toOkJ hkt r.fr
    have hVV : fstV (gt j.ts r.k.toNat).mi r.fr (gt j.ts r.k.toNat).ws = if 0 ≤ setN j r.k.toNat r.fr then setN j r.k.toNat r.fr else 0 := rfl
    rw [hVV, ← hsn] at c64
    generalize setN j r.k.toNat r.fr = V at *
    obtain ⟨T, hT⟩ : ∃ T, gt j.ts r.k.toNat = T := ⟨_, rfl⟩
    have hgt : j.ts.getD r.k.toNat dTk = T := hT
    rw [hT] at c64
    by_cases hV : 0 ≤ V
    · rw [if_pos hV, decide_eq_true hV] at c64
      repeat' (first | refine w1g ?_ | refine w1l ?_ | refine w1q ?_ | refine w1b ?_ | refine w1p ?_ | ((first | refine w1r ?_ | refine w1k ?_ | refine w1e ?_ | refine CallC.now (c64) ?_); simp (maxSteps := 400000) (disch := omega) only [push_cast, ↓reduceIte, reduceCtorEq, Nat.reduceAdd, Nat.reduceSub, Nat.reduceEqDiff, Nat.reduceLeDiff, Nat.reduceLT, Nat.reduceBEq, Nat.reduceDiv, Nat.reduceMod, Nat.reducePow, Nat.reduceMul, Int.reduceToNat, Int.reduceLT, Int.reduceLE, hgt]) | refine an2 ?_ | fail)
      refine W_cond (by rfl) (fun h => by cases h) (fun _ => ?_)
      repeat' (first | refine w1g ?_ | refine w1l ?_ | refine w1q ?_ | refine w1b ?_ | refine w1p ?_ | ((first | refine w1r ?_ | refine w1k ?_ | refine w1e ?_); (refine sy1 ?_; try exact True.intro)) | refine an2 ?_ | fail)
      by_cases hst : r.st = V
      rotate_left
      · rw [show (V != r.st) = true from bne_iff_ne.2 fun q => hst q.symm]
        rw [hno (by rw [hQ, show (r.st == V) = false from beq_eq_false_iff_ne.2 hst]; rfl), if_neg (by decide)]
        refine W_cond (by rfl) (fun _ => ?_) (fun h => by cases h)
        repeat' (first | refine w1g ?_ | refine w1l ?_ | refine w1q ?_ | refine w1b ?_ | refine w1p ?_ | ((first | refine w1r ?_ | refine w1k ?_ | refine w1e ?_); (refine sy1 ?_; try exact True.intro)) | refine an2 ?_ | fail)
        exact W_ret ⟨[_], ⟨rfl, rfl⟩, rfl⟩
      rw [show (V != r.st) = false by rw [hst, bne_self_eq_false]]
      have hset : (lsF j.ts.length (fun t => PM (t : Nat))).set r.k.toNat (max (PM r.k) V) = lsF j.ts.length (fun t => PN (t : Nat)) := by
        rw [lsF_set hkt]
        refine lsF_congr fun t ht => ?_
        have hsn := hsnoc t
        unfold putF
        by_cases q : t = r.k.toNat
        · rw [if_pos q, hsn, if_pos (by omega), hst, show ((t : Nat) : Int) = r.k by omega]
        · rw [if_neg q, hsn, if_neg (by omega)]
      refine W_cond (by rfl) (fun h => by cases h) (fun _ => ?_)
      repeat' (first | refine w1g ?_ | refine w1l ?_ | refine w1q ?_ | refine w1b ?_ | refine w1p ?_ | ((first | refine w1r ?_ | refine w1k ?_ | refine w1e ?_); simp (maxSteps := 400000) (disch := omega) only [push_cast, ↓reduceIte, reduceCtorEq, Nat.reduceAdd, Nat.reduceSub, Nat.reduceEqDiff, Nat.reduceLeDiff, Nat.reduceLT, Nat.reduceBEq, Nat.reduceDiv, Nat.reduceMod, Nat.reducePow, Nat.reduceMul, Int.reduceToNat, Int.reduceLT, Int.reduceLE, hr, hgk]) | refine an2 ?_ | fail)
      refine ⟨rfl, ⟨Nat.le_of_ble_eq_true rfl, rfl⟩, by omega, max (PM r.k) V, rfl, rfl, ?_⟩
      rw [hset]
      (refine sy1 ?_; try exact True.intro)
      repeat' (first | refine w1g ?_ | refine w1l ?_ | refine w1q ?_ | refine w1b ?_ | refine w1p ?_ | ((first | refine w1r ?_ | refine w1k ?_ | refine w1e ?_); (refine sy1 ?_; try exact True.intro)) | refine an2 ?_ | fail)
      refine ⟨i + 1, ⟨by omega, hup (by rw [hQ]; rw [show (r.st == V) = true from beq_iff_eq.2 hst, decide_eq_false (show ¬ r.st < 0 by omega)]; rfl)⟩, by omega, by rfl, ?_⟩
      rw [hPN]
      (refine syE ?_; try exact True.intro)
    · rw [if_neg hV, decide_eq_false hV] at c64
      repeat' (first | refine w1g ?_ | refine w1l ?_ | refine w1q ?_ | refine w1b ?_ | refine w1p ?_ | ((first | refine w1r ?_ | refine w1k ?_ | refine w1e ?_ | refine CallC.now (c64) ?_); simp (maxSteps := 400000) (disch := omega) only [push_cast, ↓reduceIte, reduceCtorEq, Nat.reduceAdd, Nat.reduceSub, Nat.reduceEqDiff, Nat.reduceLeDiff, Nat.reduceLT, Nat.reduceBEq, Nat.reduceDiv, Nat.reduceMod, Nat.reducePow, Nat.reduceMul, Int.reduceToNat, Int.reduceLT, Int.reduceLE, hgt]) | refine an2 ?_ | fail)
      refine W_cond (by rfl) (fun _ => ?_) (fun h => by cases h)
      repeat' (first | refine w1g ?_ | refine w1l ?_ | refine w1q ?_ | refine w1b ?_ | refine w1p ?_ | ((first | refine w1r ?_ | refine w1k ?_ | refine w1e ?_); (refine sy1 ?_; try exact True.intro)) | refine an2 ?_ | fail)
      have hV1 : V = -1 := by omega
      by_cases hst : r.st = -1 ∧ i + 1 = lg.length
      rotate_left
      · rw [show (-1 != r.st || decide ((i : Int) < (lg.length : Int) - 1)) = true by
          rw [Bool.or_eq_true, bne_iff_ne, decide_eq_true_eq]
          by_cases q : r.st = -1
          · right; have : ¬ i + 1 = lg.length := fun z => hst ⟨q, z⟩; omega
          · left; exact fun z => q z.symm]
        rw [hno (by
          rw [hQ, hV1, Bool.and_eq_false_iff]
          by_cases q : r.st = -1
          · right
            have : ¬ i + 1 = lg.length := fun z => hst ⟨q, z⟩
            rw [decide_eq_true (show r.st < 0 by omega), decide_eq_true (show i + 1 < lg.length by omega)]; rfl
          · left; exact beq_eq_false_iff_ne.2 q), if_neg (by decide)]
        refine W_cond (by rfl) (fun _ => ?_) (fun h => by cases h)
        repeat' (first | refine w1g ?_ | refine w1l ?_ | refine w1q ?_ | refine w1b ?_ | refine w1p ?_ | ((first | refine w1r ?_ | refine w1k ?_ | refine w1e ?_); (refine sy1 ?_; try exact True.intro)) | refine an2 ?_ | fail)
        exact W_ret ⟨[_], ⟨rfl, rfl⟩, rfl⟩
      obtain ⟨hst, hil1⟩ := hst
      rw [show (-1 != r.st || decide ((i : Int) < (lg.length : Int) - 1)) = false by rw [hst, decide_eq_false (show ¬ (i : Int) < (lg.length : Int) - 1 by omega)]; rfl]
      have hset : (lsF j.ts.length (fun t => PM (t : Nat))).set r.k.toNat (max (PM r.k) (-1)) = lsF j.ts.length (fun t => PN (t : Nat)) := by
        rw [lsF_set hkt]
        refine lsF_congr fun t ht => ?_
        have hsn := hsnoc t
        unfold putF
        by_cases q : t = r.k.toNat
        · rw [if_pos q, hsn, if_pos (by omega), hst, show ((t : Nat) : Int) = r.k by omega]
        · rw [if_neg q, hsn, if_neg (by omega)]
      refine W_cond (by rfl) (fun h => by cases h) (fun _ => ?_)
      repeat' (first | refine w1g ?_ | refine w1l ?_ | refine w1q ?_ | refine w1b ?_ | refine w1p ?_ | ((first | refine w1r ?_ | refine w1k ?_ | refine w1e ?_); simp (maxSteps := 400000) (disch := omega) only [push_cast, ↓reduceIte, reduceCtorEq, Nat.reduceAdd, Nat.reduceSub, Nat.reduceEqDiff, Nat.reduceLeDiff, Nat.reduceLT, Nat.reduceBEq, Nat.reduceDiv, Nat.reduceMod, Nat.reducePow, Nat.reduceMul, Int.reduceToNat, Int.reduceLT, Int.reduceLE, hr, hgk]) | refine an2 ?_ | fail)
      refine ⟨rfl, ⟨Nat.le_of_ble_eq_true rfl, rfl⟩, by omega, max (PM r.k) (-1), rfl, rfl, ?_⟩
      rw [hset]
      (refine sy1 ?_; try exact True.intro)
      repeat' (first | refine w1g ?_ | refine w1l ?_ | refine w1q ?_ | refine w1b ?_ | refine w1p ?_ | ((first | refine w1r ?_ | refine w1k ?_ | refine w1e ?_); (refine sy1 ?_; try exact True.intro)) | refine an2 ?_ | fail)
      refine ⟨i + 1, ⟨by omega, hup (by rw [hQ]; rw [hV1, hst, decide_eq_false (show ¬ i + 1 < lg.length by omega)]; rfl)⟩, by omega, by rfl, ?_⟩
      rw [hPN]
      (refine syE ?_; try exact True.intro)
end Go.Proofs.Ytoiohkjomcbadaa

namespace Go.Proofs.Ytoiohkjomcbadaa
open Go Sy
set_option linter.unusedVariables false
def chn : List Rs → Int → List Rs
  | [], _ => []
  | r :: l, t => if r.k = t then r :: chn l r.by' else chn l t
theorem chn_none : ∀ (l : List Rs) (t : Int), (∀ r ∈ l, r.k ≠ t) → chn l t = []
  | [], t, _ => rfl
  | x :: l, t, h => by
    unfold chn
    rw [if_neg (h x List.mem_cons_self)]
    exact chn_none l t fun r hr => h r (List.mem_cons_of_mem _ hr)
theorem mxS_le {P : List Rs} {t b : Int} (hb : -1 ≤ b) (h : ∀ r ∈ P, r.k = t → r.st ≤ b) : mxS P t ≤ b := by
  have key : ∀ (l : List Rs) (m : Int), m ≤ b → (∀ r ∈ l, r.k = t → r.st ≤ b) → l.foldl (fun m r => if r.k = t then max m r.st else m) m ≤ b := by
    intro l
    induction l with
    | nil => intro m hm _; exact hm
    | cons r l ih =>
      intro m hm hs
      rw [List.foldl_cons]
      refine ih _ ?_ fun x hx => hs x (List.mem_cons_of_mem _ hx)
      split
      · rename_i q; have := hs r List.mem_cons_self q; omega
      · exact hm
  exact key P (-1) hb h
section
variable {j : Jb} {L : List Af} (h : OkJ j) (hL : ∀ a ∈ L, LkOk j.ts.length a)
include h hL
omit h in
theorem log_k {lg : List Rs} (hl : LogOk j L lg) : ∀ r ∈ lg, 0 ≤ r.k ∧ r.k < j.ts.length := by
  induction hl with
  | nil => intro r hr; cases hr
  | @first lg i hl hi hk ih =>
    intro r hr
    rcases List.mem_append.1 hr with hr | hr
    · exact ih r hr
    · rw [List.mem_singleton.1 hr]; show 0 ≤ (i : Int) ∧ (i : Int) < _; omega
  | @raise lg a hl ha hp hr0 ih =>
    intro r hr
    rcases List.mem_append.1 hr with hr | hr
    · exact ih r hr
    · rw [List.mem_singleton.1 hr]
      obtain ⟨a1, a2, a3, a4, _⟩ := hL a ha
      show 0 ≤ ((a.b.toNat : Nat) : Int) ∧ ((a.b.toNat : Nat) : Int) < _
      omega
theorem log_mono {lg : List Rs} (hl : LogOk j L lg) (hn : ∀ r ∈ lg, 0 ≤ r.st) : ∀ r ∈ lg, r.st ≤ lastS lg r.k := by
  induction hl with
  | nil => intro r hr; cases hr
  | @first lg i hl hi hk ih =>
    intro r hr
    rw [lastS_snoc]
    rcases List.mem_append.1 hr with hr | hr
    · have := (hk r hr).1
      rw [if_neg (by dsimp only; omega)]
      exact ih (fun x hx => hn x (List.mem_append_left _ hx)) r hr
    · rw [List.mem_singleton.1 hr]; rw [if_pos rfl]; exact Int.le_refl _
  | @raise lg a hl ha hp hr0 ih =>
    intro r hr
    rw [lastS_snoc]
    have hnew := hn _ (List.mem_append_right _ List.mem_cons_self)
    dsimp only at hnew ⊢
    have hb : a.b.toNat < j.ts.length := by obtain ⟨a1, a2, a3, a4, _⟩ := hL a ha; omega
    have hrg := setN_rng h hb (stO lg a.a.toNat + a.g)
    rcases List.mem_append.1 hr with hr | hr
    · have h1 := ih (fun x hx => hn x (List.mem_append_left _ hx)) r hr
      split
      · rename_i q
        have : lastS lg r.k = stO lg a.b.toNat := by show _ = lastS lg _; rw [← q]
        omega
      · exact h1
    · rw [List.mem_singleton.1 hr]; rw [if_pos rfl]; exact Int.le_refl _
structure Cb (j : Jb) (L : List Af) (P : List Rs) (A c : Nat) (tk : Nat → Nat) (sv : Nat → Int) : Prop where
  len : P.length ≤ A * j.ts.length + c + 1
  tn : ∀ i, i ≤ c → tk i < j.ts.length
  wk : ∀ i l, i ≤ l → l ≤ c → Wx (lkL L) (tk i) (tk l) (sv l - sv i) (l - i)
  me : ∀ i, i ≤ c → ∃ r ∈ P, r.k = tk i ∧ r.st = sv i
  as' : ∀ i l, i < l → l ≤ c → tk i = tk l → sv i < sv l
omit h hL in
theorem cb_short (hc : ∀ x s c, Wx (lkL L) x x s c → 0 < c → c ≤ j.ts.length → s ≤ 0) {P : List Rs} {A c : Nat} {tk : Nat → Nat} {sv : Nat → Int} (hb : Cb j L P A c tk sv) : c < j.ts.length := by
  rcases Nat.lt_or_ge c j.ts.length with q | q
  · exact q
  · obtain ⟨i, l, h1, h2, h3⟩ := pigeon j.ts.length tk (fun k hk => hb.tn k (by omega))
    have hw := hb.wk i l (by omega) (by omega)
    rw [h3] at hw
    have h4 := hc _ _ _ hw (by omega) (by omega)
    have h5 := hb.as' i l h1 (by omega) h3
    omega
structure Ch (j : Jb) (L : List Af) (lg : List Rs) (tt : Int) (P : List Rs) : Prop where
  rs : ∀ i, i < P.length → rsB j L (P.take i) (P.getD i dRs) = true
  sub : ∀ r ∈ P, r ∈ lg
  la : ∃ P0 r0, P = P0 ++ [r0] ∧ r0.k = tt ∧ r0.st = lastS lg tt
omit h hL in
theorem rs_snoc {P : List Rs} {r : Rs} (h1 : ∀ i, i < P.length → rsB j L (P.take i) (P.getD i dRs) = true) (h2 : rsB j L P r = true) : ∀ i, i < (P ++ [r]).length → rsB j L ((P ++ [r]).take i) ((P ++ [r]).getD i dRs) = true := fun i hi => by
  rw [List.length_append] at hi
  simp only [List.length_cons, List.length_nil] at hi
  rcases Nat.lt_or_ge i P.length with q | q
  · rw [List.take_append_of_le_length (by omega)]
    rw [show (P ++ [r]).getD i dRs = P.getD i dRs by simp only [List.getD_eq_getElem?_getD]; rw [List.getElem?_append_left q]]
    exact h1 i q
  · have e : i = P.length := by omega
    subst e
    rw [List.take_left' rfl]
    rw [show (P ++ [r]).getD P.length dRs = r by simp [List.getD_eq_getElem?_getD]]
    exact h2
theorem rs_raise {lg : List Rs} (hl : LogOk j L lg) (hn : ∀ r ∈ lg, 0 ≤ r.st) {a : Af} (ha : a ∈ L) (hp : ∀ i, i < j.ts.length → 0 ≤ stO lg i) (hr : stO lg a.b.toNat < stO lg a.a.toNat + a.g) {P : List Rs} (hP : Ch j L lg a.a P) :
    rsB j L P ⟨a.b.toNat, a.a, stO lg a.a.toNat + a.g, setN j a.b.toNat (stO lg a.a.toNat + a.g)⟩ = true := by
  obtain ⟨a1, a2, a3, a4, a5, a6⟩ := hL a ha
  obtain ⟨P0, r0, e1, e2, e3⟩ := hP.la
  have hs : lastS lg a.a = stO lg a.a.toNat := by show _ = lastS lg _; rw [show ((a.a.toNat : Nat) : Int) = a.a by omega]
  have hpa := hp a.a.toNat (by omega)
  have hpb := hp a.b.toNat (by omega)
  have hm : mxS P a.a = stO lg a.a.toNat := by
    rw [e1, mxS_snoc, if_pos e2, e3, hs]
    have := mxS_le (P := P0) (t := a.a) (b := stO lg a.a.toNat) (by omega) fun r hr hk => by
      have h1 := log_mono h hL hl hn r (hP.sub r (by rw [e1]; exact List.mem_append_left _ hr))
      rw [hk, hs] at h1
      exact h1
    omega
  unfold rsB
  dsimp only
  rw [if_neg (by omega), hm, decide_eq_true (show (0 : Int) ≤ ((a.b.toNat : Nat) : Int) by omega), decide_eq_true (show ((a.b.toNat : Nat) : Int) < (j.ts.length : Int) by omega), decide_eq_true (show 0 ≤ stO lg a.a.toNat + a.g by omega), Int.toNat_natCast, beq_self_eq_true, decide_eq_true hpa]
  show lkB L (stO lg a.a.toNat) _ = true
  unfold lkB
  rw [List.any_eq_true]
  refine ⟨a, ha, ?_⟩
  simp only [Bool.and_eq_true, beq_iff_eq]
  exact ⟨⟨trivial, by omega⟩, by omega⟩
omit h hL in
theorem rs_first {i : Nat} (hi : i < j.ts.length) : rsB j L [] ⟨i, -1, 0, setN j i 0⟩ = true := by
  unfold rsB
  dsimp only
  rw [if_pos rfl, decide_eq_true (show (0 : Int) ≤ (i : Int) by omega), decide_eq_true (show (i : Int) < (j.ts.length : Int) by omega), Int.toNat_natCast, beq_self_eq_true]
  rfl
theorem ch_main (hc : ∀ x s c, Wx (lkL L) x x s c → 0 < c → c ≤ j.ts.length → s ≤ 0) {lg : List Rs} (hl : LogOk j L lg) : (∀ r ∈ lg, 0 ≤ r.st) → ∀ tt, (∃ r ∈ lg, r.k = tt) → Ch j L lg tt (chn lg.reverse tt).reverse ∧ ∃ A c tk sv, Cb j L (chn lg.reverse tt).reverse A c tk sv ∧ A ≤ cnt j.ts (stO lg) ∧ (tk c : Int) = tt ∧ sv c = lastS lg tt := by
  induction hl with
  | nil => intro _ tt hx; obtain ⟨r, hr, _⟩ := hx; cases hr
  | @first lg i hl hi hk ih =>
    intro hn tt hx
    have hn0 : ∀ r ∈ lg, 0 ≤ r.st := fun r hr => hn r (List.mem_append_left _ hr)
    have hnew := hn _ (List.mem_append_right _ List.mem_cons_self)
    dsimp only at hnew
    have hkk := log_k hL hl
    rw [List.reverse_append]
    show Ch j L _ tt (chn (⟨i, -1, 0, setN j i 0⟩ :: lg.reverse) tt).reverse ∧ _
    by_cases q : (i : Int) = tt
    · subst q
      have e : chn (⟨i, -1, 0, setN j i 0⟩ :: lg.reverse) (i : Nat) = [⟨i, -1, 0, setN j i 0⟩] := by
        unfold chn
        rw [if_pos rfl, chn_none]
        intro r hr
        have := hkk r (List.mem_reverse.1 hr)
        dsimp only
        omega
      have hla : lastS (lg ++ [⟨i, -1, 0, setN j i 0⟩]) (i : Nat) = setN j i 0 := by rw [lastS_snoc, if_pos rfl]
      show Ch j L _ _ (chn (⟨i, -1, 0, setN j i 0⟩ :: lg.reverse) (i : Nat)).reverse ∧ ∃ A c tk sv, Cb j L (chn (⟨i, -1, 0, setN j i 0⟩ :: lg.reverse) (i : Nat)).reverse A c tk sv ∧ _
      rw [e]
      refine ⟨⟨fun k hk => ?_, fun r hr => List.mem_append_right _ hr, ⟨[], _, rfl, rfl, hla.symm⟩⟩, 0, 0, fun _ => i, fun _ => setN j i 0, ⟨by simp, fun _ _ => hi, fun a b h1 h2 => ?_, fun _ _ => ⟨_, List.mem_cons_self, rfl, rfl⟩, fun a b h1 h2 => by omega⟩, Nat.zero_le _, rfl, hla.symm⟩
      · have : k = 0 := by simpa using hk
        subst this
        exact rs_first hi
      · rw [Int.sub_self, show b - a = 0 by omega]; exact .nil
    · have e : chn (⟨i, -1, 0, setN j i 0⟩ :: lg.reverse) tt = chn lg.reverse tt := by
        show (if (i : Int) = tt then _ else _) = _
        rw [if_neg q]
      show Ch j L _ _ (chn (⟨i, -1, 0, setN j i 0⟩ :: lg.reverse) tt).reverse ∧ ∃ A c tk sv, Cb j L (chn (⟨i, -1, 0, setN j i 0⟩ :: lg.reverse) tt).reverse A c tk sv ∧ _
      rw [e]
      obtain ⟨r, hr, hrt⟩ := hx
      have hr : r ∈ lg := by
        rcases List.mem_append.1 hr with hr | hr
        · exact hr
        · rw [List.mem_singleton.1 hr] at hrt; exact absurd hrt q
      obtain ⟨h1, A, c, tk, sv, h2, h3, h4, h5⟩ := ih hn0 tt ⟨r, hr, hrt⟩
      have hla : lastS (lg ++ [⟨i, -1, 0, setN j i 0⟩]) tt = lastS lg tt := by rw [lastS_snoc, if_neg q]
      have hcn : cnt j.ts (stO lg) ≤ cnt j.ts (stO (lg ++ [⟨i, -1, 0, setN j i 0⟩])) := cnt_mono fun k => by
        rw [stO_snoc]
        unfold putF
        split
        · rename_i z
          subst z
          have : stO lg k = -1 := not_in fun r hr z => by have := (hk r hr).1; omega
          omega
        · exact Int.le_refl _
      obtain ⟨P0, r0, e1, e2, e3⟩ := h1.la
      exact ⟨⟨h1.rs, fun x hx => List.mem_append_left _ (h1.sub x hx), P0, r0, e1, e2, by rw [hla]; exact e3⟩, A, c, tk, sv, h2, Nat.le_trans h3 hcn, h4, by rw [hla]; exact h5⟩
  | @raise lg a hl ha hp hr0 ih =>
    intro hn tt hx
    have hn0 : ∀ r ∈ lg, 0 ≤ r.st := fun r hr => hn r (List.mem_append_left _ hr)
    have hnew := hn _ (List.mem_append_right _ List.mem_cons_self)
    dsimp only at hnew
    obtain ⟨a1, a2, a3, a4, a5, a6⟩ := hL a ha
    have hb : a.b.toNat < j.ts.length := by omega
    have hrg := setN_rng h hb (stO lg a.a.toNat + a.g)
    have hrb := fun P hP => rs_raise h hL hl hn0 ha hp hr0 (P := P) hP
    have hmo := log_mono h hL hl hn0
    have heng : eng j.ts (stO lg) (lkO a) = some (putF (stO lg) a.b.toNat (setN j a.b.toNat (stO lg a.a.toNat + a.g))) := by
      unfold eng
      rw [if_pos (show stO lg (lkO a).b < stO lg (lkO a).a + (lkO a).g from hr0), if_neg (by show ¬ setN j a.b.toNat (stO lg a.a.toNat + a.g) < 0; omega)]
      rfl
    obtain ⟨g1, g2, g3⟩ := eng_step (show (lkO a).b < j.ts.length from hb) heng
    have hso := stO_snoc lg a.b.toNat a.a (stO lg a.a.toNat + a.g) (setN j a.b.toNat (stO lg a.a.toNat + a.g))
    rw [← hso] at g2 g3
    rw [List.reverse_append]
    generalize hV : setN j a.b.toNat (stO lg a.a.toNat + a.g) = V at *
    show Ch j L _ tt (chn (⟨a.b.toNat, a.a, stO lg a.a.toNat + a.g, V⟩ :: lg.reverse) tt).reverse ∧ ∃ A c tk sv, Cb j L (chn (⟨a.b.toNat, a.a, stO lg a.a.toNat + a.g, V⟩ :: lg.reverse) tt).reverse A c tk sv ∧ _
    by_cases q : ((a.b.toNat : Nat) : Int) = tt
    · subst q
      have hxa : ∃ r ∈ lg, r.k = a.a := by
        refine Classical.byContradiction fun hx => ?_
        have hs : stO lg a.a.toNat = -1 := not_in fun r hr z => hx ⟨r, hr, by omega⟩
        have := hp a.a.toNat (by omega)
        omega
      obtain ⟨h1, A, c, tk, sv, h2, h3, h4, h5⟩ := ih hn0 a.a hxa
      have e : (chn (⟨a.b.toNat, a.a, stO lg a.a.toNat + a.g, V⟩ :: lg.reverse) (a.b.toNat : Nat)).reverse = (chn lg.reverse a.a).reverse ++ [⟨a.b.toNat, a.a, stO lg a.a.toNat + a.g, V⟩] := by
        show (if ((a.b.toNat : Nat) : Int) = ((a.b.toNat : Nat) : Int) then _ else _ : List Rs).reverse = _
        rw [if_pos rfl, List.reverse_cons]
      rw [e]
      have hrb := hrb _ h1
      have hla : lastS (lg ++ [⟨a.b.toNat, a.a, stO lg a.a.toNat + a.g, V⟩]) (a.b.toNat : Nat) = V := by rw [lastS_snoc, if_pos rfl]
      have hsub := h1.sub
      have hcs := cb_short hc h2
      generalize (chn lg.reverse a.a).reverse = P at *
      refine ⟨⟨rs_snoc h1.rs hrb, fun r hr => ?_, P, _, rfl, rfl, hla.symm⟩, ?_⟩
      · rcases List.mem_append.1 hr with hr | hr
        · exact List.mem_append_left _ (hsub r hr)
        · exact List.mem_append_right _ hr
      have hlen : (P ++ [(⟨a.b.toNat, a.a, stO lg a.a.toNat + a.g, V⟩ : Rs)]).length = P.length + 1 := by simp
      rcases g3 with g3 | g3
      · have hVe : V = stO lg a.a.toNat + a.g := by
          have := congrFun g3 a.b.toNat
          rw [hso] at this
          unfold putF rlx at this
          rw [if_pos rfl, if_pos (show stO lg (lkO a).b < stO lg (lkO a).a + (lkO a).g from hr0)] at this
          unfold putF at this
          rw [if_pos (show a.b.toNat = (lkO a).b from rfl)] at this
          exact this
        have hla2 : lastS lg a.a = stO lg a.a.toNat := by show _ = lastS lg _; rw [show ((a.a.toNat : Nat) : Int) = a.a by omega]
        have htc : tk c = a.a.toNat := by omega
        refine ⟨A, c + 1, fun i => if i ≤ c then tk i else a.b.toNat, fun i => if i ≤ c then sv i else V, ⟨?_, fun i hi => ?_, fun i l h6 h7 => ?_, fun i hi => ?_, fun i l h6 h7 h8 => ?_⟩, Nat.le_trans h3 g2, ?_, ?_⟩
        · rw [hlen]; have := h2.len; omega
        · try dsimp only
          split
          · exact h2.tn i (by omega)
          · exact hb
        · try dsimp only
          by_cases q1 : l ≤ c
          · rw [if_pos q1, if_pos (show i ≤ c by omega), if_pos q1, if_pos (show i ≤ c by omega)]
            exact h2.wk i l h6 q1
          · rw [if_neg q1, if_neg q1]
            have el : l = c + 1 := by omega
            subst el
            by_cases q2 : i ≤ c
            · rw [if_pos q2, if_pos q2]
              have hw := h2.wk i c q2 (Nat.le_refl _)
              rw [htc] at hw
              have hw2 := Wx.snoc (e := lkO a) hw (List.mem_map.2 ⟨a, ha, rfl⟩)
              have e1 : sv c - sv i + (lkO a).g = V - sv i := by
                rw [h5, hla2, hVe]; show _ + a.g = _; omega
              have e2 : c - i + 1 = c + 1 - i := by omega
              rw [e1, e2] at hw2
              exact hw2
            · rw [if_neg q2, if_neg q2, Int.sub_self, show c + 1 - i = 0 by omega]
              exact .nil
        · try dsimp only
          split
          · rename_i q1
            obtain ⟨r, hr, h8, h9⟩ := h2.me i q1
            exact ⟨r, List.mem_append_left _ hr, h8, h9⟩
          · exact ⟨_, List.mem_append_right _ List.mem_cons_self, rfl, rfl⟩
        · try dsimp only at h8 ⊢
          by_cases q1 : l ≤ c
          · rw [if_pos q1, if_pos (show i ≤ c by omega)] at h8 ⊢
            exact h2.as' i l h6 q1 h8
          · rw [if_neg q1, if_pos (show i ≤ c by omega)] at h8 ⊢
            obtain ⟨r, hr, h9, h10⟩ := h2.me i (by omega)
            have h11 := hmo r (hsub r hr)
            have h12 : lastS lg r.k = stO lg a.b.toNat := by show _ = lastS lg _; rw [h9, h8]
            omega
        · try dsimp only; rw [if_neg (by omega)]
        · try dsimp only; rw [if_neg (by omega)]; exact hla.symm
      · refine ⟨A + 1, 0, fun _ => a.b.toNat, fun _ => V, ⟨?_, fun _ _ => hb, fun i l h6 h7 => ?_, fun _ _ => ⟨_, List.mem_append_right _ List.mem_cons_self, rfl, rfl⟩, fun i l h6 h7 => by omega⟩, by omega, rfl, hla.symm⟩
        · rw [hlen, Nat.succ_mul]; have := h2.len; omega
        · rw [Int.sub_self, show l - i = 0 by omega]; exact .nil
    · have e : chn (⟨a.b.toNat, a.a, stO lg a.a.toNat + a.g, V⟩ :: lg.reverse) tt = chn lg.reverse tt := by
        show (if ((a.b.toNat : Nat) : Int) = tt then _ else _) = _
        rw [if_neg q]
      rw [e]
      obtain ⟨r, hr, hrt⟩ := hx
      have hr : r ∈ lg := by
        rcases List.mem_append.1 hr with hr | hr
        · exact hr
        · rw [List.mem_singleton.1 hr] at hrt; exact absurd hrt q
      obtain ⟨h1, A, c, tk, sv, h2, h3, h4, h5⟩ := ih hn0 tt ⟨r, hr, hrt⟩
      have hla : lastS (lg ++ [⟨a.b.toNat, a.a, stO lg a.a.toNat + a.g, V⟩]) tt = lastS lg tt := by rw [lastS_snoc, if_neg q]
      obtain ⟨P0, r0, e1, e2, e3⟩ := h1.la
      exact ⟨⟨h1.rs, fun x hx => List.mem_append_left _ (h1.sub x hx), P0, r0, e1, e2, by rw [hla]; exact e3⟩, A, c, tk, sv, h2, Nat.le_trans h3 g2, h4, by rw [hla]; exact h5⟩
structure WhP (j : Jb) (L : List Af) (lg : List Rs) (tt : Int) (P : List Rs) : Prop where
  ok : cwB j L P = true
  n0 : 0 < P.length
  n : P.length ≤ 20000
  k : (P.getD (P.length - 1) dRs).k = tt
  st : (P.getD (P.length - 1) dRs).st = lastS lg tt
omit h hL in
theorem last_snoc (P0 : List Rs) (r0 : Rs) : (P0 ++ [r0]).getD ((P0 ++ [r0]).length - 1) dRs = r0 := by simp [List.getD_eq_getElem?_getD]
omit h hL in
theorem wh_of {lg : List Rs} {tt : Int} {P : List Rs} (hp : ∀ i, i < P.length → rsB j L (P.take i) (P.getD i dRs) = true) (hla : ∃ P0 r0, P = P0 ++ [r0] ∧ r0.k = tt ∧ r0.st = lastS lg tt ∧ ∀ r ∈ P0, 0 ≤ r.st) (hn : P.length ≤ 20000) : WhP j L lg tt P := by
  obtain ⟨P0, r0, rfl, e2, e3, e4⟩ := hla
  refine ⟨cwB_yes fun i hi => ?_, by simp, hn, by rw [last_snoc]; exact e2, by rw [last_snoc]; exact e3⟩
  rw [hp i hi, Bool.true_and]
  unfold rsE
  rw [List.length_append] at hi ⊢
  simp only [List.length_cons, List.length_nil] at hi ⊢
  by_cases q : i + 1 < P0.length + (0 + 1)
  · have hm : (P0 ++ [r0]).getD i dRs ∈ P0 := by
      rw [show (P0 ++ [r0]).getD i dRs = P0.getD i dRs by simp only [List.getD_eq_getElem?_getD]; rw [List.getElem?_append_left (by omega)]]
      exact getD_mem' dRs P0 i (by omega)
    rw [decide_eq_false (show ¬ ((P0 ++ [r0]).getD i dRs).st < 0 by have := e4 _ hm; omega)]
    rfl
  · rw [decide_eq_false q, Bool.and_false]
    rfl
theorem wh_yes (hc : ∀ x s c, Wx (lkL L) x x s c → 0 < c → c ≤ j.ts.length → s ≤ 0) {lg : List Rs} (hl : LogOk j L lg) (hn : ∀ r ∈ lg, 0 ≤ r.st) {tt : Int} (hx : ∃ r ∈ lg, r.k = tt) : WhP j L lg tt (chn lg.reverse tt).reverse := by
  obtain ⟨h1, A, c, tk, sv, h2, h3, _⟩ := ch_main h hL hc hl hn tt hx
  have hcs := cb_short hc h2
  have hcm := cnt_max (ts := j.ts) (o := stO lg) (W := 32) h.w
  have hnn := h.n
  obtain ⟨P0, r0, e1, e2, e3⟩ := h1.la
  refine wh_of h1.rs ⟨P0, r0, e1, e2, e3, fun r hr => hn r (h1.sub r (by rw [e1]; exact List.mem_append_left _ hr))⟩ ?_
  have := h2.len
  have h4 : A * j.ts.length ≤ 768 * 24 := Nat.mul_le_mul (by omega) hnn
  omega
theorem wh_no (hc : ∀ x s c, Wx (lkL L) x x s c → 0 < c → c ≤ j.ts.length → s ≤ 0) {lg : List Rs} {r : Rs} (hl : LogOk j L (lg ++ [r])) (hn : ∀ r ∈ lg, 0 ≤ r.st) : WhP j L (lg ++ [r]) r.k (chn (lg ++ [r]).reverse r.k).reverse := by
  have e : (chn (lg ++ [r]).reverse r.k).reverse = (chn lg.reverse r.by').reverse ++ [r] := by
    rw [List.reverse_append]
    show (if r.k = r.k then _ else _ : List Rs).reverse = _
    rw [if_pos rfl, List.reverse_cons]
    rfl
  rw [e]
  generalize hlg : lg ++ [r] = l at hl
  cases hl with
  | nil => simp at hlg
  | @first lg' i hl hi hk =>
    obtain ⟨rfl, hr⟩ := List.append_inj' hlg rfl
    have hr : r = ⟨i, -1, 0, setN j i 0⟩ := by simpa using hr
    subst hr
    have e2 : chn lg.reverse (-1) = [] := chn_none _ _ fun x hx => by
      have := log_k hL hl x (List.mem_reverse.1 hx)
      omega
    show WhP j L _ _ ((chn lg.reverse (-1)).reverse ++ [_])
    rw [e2]
    refine wh_of (fun k hk => ?_) ⟨[], _, rfl, rfl, by rw [lastS_snoc, if_pos rfl], fun x hx => by cases hx⟩ (by simp)
    have : k = 0 := by simpa using hk
    subst this
    exact rs_first hi
  | @raise lg' a hl ha hp hr0 =>
    obtain ⟨rfl, hr⟩ := List.append_inj' hlg rfl
    have hr : r = ⟨a.b.toNat, a.a, stO lg a.a.toNat + a.g, setN j a.b.toNat (stO lg a.a.toNat + a.g)⟩ := by simpa using hr
    subst hr
    obtain ⟨a1, a2, a3, a4, a5, a6⟩ := hL a ha
    have hxa : ∃ r ∈ lg, r.k = a.a := by
      refine Classical.byContradiction fun hx => ?_
      have hs : stO lg a.a.toNat = -1 := not_in fun r hr z => hx ⟨r, hr, by omega⟩
      have := hp a.a.toNat (by omega)
      omega
    obtain ⟨h1, A, c, tk, sv, h2, h3, _⟩ := ch_main h hL hc hl hn a.a hxa
    have hcs := cb_short hc h2
    have hcm := cnt_max (ts := j.ts) (o := stO lg) (W := 32) h.w
    have hnn := h.n
    refine wh_of (rs_snoc h1.rs (rs_raise h hL hl hn ha hp hr0 h1)) ⟨_, _, rfl, rfl, by rw [lastS_snoc, if_pos rfl], fun x hx => hn x (h1.sub x hx)⟩ ?_
    have := h2.len
    have h4 : A * j.ts.length ≤ 768 * 24 := Nat.mul_le_mul (by omega) hnn
    rw [List.length_append]
    show (chn lg.reverse a.a).reverse.length + 1 ≤ 20000
    omega
end
end Go.Proofs.Ytoiohkjomcbadaa

namespace Go.Proofs.Ytoiohkjomcbadaa
open Go Sy
set_option maxRecDepth 100000
set_option maxHeartbeats 4000000
set_option linter.unusedVariables false
set_option linter.unusedSimpArgs false
theorem chn_len : ∀ (l : List Rs) (t : Int), (chn l t).length ≤ l.length
  | [], t => Nat.le_refl _
  | x :: l, t => by
    unfold chn
    split
    · have := chn_len l x.by'; rw [List.length_cons, List.length_cons]; omega
    · have := chn_len l t; rw [List.length_cons]; omega
structure WhyP (j : Jb) (o : List (List Int)) (t : Int) (P : List Rs) : Prop where
  n : P.length ≤ 20000
  no : wyE j o t ≠ 0 → P = []
  ok : wyE j o t = 0 → 0 < P.length ∧ cwE j o P = 0
  ys : wyE j o t = 0 → erlB j (lks j o) = true → (P.getD (P.length - 1) dRs).k = t ∧ (P.getD (P.length - 1) dRs).st = gi (erlL j (lks j o)) t.toNat
  ne : wyE j o t = 0 → erlB j (lks j o) = false → (P.getD (P.length - 1) dRs).st = -1
theorem chn_skip {r : Rs} {l : List Rs} {t : Int} (h : r.k ≠ t) : chn (r :: l) t = chn l t := by
  show (if r.k = t then _ else _) = _
  rw [if_neg h]
theorem chn_take {r : Rs} {l : List Rs} {t : Int} (h : r.k = t) : chn (r :: l) t = r :: chn l r.by' := by
  show (if r.k = t then _ else _) = _
  rw [if_pos h]
theorem take_rev {l : List Rs} {m : Nat} (h : m < l.length) : (l.take (m + 1)).reverse = l.getD m dRs :: (l.take m).reverse := by
  rw [take_snoc dRs l m h, List.reverse_append]; rfl
theorem fs28 (j : Jb) (o : List (List Int)) (t : Int) (h : Gj j) (ho : Go' o) : FnS Try.prog 28 [aJ j, aO o, iv t] fun r => ∃ P, r = .tup [aR P, iv (wyE j o t)] ∧ WhyP j o t P := by
  have c40 := fn40 j o h ho
  have ht := h.t
  by_cases h0 : chkO j o = 0
  rotate_left
  · have eW : wyE j o t = chkO j o := by unfold wyE; rw [if_neg h0]
    have hw : WhyP j o t [] := ⟨by decide, fun _ => rfl, fun q => absurd (eW.symm.trans q) h0, fun q => absurd (eW.symm.trans q) h0, fun q => absurd (eW.symm.trans q) h0⟩
    refine FnS_of_Fn (r := .tup [aR [], iv (wyE j o t)]) ?_ ⟨[], rfl, hw⟩
    rw [eW]
    refine Fn_of_W mixed Xt28 rfl ?_
    generalize chkO j o = E at *
    repeat' (first | refine w1g ?_ | refine w1l ?_ | refine w1q ?_ | refine w1b ?_ | refine w1p ?_ | ((first | refine w1r ?_ | refine w1k ?_ | refine w1e ?_ | refine CallC.now (c40) ?_); (refine sy1 ?_; try exact True.intro)) | refine an2 ?_ | fail)
    refine W_cond (by rfl) (fun _ => ?_) (fun h => absurd (by simpa using h) h0)
    repeat' (first | refine w1g ?_ | refine w1l ?_ | refine w1q ?_ | refine w1b ?_ | refine w1p ?_ | ((first | refine w1r ?_ | refine w1k ?_ | refine w1e ?_); (refine sy1 ?_; try exact True.intro)) | refine an2 ?_ | fail)
    refine W_le (le_nil 6 4 dRs cR rfl) ?_
    exact W_ret ⟨[_, _], ⟨rfl, rfl, rfl⟩, rfl⟩
  have hok := (chkO_ok h0).1
  have eW : wyE j o t = if t < 0 ∨ j.ts.length ≤ t then 3 else if posB j.ts.length (lkL (lks j o)) = true then 16 else 0 := by unfold wyE; rw [if_pos h0]
  rw [h0] at c40
  by_cases htr : t < 0 ∨ (j.ts.length : Int) ≤ t
  · rw [if_pos htr] at eW
    have hw : WhyP j o t [] := ⟨by decide, fun _ => rfl, fun q => absurd (eW.symm.trans q) (by decide), fun q => absurd (eW.symm.trans q) (by decide), fun q => absurd (eW.symm.trans q) (by decide)⟩
    refine FnS_of_Fn (r := .tup [aR [], iv (wyE j o t)]) ?_ ⟨[], rfl, hw⟩
    rw [eW]
    refine Fn_of_W mixed Xt28 rfl ?_
    repeat' (first | refine w1g ?_ | refine w1l ?_ | refine w1q ?_ | refine w1b ?_ | refine w1p ?_ | ((first | refine w1r ?_ | refine w1k ?_ | refine w1e ?_ | refine CallC.now (c40) ?_); (refine sy1 ?_; try exact True.intro)) | refine an2 ?_ | fail)
    refine W_cond (by rfl) (fun h => by cases h) (fun _ => ?_)
    repeat' (first | refine w1g ?_ | refine w1l ?_ | refine w1q ?_ | refine w1b ?_ | refine w1p ?_ | ((first | refine w1r ?_ | refine w1k ?_ | refine w1e ?_); (refine sy1 ?_; try exact True.intro)) | refine an2 ?_ | fail)
    refine W_cond (by rfl) (fun _ => ?_) (fun hb => ?_)
    · repeat' (first | refine w1g ?_ | refine w1l ?_ | refine w1q ?_ | refine w1b ?_ | refine w1p ?_ | ((first | refine w1r ?_ | refine w1k ?_ | refine w1e ?_); (refine sy1 ?_; try exact True.intro)) | refine an2 ?_ | fail)
      refine W_le (le_nil 6 4 dRs cR rfl) ?_
      exact W_ret ⟨[_, _], ⟨rfl, rfl, rfl⟩, rfl⟩
    · simp only [Bool.or_eq_false_iff, decide_eq_false_iff_not] at hb
      omega
  rw [if_neg htr] at eW
  have cwe : ∀ P : List Rs, 0 < P.length → P.length ≤ 20000 → cwB j (lks j o) P = true → cwE j o P = 0 := fun P h1 h2 h3 => by
    unfold cwE; rw [if_pos h0, if_neg (by omega), if_neg (by omega), if_pos h3]
  have hpc := pos_can (lks_lk' hok) hok.n
  have hwp : ∀ P, WhyP j o t P = WhyP j o t P := fun _ => rfl
  refine FnS_of_W mixed Xt28 rfl ?_
  have c52 := fn52 j o hok
  have hn := hok.n
  have hcJ : cJ j = [aT j.ts, aA j.af, aI j.tm] := rfl
  have hLL := lks_lk' hok
  have hmk1 : wyE j o t ≠ 0 → WhyP j o t [] := fun q => ⟨by decide, fun _ => rfl, fun z => absurd z q, fun z => absurd z q, fun z => absurd z q⟩
  have hmk2 : wyE j o t = 0 → ∀ P : List Rs, 0 < P.length → P.length ≤ 20000 → cwE j o P = 0 → (erlB j (lks j o) = true → (P.getD (P.length - 1) dRs).k = t ∧ (P.getD (P.length - 1) dRs).st = gi (erlL j (lks j o)) t.toNat) → (erlB j (lks j o) = false → (P.getD (P.length - 1) dRs).st = -1) → WhyP j o t P := fun q P h1 h2 h3 h4 h5 => ⟨h2, fun z => absurd q z, fun _ => ⟨h1, h3⟩, fun _ => h4, fun _ => h5⟩
  obtain ⟨R, hR⟩ : ∃ R : AV → Prop, R = fun r => ∃ P, r = .tup [aR P, iv (wyE j o t)] ∧ WhyP j o t P := ⟨_, rfl⟩
  rw [← hR]
  have hmkR : ∀ P, WhyP j o t P → R (.tup [aR P, iv (wyE j o t)]) := fun P hP => by rw [hR]; exact ⟨P, rfl, hP⟩
  clear hR hwp
  generalize WhyP j o t = WP at *
  generalize wyE j o t = WE at *
  repeat' (first | refine w1g ?_ | refine w1l ?_ | refine w1q ?_ | refine w1b ?_ | refine w1p ?_ | ((first | refine w1r ?_ | refine w1k ?_ | refine w1e ?_ | refine CallC.now (c40) ?_); (refine sy1 ?_; try exact True.intro)) | refine an2 ?_ | fail)
  refine W_cond (by rfl) (fun h => by cases h) (fun _ => ?_)
  repeat' (first | refine w1g ?_ | refine w1l ?_ | refine w1q ?_ | refine w1b ?_ | refine w1p ?_ | ((first | refine w1r ?_ | refine w1k ?_ | refine w1e ?_); (refine sy1 ?_; try exact True.intro)) | refine an2 ?_ | fail)
  refine W_cond (by rfl) (fun hb => ?_) (fun _ => ?_)
  · simp only [Bool.or_eq_true, decide_eq_true_eq] at hb
    omega
  refine W_skip ?_
  (refine sy1 ?_; try exact True.intro)
  repeat (first | refine w1g ?_ | refine w1l ?_ | refine w1q ?_ | refine w1b ?_)
  refine W_gc [1, 2, 3] [] 0 (by rfl) ?_
  simp (maxSteps := 400000) (disch := omega) only [push_cast, ↓reduceIte, reduceCtorEq, Nat.reduceAdd, Nat.reduceSub, Nat.reduceEqDiff, Nat.reduceLeDiff, Nat.reduceLT, Nat.reduceBEq, Nat.reduceDiv, Nat.reduceMod, Nat.reducePow, Nat.reduceMul, Int.reduceToNat, Int.reduceLT, Int.reduceLE, S.norm, List.map_cons, List.map_nil, keepM]
  repeat' (first | refine w1g ?_ | refine w1l ?_ | refine w1q ?_ | refine w1b ?_ | refine w1p ?_ | ((first | refine w1r ?_ | refine w1k ?_ | refine w1e ?_); (refine sy1 ?_; try exact True.intro)) | refine an2 ?_ | fail)
  refine CallC.inl (Inl_of_W mixed Xs69 rfl (fun vs => ?_))
  (refine sy1 ?_; try exact True.intro)
  repeat' (first | refine w1g ?_ | refine w1l ?_ | refine w1q ?_ | refine w1b ?_ | refine w1p ?_ | ((first | refine w1r ?_ | refine w1k ?_ | refine w1e ?_ | refine CallC.now (c52) ?_); (refine sy1 ?_; try exact True.intro)) | refine an2 ?_ | fail)
  refine ⟨rfl, ⟨by omega, by omega, by omega⟩, Int, 0, cI, 0, rfl, rfl, by omega, rfl, ?_⟩
  simp (maxSteps := 400000) (disch := omega) only [push_cast, ↓reduceIte, reduceCtorEq, Nat.reduceAdd, Nat.reduceSub, Nat.reduceEqDiff, Nat.reduceLeDiff, Nat.reduceLT, Nat.reduceBEq, Nat.reduceDiv, Nat.reduceMod, Nat.reducePow, Nat.reduceMul, Int.reduceToNat, Int.reduceLT, Int.reduceLE, Int.toNat_natCast, hcJ, List.cons_append, List.nil_append, List.append_nil, List.take_succ_cons, List.take_zero, List.drop_succ_cons, List.drop_zero, List.drop_nil, List.length_cons, List.length_nil]
  rw [lsF_rep]
  repeat' (first | refine w1g ?_ | refine w1l ?_ | refine w1q ?_ | refine w1b ?_ | refine w1p ?_ | ((first | refine w1r ?_ | refine w1k ?_ | refine w1e ?_); (refine sy1 ?_; try exact True.intro)) | refine an2 ?_ | fail)
  refine W_name 15 (by rfl) (fun b => ?_)
  (refine sy1 ?_; try exact True.intro)
  refine W_le (le_adoptC 14 5 64 4 dRs cR (by omega) _ rfl rfl (by simp)) ?_
  (refine sy1 ?_; try exact True.intro)
  refine W_le (le_adoptC 14 6 29 1 dAf (cCl b) (by omega) _ rfl rfl (by simp)) ?_
  (refine sy1 ?_; try exact True.intro)
  have hl0 := lsF_len j.ts.length (fun _ => 0)
  rw [hl0]
  clear hl0
  rw [f1_zero]
  refine W_loopU (fun i : Nat => [(24, iv i)]) (fun i => [(12, .row 0 2 1 0 cI (lsF j.ts.length (f1 i)))]) (fun i => i ≤ j.ts.length) (fun i => j.ts.length - i) 0 (by omega) (by rfl) (by rfl) (fun i hi => ?_)
  have hli := lsF_len j.ts.length (f1 i)
  (refine sy1 ?_; try exact True.intro)
  repeat' (first | refine w1g ?_ | refine w1l ?_ | refine w1q ?_ | refine w1b ?_ | refine w1p ?_ | ((first | refine w1r ?_ | refine w1k ?_ | refine w1e ?_); (refine sy1 ?_; try exact True.intro)) | refine an2 ?_ | fail)
  refine W_condD (by rfl) (fun h5 => ?_) (fun h5 => ?_)
  · have hset : (lsF j.ts.length (f1 i)).set i (-1) = lsF j.ts.length (f1 (i + 1)) := by rw [lsF_set (by omega), f1_step]
    repeat' (first | refine w1g ?_ | refine w1l ?_ | refine w1q ?_ | refine w1b ?_ | refine w1p ?_ | ((first | refine w1r ?_ | refine w1k ?_ | refine w1e ?_); simp (maxSteps := 400000) (disch := omega) only [push_cast, ↓reduceIte, reduceCtorEq, Nat.reduceAdd, Nat.reduceSub, Nat.reduceEqDiff, Nat.reduceLeDiff, Nat.reduceLT, Nat.reduceBEq, Nat.reduceDiv, Nat.reduceMod, Nat.reducePow, Nat.reduceMul, Int.reduceToNat, Int.reduceLT, Int.reduceLE, hli]) | refine an2 ?_ | fail)
    refine ⟨rfl, ⟨Nat.le_of_ble_eq_true rfl, rfl⟩, by omega, -1, rfl, rfl, ?_⟩
    rw [hset]
    (refine sy1 ?_; try exact True.intro)
    repeat' (first | refine w1g ?_ | refine w1l ?_ | refine w1q ?_ | refine w1b ?_ | refine w1p ?_ | ((first | refine w1r ?_ | refine w1k ?_ | refine w1e ?_); (refine sy1 ?_; try exact True.intro)) | refine an2 ?_ | fail)
    refine ⟨i + 1, by omega, by omega, by rfl, ?_⟩
    (refine syE ?_; try exact True.intro)
  obtain rfl : i = j.ts.length := by omega
  repeat' (first | refine w1g ?_ | refine w1l ?_ | refine w1q ?_ | refine w1b ?_ | refine w1p ?_ | ((first | refine w1r ?_ | refine w1k ?_ | refine w1e ?_); (refine sy1 ?_; try exact True.intro)) | refine an2 ?_ | fail)
  have hll := lks_len hok
  generalize lks j o = L at *
  refine W_loopU (fun k : Nat => [(39, iv k)]) (fun k => [(25, .row k 29 1 dAf (cCl b) (L.take k)), (14, .cells [aT j.ts, aA j.af, aI j.tm, .sl 3 dAf cA L, .row 12 0, .row 24 0, .row 25 k, bv false])]) (fun k => k ≤ L.length) (fun k => L.length - k) 0 (by omega) (by rfl) (by rfl) (fun k hk => ?_)
  have htl : (L.take k).length = k := by rw [List.length_take]; omega
  (refine sy1 ?_; try exact True.intro)
  repeat' (first | refine w1g ?_ | refine w1l ?_ | refine w1q ?_ | refine w1b ?_ | refine w1p ?_ | ((first | refine w1r ?_ | refine w1k ?_ | refine w1e ?_); (refine sy1 ?_; try exact True.intro)) | refine an2 ?_ | fail)
  refine W_condD (by rfl) (fun h6 => ?_) (fun h6 => ?_)
  · have hts := take_snoc dAf L k (by omega)
    obtain ⟨a, hga⟩ : ∃ a, L.getD k dAf = a := ⟨_, rfl⟩
    rw [hga] at hts
    refine W_skip ?_
    (refine sy1 ?_; try exact True.intro)
    repeat (first | refine w1g ?_ | refine w1l ?_ | refine w1q ?_ | refine w1b ?_)
    refine w1r ?_
    simp (maxSteps := 400000) (disch := omega) only [push_cast, ↓reduceIte, reduceCtorEq, Nat.reduceAdd, Nat.reduceSub, Nat.reduceEqDiff, Nat.reduceLeDiff, Nat.reduceLT, Nat.reduceBEq, Nat.reduceDiv, Nat.reduceMod, Nat.reducePow, Nat.reduceMul, Int.reduceToNat, Int.reduceLT, Int.reduceLE, hga]
    refine ⟨⟨by omega, by omega⟩, ?_⟩
    repeat (refine w1g ?_)
    refine W_le (le_frz 8 [5, 37, 38, 39] [25, 24, 23, 2, 12, 14, 15] 60 36 0 (cA a) rfl rfl rfl rfl rfl) ?_
    simp (maxSteps := 400000) (disch := omega) only [push_cast, ↓reduceIte, reduceCtorEq, Nat.reduceAdd, Nat.reduceSub, Nat.reduceEqDiff, Nat.reduceLeDiff, Nat.reduceLT, Nat.reduceBEq, Nat.reduceDiv, Nat.reduceMod, Nat.reducePow, Nat.reduceMul, Int.reduceToNat, Int.reduceLT, Int.reduceLE, List.map_cons, List.map_nil, keepM]
    generalize L.take k = T at *
    refine reg69 j L T a b k vs _ (lsF j.ts.length (f1 j.ts.length)) htl (by omega) ?_
    (refine sy1 ?_; try exact True.intro)
    repeat' (first | refine w1g ?_ | refine w1l ?_ | refine w1q ?_ | refine w1b ?_ | refine w1p ?_ | ((first | refine w1r ?_ | refine w1k ?_ | refine w1e ?_); (refine sy1 ?_; try exact True.intro)) | refine an2 ?_ | fail)
    refine ⟨k + 1, by omega, by omega, by rfl, ?_⟩
    rw [hts]
    (refine syE ?_; try exact True.intro)
  obtain rfl : k = L.length := by omega
  rw [List.take_length]
  repeat' (first | refine w1g ?_ | refine w1l ?_ | refine w1q ?_ | refine w1b ?_ | refine w1p ?_ | ((first | refine w1r ?_ | refine w1k ?_ | refine w1e ?_); (refine sy1 ?_; try exact True.intro)) | refine an2 ?_ | fail)
  refine W_ret ⟨[_], _, ⟨rfl, rfl⟩, rfl, ?_⟩
  simp (maxSteps := 400000) (disch := omega) only [push_cast, ↓reduceIte, reduceCtorEq, Nat.reduceAdd, Nat.reduceSub, Nat.reduceEqDiff, Nat.reduceLeDiff, Nat.reduceLT, Nat.reduceBEq, Nat.reduceDiv, Nat.reduceMod, Nat.reducePow, Nat.reduceMul, Int.reduceToNat, Int.reduceLT, Int.reduceLE, pack, delm]
  have hf1 : lsF j.ts.length (f1 j.ts.length) = (e1 j 0).ss := lsF_congr fun i hi => by unfold f1; rw [if_pos hi]
  rw [hf1]
  refine W_gc [2, 3, 9] [25, 24, 23, 12, 14, 15] 60 (by rfl) ?_
  simp (maxSteps := 400000) (disch := omega) only [push_cast, ↓reduceIte, reduceCtorEq, Nat.reduceAdd, Nat.reduceSub, Nat.reduceEqDiff, Nat.reduceLeDiff, Nat.reduceLT, Nat.reduceBEq, Nat.reduceDiv, Nat.reduceMod, Nat.reducePow, Nat.reduceMul, Int.reduceToNat, Int.reduceLT, Int.reduceLE, S.norm, List.map_cons, List.map_nil, keepM]
  by_cases hc : Can (lkL L) (rnds (lkL L) (fun _ => 0) j.ts.length)
  · obtain ⟨p, hp1, hp2, c70⟩ := fn70s j.ts.length L (by have := hok.n0; omega) hn hll hLL hc
    have hpl := cirL_len (brs (lkL L) (j.ts.length + 1)).by' (crcX j.ts.length (lkL L)) p
    have hpp := hp2.pos
    have hrl : 0 < (cirL (brs (lkL L) (j.ts.length + 1)).by' (crcX j.ts.length (lkL L)) p).reverse.length := by rw [List.length_reverse]; omega
    generalize (cirL (brs (lkL L) (j.ts.length + 1)).by' (crcX j.ts.length (lkL L)) p).reverse = C at *
    rw [if_pos (hpc.2 hc)] at eW
    repeat' (first | refine w1g ?_ | refine w1l ?_ | refine w1q ?_ | refine w1b ?_ | refine w1p ?_ | ((first | refine w1r ?_ | refine w1k ?_ | refine w1e ?_ | refine CallC.now (c70) ?_); (refine sy1 ?_; try exact True.intro)) | refine an2 ?_ | fail)
    refine W_cond (by rfl) (fun _ => ?_) (fun h => by cases h)
    repeat' (first | refine w1g ?_ | refine w1l ?_ | refine w1q ?_ | refine w1b ?_ | refine w1p ?_ | ((first | refine w1r ?_ | refine w1k ?_ | refine w1e ?_); (refine sy1 ?_; try exact True.intro)) | refine an2 ?_ | fail)
    refine W_le (le_nil 6 4 dRs cR rfl) ?_
    have hR16 := hmkR [] (hmk1 (by rw [eW]; decide))
    rw [eW] at hR16
    exact W_ret ⟨_, hR16, [_, _], ⟨rfl, rfl, rfl⟩, rfl⟩
  rw [if_neg (fun q => hc (hpc.1 q))] at eW
  have c70 := fn70n j.ts.length L (by have := hok.n0; omega) hn hll hLL hc
  have hcn := can_none hLL hc
  have hR0 := fun (tm : List (Nat × AV)) => i71 b j L hok.toOkJ hLL hll hcn (tm := tm) (opq_nil 60)
  repeat' (first | refine w1g ?_ | refine w1l ?_ | refine w1q ?_ | refine w1b ?_ | refine w1p ?_ | ((first | refine w1r ?_ | refine w1k ?_ | refine w1e ?_ | refine CallC.now (c70) ?_); (refine sy1 ?_; try exact True.intro)) | refine an2 ?_ | fail)
  refine W_cond (by rfl) (fun h => by cases h) (fun _ => ?_)
  repeat' (first | refine w1g ?_ | refine w1l ?_ | refine w1q ?_ | refine w1b ?_ | refine w1p ?_ | ((first | refine w1r ?_ | refine w1k ?_ | refine w1e ?_); (refine sy1 ?_; try exact True.intro)) | refine an2 ?_ | fail)
  refine CallC.inl (Inl_sameM (engE b j L (e1 j 0) ++ []) 60 (fun _ => rfl) ((opq_nil 60).mem (engM_bas b j L _ _ _)) (Inl_le' (hR0 _) (fun r s' hs2 => ?_)))
  obtain ⟨B', R2, nx2, hB', hX, ⟨ok, e, rfl, rfl, hr⟩, hl⟩ := hs2
  refine ⟨_, ?_, hl⟩
  clear hR0 hl
  (refine sy1 ?_; try exact True.intro)
  refine W_gcX [2, 9, 10, 49] [25, 24, 23, 12, 14, 15] 60 (by rfl) (fun k hk => (hX.opq (opq_nil 60)).lo k (by
    rw [has_mem] at hk
    simp only [List.mem_cons, List.not_mem_nil, or_false] at hk
    omega)) ?_
  clear hX hB'
  simp (maxSteps := 400000) (disch := omega) only [push_cast, ↓reduceIte, reduceCtorEq, Nat.reduceAdd, Nat.reduceSub, Nat.reduceEqDiff, Nat.reduceLeDiff, Nat.reduceLT, Nat.reduceBEq, Nat.reduceDiv, Nat.reduceMod, Nat.reducePow, Nat.reduceMul, Int.reduceToNat, Int.reduceLT, Int.reduceLE, engM, keepM, List.map_cons, List.map_nil, List.cons_append, List.nil_append]
  have hlg : e.lg.length ≤ 10000000 := hr.len
  have hek : ∀ r ∈ e.lg, 0 ≤ r.k ∧ r.k < j.ts.length := log_k hLL hr.ei.lg
  have hLog := hr.ei.lg
  have htn : t.toNat < j.ts.length := by omega
  have htt : ((t.toNat : Nat) : Int) = t := by omega
  cases ok
  rotate_left
  · obtain ⟨y1, y2, y3⟩ := hr.ys rfl
    have hxt : ∃ r ∈ e.lg, r.k = t := by
      refine Classical.byContradiction fun hx => ?_
      have hs : stO e.lg t.toNat = -1 := not_in fun r hr z => hx ⟨r, hr, by omega⟩
      have := y1 t.toNat htn
      omega
    have hW := wh_yes hok.toOkJ hLL hcn hLog y3 hxt
    obtain ⟨q1, q2⟩ := run_yes hok.toOkJ hLL hr
    obtain ⟨z1, z2, _⟩ := erl_yes q1 q2
    have hls : lastS e.lg t = gi (erlL j L) t.toNat := by
      rw [z2, show gi (lsF j.ts.length (stO e.lg)) t.toNat = stO e.lg t.toNat from lsF_get htn]
      show _ = lastS e.lg _
      rw [htt]
    have hfin : ∀ P, WhP j L e.lg t P → R (.tup [aR P, iv 0]) := fun P hP => by
      have h1 := hmkR P (hmk2 eW P hP.n0 hP.n (cwe P hP.n0 hP.n hP.ok) (fun _ => ⟨hP.k, by rw [hP.st, hls]⟩) (fun q => by rw [z1] at q; cases q))
      rw [eW] at h1
      exact h1
    clear hmkR hmk1 hmk2 cwe hls q1 q2 z1 z2 y1 y2 y3 hxt hr hLog hcn c70 hc hpc
    obtain ⟨lg, hlge⟩ : ∃ lg, e.lg = lg := ⟨_, rfl⟩
    rw [hlge] at hlg hek hW hfin ⊢
    refine W_cond (by rfl) (fun _ => ?_) (fun h => by cases h)
    repeat' (first | refine w1g ?_ | refine w1l ?_ | refine w1q ?_ | refine w1b ?_ | refine w1p ?_ | ((first | refine w1r ?_ | refine w1k ?_ | refine w1e ?_); (refine sy1 ?_; try exact True.intro)) | refine an2 ?_ | fail)
    refine W_loopU (fun u : Nat × Nat => [(10, iv ((u.2 : Int) - 1)), (55, iv u.1)]) (fun u => []) (fun u => u.1 ≤ lg.length ∧ u.2 ≤ u.1 ∧ (0 < u.2 → (lg.getD (u.2 - 1) dRs).k = t) ∧ chn (lg.take u.1).reverse t = chn (lg.take u.2).reverse t) (fun u => lg.length - u.1) (0, 0) ⟨Nat.zero_le _, Nat.le_refl _, fun h => absurd h (Nat.lt_irrefl _), rfl⟩ (by rfl) (by rfl) (fun u hu => ?_)
    obtain ⟨i, M⟩ := u
    obtain ⟨hi, hMi, hMk, hch⟩ := hu
    dsimp only at hi hMi hMk hch ⊢
    (refine sy1 ?_; try exact True.intro)
    repeat' (first | refine w1g ?_ | refine w1l ?_ | refine w1q ?_ | refine w1b ?_ | refine w1p ?_ | ((first | refine w1r ?_ | refine w1k ?_ | refine w1e ?_); (refine sy1 ?_; try exact True.intro)) | refine an2 ?_ | fail)
    refine W_condD (by rfl) (fun h6 => ?_) (fun h6 => ?_)
    · have hil : i < lg.length := by omega
      have htr := take_rev hil
      obtain ⟨x, hx⟩ : ∃ x, lg.getD i dRs = x := ⟨_, rfl⟩
      rw [hx] at htr
      repeat' (first | refine w1g ?_ | refine w1l ?_ | refine w1q ?_ | refine w1b ?_ | refine w1p ?_ | ((first | refine w1r ?_ | refine w1k ?_ | refine w1e ?_); simp (maxSteps := 400000) (disch := omega) only [push_cast, ↓reduceIte, reduceCtorEq, Nat.reduceAdd, Nat.reduceSub, Nat.reduceEqDiff, Nat.reduceLeDiff, Nat.reduceLT, Nat.reduceBEq, Nat.reduceDiv, Nat.reduceMod, Nat.reducePow, Nat.reduceMul, Int.reduceToNat, Int.reduceLT, Int.reduceLE, hx]) | refine an2 ?_ | fail)
      by_cases hk : x.k = t
      · rw [show (x.k == t) = true from beq_iff_eq.2 hk]
        refine W_cond (by rfl) (fun _ => ?_) (fun h => by cases h)
        repeat' (first | refine w1g ?_ | refine w1l ?_ | refine w1q ?_ | refine w1b ?_ | refine w1p ?_ | ((first | refine w1r ?_ | refine w1k ?_ | refine w1e ?_); (refine sy1 ?_; try exact True.intro)) | refine an2 ?_ | fail)
        refine ⟨(i + 1, i + 1), ⟨by dsimp only; omega, by dsimp only; omega, fun _ => by rw [show i + 1 - 1 = i by omega, hx]; exact hk, rfl⟩, by dsimp only; omega, by rfl, ?_⟩
        dsimp only
        (refine syE ?_; try exact True.intro)
        first | done | omega | (constructor <;> omega)
      · rw [show (x.k == t) = false from beq_eq_false_iff_ne.2 hk]
        refine W_cond (by rfl) (fun h => by cases h) (fun _ => ?_)
        repeat' (first | refine w1g ?_ | refine w1l ?_ | refine w1q ?_ | refine w1b ?_ | refine w1p ?_ | ((first | refine w1r ?_ | refine w1k ?_ | refine w1e ?_); (refine sy1 ?_; try exact True.intro)) | refine an2 ?_ | fail)
        refine ⟨(i + 1, M), ⟨by dsimp only; omega, by dsimp only; omega, hMk, by rw [htr, chn_skip hk]; exact hch⟩, by dsimp only; omega, by rfl, ?_⟩
        dsimp only
        (refine syE ?_; try exact True.intro)
    obtain rfl : i = lg.length := by omega
    rw [List.take_length] at hch
    rw [hch] at hW
    have hMl : M ≤ lg.length := hMi
    repeat' (first | refine w1g ?_ | refine w1l ?_ | refine w1q ?_ | refine w1b ?_ | refine w1p ?_ | ((first | refine w1r ?_ | refine w1k ?_ | refine w1e ?_); (refine sy1 ?_; try exact True.intro)) | refine an2 ?_ | fail)
    refine W_gc [9, 10, 13] [25, 24, 23, 12, 14, 15] 60 (by rfl) ?_
    simp (maxSteps := 400000) (disch := omega) only [push_cast, ↓reduceIte, reduceCtorEq, Nat.reduceAdd, Nat.reduceSub, Nat.reduceEqDiff, Nat.reduceLeDiff, Nat.reduceLT, Nat.reduceBEq, Nat.reduceDiv, Nat.reduceMod, Nat.reducePow, Nat.reduceMul, Int.reduceToNat, Int.reduceLT, Int.reduceLE, S.norm, List.map_cons, List.map_nil, keepM]
    refine W_le (le_adopt 13 64 4 dRs cR (by omega) rfl) ?_
    (refine sy1 ?_; try exact True.intro)
    refine W_loopU (fun u : Nat × List Rs => [(10, iv ((u.1 : Int) - 1)), (13, .row 60 u.2.length)]) (fun u => [(60, .row u.2.length 64 4 dRs cR u.2)]) (fun u => u.1 ≤ M ∧ ∃ w, chn (lg.take M).reverse t = u.2 ++ chn (lg.take u.1).reverse w ∧ (0 < u.1 → (lg.getD (u.1 - 1) dRs).k = w)) (fun u => u.1) (M, []) ⟨Nat.le_refl _, t, rfl, hMk⟩ (by rfl) (by rfl) (fun u hu => ?_)
    obtain ⟨m, C⟩ := u
    obtain ⟨hm, w, hw, hmk⟩ := hu
    dsimp only at hm hw hmk ⊢
    (refine sy1 ?_; try exact True.intro)
    repeat' (first | refine w1g ?_ | refine w1l ?_ | refine w1q ?_ | refine w1b ?_ | refine w1p ?_ | ((first | refine w1r ?_ | refine w1k ?_ | refine w1e ?_); (refine sy1 ?_; try exact True.intro)) | refine an2 ?_ | fail)
    refine W_condD (by rfl) (fun h6 => ?_) (fun h6 => ?_)
    · obtain ⟨m', rfl⟩ : ∃ m', m = m' + 1 := ⟨m - 1, by omega⟩
      have hml : m' < lg.length := by omega
      have htr := take_rev hml
      have hmk := hmk (by omega)
      rw [show m' + 1 - 1 = m' by omega] at hmk
      obtain ⟨x, hx⟩ : ∃ x, lg.getD m' dRs = x := ⟨_, rfl⟩
      rw [hx] at htr hmk
      have ei : (((m' + 1 : Nat) : Int) - 1) = (m' : Int) := by omega
      have hCl : C.length ≤ 10000000 := by
        have := congrArg List.length hw
        rw [List.length_append] at this
        have h8 := chn_len (lg.take M).reverse t
        rw [List.length_reverse, List.length_take] at h8
        omega
      rw [htr, chn_take hmk] at hw
      rw [ei]
      repeat' (first | refine w1g ?_ | refine w1l ?_ | refine w1q ?_ | refine w1b ?_ | refine w1p ?_ | ((first | refine w1r ?_ | refine w1k ?_ | refine w1e ?_); simp (maxSteps := 400000) (disch := omega) only [push_cast, ↓reduceIte, reduceCtorEq, Nat.reduceAdd, Nat.reduceSub, Nat.reduceEqDiff, Nat.reduceLeDiff, Nat.reduceLT, Nat.reduceBEq, Nat.reduceDiv, Nat.reduceMod, Nat.reducePow, Nat.reduceMul, Int.reduceToNat, Int.reduceLT, Int.reduceLE, hx, Int.toNat_natCast]) | refine an2 ?_ | fail)
      refine ⟨rfl, trivial, Rs, dRs, cR, [x], rfl, by omega, fun x _ => ⟨rfl, rfl⟩, rfl, ?_⟩
      (refine sy1 ?_; try exact True.intro)
      refine ⟨rfl, ⟨Nat.le_of_ble_eq_true rfl, rfl⟩, trivial, [x], rfl, by first | omega | (simp; omega), by first | omega | (simp; omega), ?_⟩
      (refine sy1 ?_; try exact True.intro)
      repeat' (first | refine w1g ?_ | refine w1l ?_ | refine w1q ?_ | refine w1b ?_ | refine w1p ?_ | ((first | refine w1r ?_ | refine w1k ?_ | refine w1e ?_); (refine sy1 ?_; try exact True.intro)) | refine an2 ?_ | fail)
      refine W_loopU (fun k : Nat => [(10, iv ((k : Int) - 1))]) (fun k => []) (fun k => k ≤ m' ∧ chn (lg.take m').reverse x.by' = chn (lg.take k).reverse x.by') (fun k => k) m' ⟨Nat.le_refl _, rfl⟩ (by rfl) (by rfl) (fun k hk => ?_)
      obtain ⟨hk, hck⟩ := hk
      obtain ⟨y, hy⟩ : ∃ y, lg.getD ((k : Int) - 1).toNat dRs = y := ⟨_, rfl⟩
      (refine sy1 ?_; try exact True.intro)
      repeat' (first | refine w1g ?_ | refine w1l ?_ | refine w1q ?_ | refine w1b ?_ | refine w1p ?_ | ((first | refine w1r ?_ | refine w1k ?_ | refine w1e ?_); simp (maxSteps := 400000) (disch := omega) only [push_cast, ↓reduceIte, reduceCtorEq, Nat.reduceAdd, Nat.reduceSub, Nat.reduceEqDiff, Nat.reduceLeDiff, Nat.reduceLT, Nat.reduceBEq, Nat.reduceDiv, Nat.reduceMod, Nat.reducePow, Nat.reduceMul, Int.reduceToNat, Int.reduceLT, Int.reduceLE, hy]) | refine an2 ?_ | fail)
      refine W_cond (by rfl) (fun hb => ?_) (fun hb => ?_)
      · simp only [Bool.and_eq_true, decide_eq_true_eq, bne_iff_ne] at hb
        obtain ⟨k', rfl⟩ : ∃ k', k = k' + 1 := ⟨k - 1, by omega⟩
        have htr2 := take_rev (l := lg) (m := k') (by omega)
        rw [show (((k' + 1 : Nat) : Int) - 1).toNat = k' by omega] at hy
        rw [hy] at htr2
        repeat' (first | refine w1g ?_ | refine w1l ?_ | refine w1q ?_ | refine w1b ?_ | refine w1p ?_ | ((first | refine w1r ?_ | refine w1k ?_ | refine w1e ?_); (refine sy1 ?_; try exact True.intro)) | refine an2 ?_ | fail)
        refine ⟨k', ⟨by omega, by rw [hck, htr2, chn_skip hb.2]⟩, by omega, by rfl, ?_⟩
        (refine syE ?_; try exact True.intro)
        first | done | omega
      · have hs : 0 < k → (lg.getD (k - 1) dRs).k = x.by' := fun q => by
          rw [show ((k : Int) - 1).toNat = k - 1 by omega] at hy
          rw [hy]
          rw [decide_eq_true (show (0 : Int) ≤ (k : Int) - 1 by omega), Bool.true_and] at hb
          exact bne_eq_false_iff_eq.1 hb
        repeat' (first | refine w1g ?_ | refine w1l ?_ | refine w1q ?_ | refine w1b ?_ | refine w1p ?_ | ((first | refine w1r ?_ | refine w1k ?_ | refine w1e ?_); (refine sy1 ?_; try exact True.intro)) | refine an2 ?_ | fail)
        refine ⟨(k, C ++ [x]), ⟨by dsimp only; omega, x.by', by dsimp only; rw [hw, hck, List.append_assoc]; rfl, hs⟩, by dsimp only; omega, by rfl, ?_⟩
        dsimp only
        simp (maxSteps := 400000) (disch := omega) only [push_cast, ↓reduceIte, reduceCtorEq, Nat.reduceAdd, Nat.reduceSub, Nat.reduceEqDiff, Nat.reduceLeDiff, Nat.reduceLT, Nat.reduceBEq, Nat.reduceDiv, Nat.reduceMod, Nat.reducePow, Nat.reduceMul, Int.reduceToNat, Int.reduceLT, Int.reduceLE, S.mk.injEq, List.cons.injEq, Prod.mk.injEq, AV.v.injEq, Value.int.injEq, Value.bool.injEq, Blk.cells.injEq, List.length_append, List.length_cons, List.length_nil]
    · obtain rfl : m = 0 := by omega
      have hw : chn (lg.take M).reverse t = C := by rw [hw]; simp [chn]
      rw [hw] at hW
      repeat' (first | refine w1g ?_ | refine w1l ?_ | refine w1q ?_ | refine w1b ?_ | refine w1p ?_ | ((first | refine w1r ?_ | refine w1k ?_ | refine w1e ?_); (refine sy1 ?_; try exact True.intro)) | refine an2 ?_ | fail)
      have hCl : C.length ≤ 1000000 := by have := hW.n; rw [List.length_reverse] at this; omega
      refine CallC.inl (i72 rfl (fun k hk => by simp only [lm]; repeat rw [if_neg (by dsimp only at hk; omega)]) hCl rfl ?_)
      (refine sy1 ?_; try exact True.intro)
      repeat' (first | refine w1g ?_ | refine w1l ?_ | refine w1q ?_ | refine w1b ?_ | refine w1p ?_ | ((first | refine w1r ?_ | refine w1k ?_ | refine w1e ?_); (refine sy1 ?_; try exact True.intro)) | refine an2 ?_ | fail)
      refine W_le (le_frzR 6 [7] [] 64 60 C.length 64 4 dRs cR C.reverse rfl rfl rfl rfl) ?_
      simp (maxSteps := 400000) (disch := omega) only [push_cast, ↓reduceIte, reduceCtorEq, Nat.reduceAdd, Nat.reduceSub, Nat.reduceEqDiff, Nat.reduceLeDiff, Nat.reduceLT, Nat.reduceBEq, Nat.reduceDiv, Nat.reduceMod, Nat.reducePow, Nat.reduceMul, Int.reduceToNat, Int.reduceLT, Int.reduceLE, List.map_cons, List.map_nil, keepM]
      exact W_ret ⟨_, hfin _ hW, [_, _], ⟨rfl, rfl, rfl⟩, rfl⟩
  · obtain ⟨np, lg0, r, x1, x2, x3⟩ := hr.no rfl
    rw [x1] at hLog
    have hW := wh_no hok.toOkJ hLL hcn hLog x3
    rw [← x1] at hW
    obtain ⟨z1, _⟩ := erl_no np
    have hls : lastS e.lg r.k = -1 := by rw [x1, lastS_snoc, if_pos rfl]; exact x2
    have hfin : ∀ P, WhP j L e.lg r.k P → R (.tup [aR P, iv 0]) := fun P hP => by
      have h1 := hmkR P (hmk2 eW P hP.n0 hP.n (cwe P hP.n0 hP.n hP.ok) (fun q => by rw [z1] at q; cases q) (fun _ => by rw [hP.st, hls]))
      rw [eW] at h1
      exact h1
    have hMk0 : 0 < e.lg.length → (e.lg.getD (e.lg.length - 1) dRs).k = r.k := fun _ => by rw [x1, last_snoc]
    clear hmkR hmk1 hmk2 cwe hls z1 np x1 x2 x3 hr hLog hcn c70 hc hpc
    obtain ⟨lg, hlge⟩ : ∃ lg, e.lg = lg := ⟨_, rfl⟩
    rw [hlge] at hlg hek hW hfin hMk0 ⊢
    obtain ⟨M, hMM⟩ : ∃ M : Nat, lg.length = M := ⟨_, rfl⟩
    have hch : chn lg.reverse r.k = chn (lg.take M).reverse r.k := by rw [← hMM, List.take_length]
    rw [hch] at hW
    have hMk : 0 < M → (lg.getD (M - 1) dRs).k = r.k := by rw [← hMM]; exact hMk0
    have hMl : M ≤ lg.length := by omega
    refine W_cond (by rfl) (fun h => by cases h) (fun _ => ?_)
    repeat' (first | refine w1g ?_ | refine w1l ?_ | refine w1q ?_ | refine w1b ?_ | refine w1p ?_ | ((first | refine w1r ?_ | refine w1k ?_ | refine w1e ?_); (refine sy1 ?_; try exact True.intro)) | refine an2 ?_ | fail)
    rw [show AV.v (Value.int IntKind.i64 ((lg.length : Int) - 1)) = iv ((M : Int) - 1) by rw [hMM]]
    refine W_gc [9, 10, 13] [25, 24, 23, 12, 14, 15] 60 (by rfl) ?_
    simp (maxSteps := 400000) (disch := omega) only [push_cast, ↓reduceIte, reduceCtorEq, Nat.reduceAdd, Nat.reduceSub, Nat.reduceEqDiff, Nat.reduceLeDiff, Nat.reduceLT, Nat.reduceBEq, Nat.reduceDiv, Nat.reduceMod, Nat.reducePow, Nat.reduceMul, Int.reduceToNat, Int.reduceLT, Int.reduceLE, S.norm, List.map_cons, List.map_nil, keepM]
    refine W_le (le_adopt 13 64 4 dRs cR (by omega) rfl) ?_
    (refine sy1 ?_; try exact True.intro)
    refine W_loopU (fun u : Nat × List Rs => [(10, iv ((u.1 : Int) - 1)), (13, .row 60 u.2.length)]) (fun u => [(60, .row u.2.length 64 4 dRs cR u.2)]) (fun u => u.1 ≤ M ∧ ∃ w, chn (lg.take M).reverse r.k = u.2 ++ chn (lg.take u.1).reverse w ∧ (0 < u.1 → (lg.getD (u.1 - 1) dRs).k = w)) (fun u => u.1) (M, []) ⟨Nat.le_refl _, r.k, rfl, hMk⟩ (by rfl) (by rfl) (fun u hu => ?_)
    obtain ⟨m, C⟩ := u
    obtain ⟨hm, w, hw, hmk⟩ := hu
    dsimp only at hm hw hmk ⊢
    (refine sy1 ?_; try exact True.intro)
    repeat' (first | refine w1g ?_ | refine w1l ?_ | refine w1q ?_ | refine w1b ?_ | refine w1p ?_ | ((first | refine w1r ?_ | refine w1k ?_ | refine w1e ?_); (refine sy1 ?_; try exact True.intro)) | refine an2 ?_ | fail)
    refine W_condD (by rfl) (fun h6 => ?_) (fun h6 => ?_)
    · obtain ⟨m', rfl⟩ : ∃ m', m = m' + 1 := ⟨m - 1, by omega⟩
      have hml : m' < lg.length := by omega
      have htr := take_rev hml
      have hmk := hmk (by omega)
      rw [show m' + 1 - 1 = m' by omega] at hmk
      obtain ⟨x, hx⟩ : ∃ x, lg.getD m' dRs = x := ⟨_, rfl⟩
      rw [hx] at htr hmk
      have ei : (((m' + 1 : Nat) : Int) - 1) = (m' : Int) := by omega
      have hCl : C.length ≤ 10000000 := by
        have := congrArg List.length hw
        rw [List.length_append] at this
        have h8 := chn_len (lg.take M).reverse r.k
        rw [List.length_reverse, List.length_take] at h8
        omega
      rw [htr, chn_take hmk] at hw
      rw [ei]
      repeat' (first | refine w1g ?_ | refine w1l ?_ | refine w1q ?_ | refine w1b ?_ | refine w1p ?_ | ((first | refine w1r ?_ | refine w1k ?_ | refine w1e ?_); simp (maxSteps := 400000) (disch := omega) only [push_cast, ↓reduceIte, reduceCtorEq, Nat.reduceAdd, Nat.reduceSub, Nat.reduceEqDiff, Nat.reduceLeDiff, Nat.reduceLT, Nat.reduceBEq, Nat.reduceDiv, Nat.reduceMod, Nat.reducePow, Nat.reduceMul, Int.reduceToNat, Int.reduceLT, Int.reduceLE, hx, Int.toNat_natCast]) | refine an2 ?_ | fail)
      refine ⟨rfl, trivial, Rs, dRs, cR, [x], rfl, by omega, fun x _ => ⟨rfl, rfl⟩, rfl, ?_⟩
      (refine sy1 ?_; try exact True.intro)
      refine ⟨rfl, ⟨Nat.le_of_ble_eq_true rfl, rfl⟩, trivial, [x], rfl, by first | omega | (simp; omega), by first | omega | (simp; omega), ?_⟩
      (refine sy1 ?_; try exact True.intro)
      repeat' (first | refine w1g ?_ | refine w1l ?_ | refine w1q ?_ | refine w1b ?_ | refine w1p ?_ | ((first | refine w1r ?_ | refine w1k ?_ | refine w1e ?_); (refine sy1 ?_; try exact True.intro)) | refine an2 ?_ | fail)
      refine W_loopU (fun k : Nat => [(10, iv ((k : Int) - 1))]) (fun k => []) (fun k => k ≤ m' ∧ chn (lg.take m').reverse x.by' = chn (lg.take k).reverse x.by') (fun k => k) m' ⟨Nat.le_refl _, rfl⟩ (by rfl) (by rfl) (fun k hk => ?_)
      obtain ⟨hk, hck⟩ := hk
      obtain ⟨y, hy⟩ : ∃ y, lg.getD ((k : Int) - 1).toNat dRs = y := ⟨_, rfl⟩
      (refine sy1 ?_; try exact True.intro)
      repeat' (first | refine w1g ?_ | refine w1l ?_ | refine w1q ?_ | refine w1b ?_ | refine w1p ?_ | ((first | refine w1r ?_ | refine w1k ?_ | refine w1e ?_); simp (maxSteps := 400000) (disch := omega) only [push_cast, ↓reduceIte, reduceCtorEq, Nat.reduceAdd, Nat.reduceSub, Nat.reduceEqDiff, Nat.reduceLeDiff, Nat.reduceLT, Nat.reduceBEq, Nat.reduceDiv, Nat.reduceMod, Nat.reducePow, Nat.reduceMul, Int.reduceToNat, Int.reduceLT, Int.reduceLE, hy]) | refine an2 ?_ | fail)
      refine W_cond (by rfl) (fun hb => ?_) (fun hb => ?_)
      · simp only [Bool.and_eq_true, decide_eq_true_eq, bne_iff_ne] at hb
        obtain ⟨k', rfl⟩ : ∃ k', k = k' + 1 := ⟨k - 1, by omega⟩
        have htr2 := take_rev (l := lg) (m := k') (by omega)
        rw [show (((k' + 1 : Nat) : Int) - 1).toNat = k' by omega] at hy
        rw [hy] at htr2
        repeat' (first | refine w1g ?_ | refine w1l ?_ | refine w1q ?_ | refine w1b ?_ | refine w1p ?_ | ((first | refine w1r ?_ | refine w1k ?_ | refine w1e ?_); (refine sy1 ?_; try exact True.intro)) | refine an2 ?_ | fail)
        refine ⟨k', ⟨by omega, by rw [hck, htr2, chn_skip hb.2]⟩, by omega, by rfl, ?_⟩
        (refine syE ?_; try exact True.intro)
        first | done | omega
      · have hs : 0 < k → (lg.getD (k - 1) dRs).k = x.by' := fun q => by
          rw [show ((k : Int) - 1).toNat = k - 1 by omega] at hy
          rw [hy]
          rw [decide_eq_true (show (0 : Int) ≤ (k : Int) - 1 by omega), Bool.true_and] at hb
          exact bne_eq_false_iff_eq.1 hb
        repeat' (first | refine w1g ?_ | refine w1l ?_ | refine w1q ?_ | refine w1b ?_ | refine w1p ?_ | ((first | refine w1r ?_ | refine w1k ?_ | refine w1e ?_); (refine sy1 ?_; try exact True.intro)) | refine an2 ?_ | fail)
        refine ⟨(k, C ++ [x]), ⟨by dsimp only; omega, x.by', by dsimp only; rw [hw, hck, List.append_assoc]; rfl, hs⟩, by dsimp only; omega, by rfl, ?_⟩
        dsimp only
        simp (maxSteps := 400000) (disch := omega) only [push_cast, ↓reduceIte, reduceCtorEq, Nat.reduceAdd, Nat.reduceSub, Nat.reduceEqDiff, Nat.reduceLeDiff, Nat.reduceLT, Nat.reduceBEq, Nat.reduceDiv, Nat.reduceMod, Nat.reducePow, Nat.reduceMul, Int.reduceToNat, Int.reduceLT, Int.reduceLE, S.mk.injEq, List.cons.injEq, Prod.mk.injEq, AV.v.injEq, Value.int.injEq, Value.bool.injEq, Blk.cells.injEq, List.length_append, List.length_cons, List.length_nil]
    · obtain rfl : m = 0 := by omega
      have hw : chn (lg.take M).reverse r.k = C := by rw [hw]; simp [chn]
      rw [hw] at hW
      repeat' (first | refine w1g ?_ | refine w1l ?_ | refine w1q ?_ | refine w1b ?_ | refine w1p ?_ | ((first | refine w1r ?_ | refine w1k ?_ | refine w1e ?_); (refine sy1 ?_; try exact True.intro)) | refine an2 ?_ | fail)
      have hCl : C.length ≤ 1000000 := by have := hW.n; rw [List.length_reverse] at this; omega
      refine CallC.inl (i72 rfl (fun k hk => by simp only [lm]; repeat rw [if_neg (by dsimp only at hk; omega)]) hCl rfl ?_)
      (refine sy1 ?_; try exact True.intro)
      repeat' (first | refine w1g ?_ | refine w1l ?_ | refine w1q ?_ | refine w1b ?_ | refine w1p ?_ | ((first | refine w1r ?_ | refine w1k ?_ | refine w1e ?_); (refine sy1 ?_; try exact True.intro)) | refine an2 ?_ | fail)
      refine W_le (le_frzR 6 [7] [] 64 60 C.length 64 4 dRs cR C.reverse rfl rfl rfl rfl) ?_
      simp (maxSteps := 400000) (disch := omega) only [push_cast, ↓reduceIte, reduceCtorEq, Nat.reduceAdd, Nat.reduceSub, Nat.reduceEqDiff, Nat.reduceLeDiff, Nat.reduceLT, Nat.reduceBEq, Nat.reduceDiv, Nat.reduceMod, Nat.reducePow, Nat.reduceMul, Int.reduceToNat, Int.reduceLT, Int.reduceLE, List.map_cons, List.map_nil, keepM]
      exact W_ret ⟨_, hfin _ hW, [_, _], ⟨rfl, rfl, rfl⟩, rfl⟩
end Go.Proofs.Ytoiohkjomcbadaa

namespace Go.Proofs.Ytoiohkjomcbadaa
open Go Sy
set_option linter.unusedVariables false
theorem circ_plan {j : Jb} {L : List Af} {c : List Int} (h : okC L c = true) : ¬ ∃ p, Rgt j.ts L p := fun ⟨p, hp⟩ => by
  unfold okC at h
  rw [Bool.and_eq_true, List.all_eq_true, decide_eq_true_eq] at h
  obtain ⟨h1, h2⟩ := h
  have hst : ∀ i, i < c.length → p (gi c i).toNat + (bO L (gi c i) (cyO c i)).getD 0 ≤ p (cyO c i).toNat := fun i hi => by
    have h3 := h1 i (List.mem_range.2 hi)
    unfold gdC at h3
    rw [Bool.and_eq_true] at h3
    cases q : bO L (gi c i) (cyO c i) with
    | none => rw [q] at h3; exact absurd h3.1 (by decide)
    | some z =>
      obtain ⟨e, he, e1, e2, e3⟩ := bO_mem q
      have := hp.l e he
      rw [e1, e2, e3] at this
      exact this
  have hsum : ∀ i, i < c.length → smC L c i ≤ p (gi c i).toNat - p (gi c 0).toNat := fun i => by
    induction i with
    | zero => intro _; show (0 : Int) ≤ _; omega
    | succ i ih =>
      intro hi
      have h4 := ih (by omega)
      have h5 := hst i (by omega)
      have h6 : cyO c i = gi c (i + 1) := by unfold cyO; rw [Nat.mod_eq_of_lt hi]
      rw [smC_succ]
      rw [h6] at h5 ⊢
      omega
  rcases Nat.eq_zero_or_pos c.length with q | q
  · rw [q] at h2; exact absurd (show (0 : Int) < 0 from h2) (by decide)
  · obtain ⟨m, hm⟩ : ∃ m, c.length = m + 1 := ⟨c.length - 1, by omega⟩
    have h4 := hsum m (by omega)
    have h5 := hst m (by omega)
    have h6 : cyO c m = gi c 0 := by unfold cyO; rw [hm, Nat.mod_self]
    rw [hm, smC_succ] at h2
    rw [h6] at h5 h2
    omega
theorem why_plan {j : Jb} {L : List Af} (h : OkJ j) (hL : ∀ a ∈ L, LkOk j.ts.length a) {lg : List Rs} (hw : cwB j L lg = true) {p : Nat → Int} (hp : Rgt j.ts L p) : ∀ i, i < lg.length → 0 ≤ (lg.getD i dRs).st ∧ (lg.getD i dRs).st ≤ p (lg.getD i dRs).k.toNat := by
  unfold cwB at hw
  rw [List.all_eq_true] at hw
  intro i
  induction i using Nat.strongRecOn with
  | ind i ih =>
    intro hi
    have h1 := hw i (List.mem_range.2 hi)
    rw [Bool.and_eq_true] at h1
    have hrs := h1.1
    have hpre : ∀ r ∈ lg.take i, r.st ≤ p r.k.toNat := fun r hr => by
      rw [List.mem_take_iff_getElem] at hr
      obtain ⟨k, hk, e⟩ := hr
      have := (ih k (by omega) (by omega)).2
      rw [show lg.getD k dRs = r by rw [List.getD_eq_getElem?_getD, List.getElem?_eq_getElem (by omega)]; exact e] at this
      exact this
    generalize lg.getD i dRs = r at *
    unfold rsB at hrs
    simp only [Bool.and_eq_true, decide_eq_true_eq, beq_iff_eq] at hrs
    obtain ⟨⟨⟨k1, k2⟩, f1, f2⟩, g1⟩ := hrs
    have hkn : r.k.toNat < j.ts.length := by omega
    have hk := (h.t _ hkn).1
    have hpk := rgt_pos h hp hkn
    have hfr : r.fr ≤ p r.k.toNat := by
      split at g1
      · have : r.fr = 0 := by simpa using g1
        omega
      · rename_i hb
        rw [Bool.and_eq_true, decide_eq_true_eq] at g1
        obtain ⟨g1, g2⟩ := g1
        unfold lkB at g2
        rw [List.any_eq_true] at g2
        obtain ⟨e, he, g2⟩ := g2
        simp only [Bool.and_eq_true, beq_iff_eq] at g2
        obtain ⟨⟨e1, e2⟩, e3⟩ := g2
        have h3 := hp.l e he
        obtain ⟨a1, a2, _⟩ := hL e he
        have h4 := rgt_pos h hp (i := e.a.toNat) (by omega)
        have h5 : mxS (lg.take i) r.by' ≤ p e.a.toNat := mxS_le (by omega) fun x hx hxk => by
          have := hpre x hx
          rw [hxk, ← e1] at this
          exact this
        rw [e2] at h3
        omega
    have := fst_least hk.2.2 (Int.le_refl 0) hk.1 hfr (hp.f _ hkn)
    rw [f2]
    exact this
theorem acc_circ {j : Jb} {o : List (List Int)} {c : List Int} (ho : chkO j o = 0) (h : ccE j o c = 0) : eaE j o = 15 := by
  unfold ccE at h
  rw [if_pos ho] at h
  split at h
  · cases h
  split at h
  · rename_i hc
    have hn := circ_plan (j := j) hc
    unfold eaE
    rw [if_pos ho, (erl_no hn).1]
    rfl
  · cases h
theorem ea_cases {j : Jb} {o : List (List Int)} (ho : chkO j o = 0) : (eaE j o = 0 ∧ erlB j (lks j o) = true ∧ eaL j o = erlL j (lks j o)) ∨ (eaE j o = 15 ∧ erlB j (lks j o) = false) := by
  have e1 : eaE j o = if erlB j (lks j o) = true then 0 else 15 := by unfold eaE; rw [if_pos ho]
  have e2 : eaL j o = erlL j (lks j o) := by unfold eaL; rw [if_pos ho]
  cases q : erlB j (lks j o)
  · right; exact ⟨by rw [e1, q]; rfl, rfl⟩
  · left; exact ⟨by rw [e1, q]; rfl, rfl, e2⟩
theorem acc_why {j : Jb} {o : List (List Int)} {lg : List Rs} (ho : chkO j o = 0) (h : cwE j o lg = 0) : 0 < lg.length ∧ (0 ≤ (lg.getD (lg.length - 1) dRs).k ∧ (lg.getD (lg.length - 1) dRs).k < j.ts.length) ∧ (eaE j o = 0 → 0 ≤ (lg.getD (lg.length - 1) dRs).st ∧ (lg.getD (lg.length - 1) dRs).st ≤ gi (eaL j o) (lg.getD (lg.length - 1) dRs).k.toNat) := by
  have hok := (chkO_ok ho).1
  unfold cwE at h
  rw [if_pos ho] at h
  split at h
  · cases h
  split at h
  · cases h
  rename_i h20 hl0
  split at h
  rotate_left
  · cases h
  rename_i hw
  have hl : 0 < lg.length := by omega
  have h1 := hw
  unfold cwB at h1
  rw [List.all_eq_true] at h1
  have h2 := h1 (lg.length - 1) (List.mem_range.2 (by omega))
  rw [Bool.and_eq_true] at h2
  refine ⟨hl, (rsB_st hok.toOkJ h2.1).2, fun he => ?_⟩
  obtain ⟨f1, f2, f3⟩ := ea_ok ho he
  exact why_plan hok.toOkJ (lks_lk' hok) hw f2 _ (by omega)
theorem pos_ea {j : Jb} {o : List (List Int)} (ho : chkO j o = 0) (he : eaE j o = 0) : posB j.ts.length (lkL (lks j o)) = false := by
  have hok := (chkO_ok ho).1
  rw [← Bool.not_eq_true, pos_can (lks_lk' hok) hok.n]
  intro hc
  exact can_no (lks_lk' hok) hc ⟨_, (ea_ok ho he).2.1⟩
end Go.Proofs.Ytoiohkjomcbadaa

namespace Go.Proofs.Ytoiohkjomcbadaa
open Go Sy
set_option maxRecDepth 100000
set_option maxHeartbeats 4000000
set_option linter.unusedVariables false
set_option linter.unusedSimpArgs false
theorem val_ok {j : Jb} {o : List (List Int)} (h : valB j o = true) : Gj j ∧ Go' o ∧ chkO j o = 0 ∧ j.ts.length ≤ 8 := by
  unfold valB at h
  simp only [Bool.and_eq_true, Bool.not_eq_true', decide_eq_true_eq] at h
  obtain ⟨⟨h1, h2⟩, h3⟩ := h
  have h4 := chkO_ok h3
  exact ⟨(grt_ok h1).1, wid_ok h2, h3, (grt_ok h1).2 h4.2⟩
end Go.Proofs.Ytoiohkjomcbadaa

namespace Go.Proofs.Ytoiohkjomcbadaa
open Go Sy
set_option maxRecDepth 100000
set_option maxHeartbeats 4000000
set_option linter.unusedVariables false
set_option linter.unusedSimpArgs false
theorem fn7 (j : Jb) (o : List (List Int)) (lg : List Rs) (c : List Int) (u : Int) (hu : 0 ≤ u ∧ u ≤ 255) (h1 : j.ts.length ≤ 140737488355328) (h2 : o.length ≤ 140737488355328) (h3 : lg.length ≤ 140737488355328) (h4 : c.length ≤ 140737488355328) : Sy.Fn Try.prog 7 [aJ j, aO o, aR lg, aI c, .v (.int .u8 u)] (bv true) := by
  refine Fn_of_W mixed Xt7 rfl ?_
  have c13 := fn13
  have c12 := fn12 j o h1 h2
  by_cases hq : valB j o = true ∧ lg.length ≤ 100 ∧ c.length ≤ 60
  rotate_left
  · have e : (!valB j o || decide ((100 : Int) < (lg.length : Int)) || decide ((60 : Int) < (c.length : Int))) = true := by
      cases hv : valB j o
      · rfl
      · simp only [Bool.not_true, Bool.false_or, Bool.or_eq_true, decide_eq_true_eq]
        have : ¬ (lg.length ≤ 100 ∧ c.length ≤ 60) := fun z => hq ⟨hv, z⟩
        omega
    generalize valB j o = b at *
    repeat' (first | refine w1g ?_ | refine w1l ?_ | refine w1q ?_ | refine w1b ?_ | refine w1p ?_ | ((first | refine w1r ?_ | refine w1k ?_ | refine w1e ?_ | refine CallC.now (c12) ?_); (refine sy1 ?_; try exact True.intro)) | refine an2 ?_ | fail)
    rw [e]
    refine W_cond (by rfl) (fun _ => ?_) (fun h => by cases h)
    repeat' (first | refine w1g ?_ | refine w1l ?_ | refine w1q ?_ | refine w1b ?_ | refine w1p ?_ | ((first | refine w1r ?_ | refine w1k ?_ | refine w1e ?_ | refine CallC.now (c13) ?_); (refine sy1 ?_; try exact True.intro)) | refine an2 ?_ | fail)
    exact W_ret ⟨[_], ⟨rfl, rfl⟩, rfl⟩
  obtain ⟨hv, q3, q4⟩ := hq
  obtain ⟨hG, hO, ho, hn8⟩ := val_ok hv
  have hok := (chkO_ok ho).1
  rw [hv] at c12
  have e1 : decide ((100 : Int) < (lg.length : Int)) = false := decide_eq_false (by omega)
  have e2 : decide ((60 : Int) < (c.length : Int)) = false := decide_eq_false (by omega)
  have c14 := fn14 j o hG hO
  have c26 := fn26 j o c hG hO (by omega)
  have c24 := fn24 j o lg hG hO (by omega)
  have hac := acc_circ (c := c) ho
  have haw := acc_why (lg := lg) ho
  have hn0 := hok.n0
  have hal : eaE j o = 0 → (eaL j o).length = j.ts.length := fun q => (ea_ok ho q).1
  have hec := ea_cases ho
  have hpe := pos_ea ho
  repeat' (first | refine w1g ?_ | refine w1l ?_ | refine w1q ?_ | refine w1b ?_ | refine w1p ?_ | ((first | refine w1r ?_ | refine w1k ?_ | refine w1e ?_ | refine CallC.now (c12) ?_); simp (maxSteps := 400000) (disch := omega) only [push_cast, ↓reduceIte, reduceCtorEq, Nat.reduceAdd, Nat.reduceSub, Nat.reduceEqDiff, Nat.reduceLeDiff, Nat.reduceLT, Nat.reduceBEq, Nat.reduceDiv, Nat.reduceMod, Nat.reducePow, Nat.reduceMul, Int.reduceToNat, Int.reduceLT, Int.reduceLE, e1, e2]) | refine an2 ?_ | fail)
  refine W_cond (by rfl) (fun h => by cases h) (fun _ => ?_)
  have hcc1 : (ccE j o c == 0 && eaE j o != 15) = false := by
    by_cases q : ccE j o c = 0
    · rw [hac q]; simp
    · rw [beq_eq_false_iff_ne.2 q]; rfl
  have c24b := c24
  generalize hEA : eaE j o = EA at *
  generalize hEL : eaL j o = EL at *
  generalize ccE j o c = E1 at *
  repeat' (first | refine w1g ?_ | refine w1l ?_ | refine w1q ?_ | refine w1b ?_ | refine w1p ?_ | ((first | refine w1r ?_ | refine w1k ?_ | refine w1e ?_ | refine CallC.now (c14) ?_ | refine CallC.now (c26) ?_); simp (maxSteps := 400000) (disch := omega) only [push_cast, ↓reduceIte, reduceCtorEq, Nat.reduceAdd, Nat.reduceSub, Nat.reduceEqDiff, Nat.reduceLeDiff, Nat.reduceLT, Nat.reduceBEq, Nat.reduceDiv, Nat.reduceMod, Nat.reducePow, Nat.reduceMul, Int.reduceToNat, Int.reduceLT, Int.reduceLE, hcc1]) | refine an2 ?_ | fail)
  refine W_cond (by rfl) (fun h => by cases h) (fun _ => ?_)
  repeat' (first | refine w1g ?_ | refine w1l ?_ | refine w1q ?_ | refine w1b ?_ | refine w1p ?_ | ((first | refine w1r ?_ | refine w1k ?_ | refine w1e ?_ | refine CallC.now (c24) ?_); (refine sy1 ?_; try exact True.intro)) | refine an2 ?_ | fail)
  by_cases hcw : cwE j o lg = 0
  · obtain ⟨hl0, hk, hst⟩ := haw hcw
    obtain ⟨r, hr⟩ : ∃ r, lg.getD (lg.length - 1) dRs = r := ⟨_, rfl⟩
    rw [hr] at hk hst
    rw [show (cwE j o lg == 0 && decide ((0 : Int) < (lg.length : Int))) = true by rw [hcw, decide_eq_true (show (0 : Int) < (lg.length : Int) by omega)]; rfl]
    have hli : ((lg.length : Int) - 1).toNat = lg.length - 1 := by omega
    refine W_cond (by rfl) (fun _ => ?_) (fun h => by cases h)
    have hgk : EL.getD r.k.toNat 0 = gi EL r.k.toNat := rfl
    repeat' (first | refine w1g ?_ | refine w1l ?_ | refine w1q ?_ | refine w1b ?_ | refine w1p ?_ | ((first | refine w1r ?_ | refine w1k ?_ | refine w1e ?_); simp (maxSteps := 400000) (disch := omega) only [push_cast, ↓reduceIte, reduceCtorEq, Nat.reduceAdd, Nat.reduceSub, Nat.reduceEqDiff, Nat.reduceLeDiff, Nat.reduceLT, Nat.reduceBEq, Nat.reduceDiv, Nat.reduceMod, Nat.reducePow, Nat.reduceMul, Int.reduceToNat, Int.reduceLT, Int.reduceLE, hli, hr, hgk]) | refine an2 ?_ | fail)
    refine W_cond (by rfl) (fun hb => ?_) (fun _ => ?_)
    · exfalso
      simp only [Bool.or_eq_true, Bool.and_eq_true, decide_eq_true_eq, beq_iff_eq, bne_iff_ne] at hb
      rcases hec with ⟨hE, hb2, hl⟩ | ⟨hE, hb2⟩
      · have h5 := hst hE
        have h6 := hal hE
        omega
      · omega
    have hdv : ¬ (j.ts.length : Int) = 0 := by omega
    have hwu : IntKind.i64.wrap u = u := wrap64 ⟨by omega, by omega⟩
    obtain ⟨t, ht⟩ : ∃ t, u.tmod (j.ts.length : Int) = t := ⟨_, rfl⟩
    have ht0 : 0 ≤ t ∧ t < (j.ts.length : Int) := by
      rw [← ht, Int.tmod_eq_emod_of_nonneg hu.1]
      exact ⟨Int.emod_nonneg _ (by omega), Int.emod_lt_of_pos _ (by omega)⟩
    have c28 := fs28 j o t hG hO
    obtain ⟨C, c29, hC0, hC1, hCl⟩ := fn29 j o hG hO
    have c26C := fn26 j o C hG hO (by omega)
    have c24P := fun P hP => fn24 j o P hG hO hP
    have hwy : wyE j o t = if posB j.ts.length (lkL (lks j o)) = true then 16 else 0 := by
      unfold wyE; rw [if_pos ho, if_neg (by omega)]
    have hci : ciE j o = if posB j.ts.length (lkL (lks j o)) = true then 0 else 15 := by unfold ciE; rw [if_pos ho]
    rcases hec with ⟨hE, hb, hl⟩ | ⟨hE, hb⟩
    · subst hE
      have hpo := hpe rfl
      rw [hpo] at hwy hci
      rw [if_neg (by decide)] at hwy hci
      rw [hci] at c29
      have hPf : ∀ P, WhyP j o t P → P.length ≤ 20000 ∧ 0 < P.length ∧ cwE j o P = 0 ∧ (P.getD (P.length - 1) dRs).k = t ∧ (P.getD (P.length - 1) dRs).st = gi EL t.toNat := fun P hP => by
        obtain ⟨a1, a2⟩ := hP.ok hwy
        obtain ⟨a3, a4⟩ := hP.ys hwy hb
        exact ⟨hP.n, a1, a2, a3, by rw [a4, hl]⟩
      have hal := hal rfl
      rw [hwy] at c28
      generalize WhyP j o t = WP at *
      repeat' (first | refine w1g ?_ | refine w1l ?_ | refine w1q ?_ | refine w1b ?_ | refine w1p ?_ | ((first | refine w1r ?_ | refine w1k ?_ | refine w1e ?_); simp (maxSteps := 400000) (disch := omega) only [push_cast, ↓reduceIte, reduceCtorEq, Nat.reduceAdd, Nat.reduceSub, Nat.reduceEqDiff, Nat.reduceLeDiff, Nat.reduceLT, Nat.reduceBEq, Nat.reduceDiv, Nat.reduceMod, Nat.reducePow, Nat.reduceMul, Int.reduceToNat, Int.reduceLT, Int.reduceLE, hwu, ht]) | refine an2 ?_ | fail)
      refine CallC.inl (Inl_of_FnS c28 (by rfl) (fun r hr => ?_))
      obtain ⟨P, rfl, hP⟩ := hr
      obtain ⟨p1, p2, p3, p4, p5⟩ := hPf P hP
      have c24P := c24P P (by omega)
      rw [p3] at c24P
      obtain ⟨x, hx⟩ : ∃ x, P.getD (P.length - 1) dRs = x := ⟨_, rfl⟩
      rw [hx] at p4 p5
      have hpi : ((P.length : Int) - 1).toNat = P.length - 1 := by omega
      have hp0 : ((P.length : Int) == 0) = false := beq_eq_false_iff_ne.2 (by omega)
      have hgt : EL.getD t.toNat 0 = gi EL t.toNat := rfl
      (refine sy1 ?_; try exact True.intro)
      repeat' (first | refine w1g ?_ | refine w1l ?_ | refine w1q ?_ | refine w1b ?_ | refine w1p ?_ | ((first | refine w1r ?_ | refine w1k ?_ | refine w1e ?_ | refine CallC.now (c29) ?_ | refine CallC.now (c24P) ?_ | refine CallC.now (c26C) ?_); simp (maxSteps := 400000) (disch := omega) only [push_cast, ↓reduceIte, reduceCtorEq, Nat.reduceAdd, Nat.reduceSub, Nat.reduceEqDiff, Nat.reduceLeDiff, Nat.reduceLT, Nat.reduceBEq, Nat.reduceDiv, Nat.reduceMod, Nat.reducePow, Nat.reduceMul, Int.reduceToNat, Int.reduceLT, Int.reduceLE, hp0, hpi, hx]) | refine an2 ?_ | fail)
      refine W_cond (by rfl) (fun h => by cases h) (fun _ => ?_)
      repeat' (first | refine w1g ?_ | refine w1l ?_ | refine w1q ?_ | refine w1b ?_ | refine w1p ?_ | ((first | refine w1r ?_ | refine w1k ?_ | refine w1e ?_); (refine sy1 ?_; try exact True.intro)) | refine an2 ?_ | fail)
      refine W_cond (by rfl) (fun _ => ?_) (fun h => by cases h)
      repeat' (first | refine w1g ?_ | refine w1l ?_ | refine w1q ?_ | refine w1b ?_ | refine w1p ?_ | ((first | refine w1r ?_ | refine w1k ?_ | refine w1e ?_ | refine CallC.now (c13) ?_); simp (maxSteps := 400000) (disch := omega) only [push_cast, ↓reduceIte, reduceCtorEq, Nat.reduceAdd, Nat.reduceSub, Nat.reduceEqDiff, Nat.reduceLeDiff, Nat.reduceLT, Nat.reduceBEq, Nat.reduceDiv, Nat.reduceMod, Nat.reducePow, Nat.reduceMul, Int.reduceToNat, Int.reduceLT, Int.reduceLE, hp0, hpi, hx, hgt, hal, p4, p5, beq_self_eq_true]) | refine an2 ?_ | fail)
      exact W_ret ⟨[_], ⟨rfl, rfl⟩, rfl⟩
    · subst hE
      cases hpo : posB j.ts.length (lkL (lks j o)) with
      | false =>
        rw [hpo, if_neg (by decide)] at hwy hci
        rw [hci] at c29
        have hCn := hC1 (by rw [hci]; decide)
        subst hCn
        have hPf : ∀ P, WhyP j o t P → P.length ≤ 20000 ∧ 0 < P.length ∧ cwE j o P = 0 ∧ (P.getD (P.length - 1) dRs).st = -1 := fun P hP => by
          obtain ⟨a1, a2⟩ := hP.ok hwy
          exact ⟨hP.n, a1, a2, hP.ne hwy hb⟩
        rw [hwy] at c28
        generalize WhyP j o t = WP at *
        repeat' (first | refine w1g ?_ | refine w1l ?_ | refine w1q ?_ | refine w1b ?_ | refine w1p ?_ | ((first | refine w1r ?_ | refine w1k ?_ | refine w1e ?_); simp (maxSteps := 400000) (disch := omega) only [push_cast, ↓reduceIte, reduceCtorEq, Nat.reduceAdd, Nat.reduceSub, Nat.reduceEqDiff, Nat.reduceLeDiff, Nat.reduceLT, Nat.reduceBEq, Nat.reduceDiv, Nat.reduceMod, Nat.reducePow, Nat.reduceMul, Int.reduceToNat, Int.reduceLT, Int.reduceLE, hwu, ht]) | refine an2 ?_ | fail)
        refine CallC.inl (Inl_of_FnS c28 (by rfl) (fun r hr => ?_))
        obtain ⟨P, rfl, hP⟩ := hr
        obtain ⟨p1, p2, p3, p5⟩ := hPf P hP
        have c24P := c24P P (by omega)
        rw [p3] at c24P
        obtain ⟨x, hx⟩ : ∃ x, P.getD (P.length - 1) dRs = x := ⟨_, rfl⟩
        rw [hx] at p5
        have hpi : ((P.length : Int) - 1).toNat = P.length - 1 := by omega
        have hp0 : ((P.length : Int) == 0) = false := beq_eq_false_iff_ne.2 (by omega)
        (refine sy1 ?_; try exact True.intro)
        repeat' (first | refine w1g ?_ | refine w1l ?_ | refine w1q ?_ | refine w1b ?_ | refine w1p ?_ | ((first | refine w1r ?_ | refine w1k ?_ | refine w1e ?_ | refine CallC.now (c29) ?_ | refine CallC.now (c24P) ?_ | refine CallC.now (c26C) ?_); simp (maxSteps := 400000) (disch := omega) only [push_cast, ↓reduceIte, reduceCtorEq, Nat.reduceAdd, Nat.reduceSub, Nat.reduceEqDiff, Nat.reduceLeDiff, Nat.reduceLT, Nat.reduceBEq, Nat.reduceDiv, Nat.reduceMod, Nat.reducePow, Nat.reduceMul, Int.reduceToNat, Int.reduceLT, Int.reduceLE, hp0, hpi, hx]) | refine an2 ?_ | fail)
        refine W_cond (by rfl) (fun h => by cases h) (fun _ => ?_)
        repeat' (first | refine w1g ?_ | refine w1l ?_ | refine w1q ?_ | refine w1b ?_ | refine w1p ?_ | ((first | refine w1r ?_ | refine w1k ?_ | refine w1e ?_); (refine sy1 ?_; try exact True.intro)) | refine an2 ?_ | fail)
        refine W_cond (by rfl) (fun h => by cases h) (fun _ => ?_)
        repeat' (first | refine w1g ?_ | refine w1l ?_ | refine w1q ?_ | refine w1b ?_ | refine w1p ?_ | ((first | refine w1r ?_ | refine w1k ?_ | refine w1e ?_ | refine CallC.now (c13) ?_); simp (maxSteps := 400000) (disch := omega) only [push_cast, ↓reduceIte, reduceCtorEq, Nat.reduceAdd, Nat.reduceSub, Nat.reduceEqDiff, Nat.reduceLeDiff, Nat.reduceLT, Nat.reduceBEq, Nat.reduceDiv, Nat.reduceMod, Nat.reducePow, Nat.reduceMul, Int.reduceToNat, Int.reduceLT, Int.reduceLE, hp0, hpi, hx, p5, beq_self_eq_true]) | refine an2 ?_ | fail)
        exact W_ret ⟨[_], ⟨rfl, rfl⟩, rfl⟩
      | true =>
        rw [hpo, if_pos rfl] at hwy hci
        have hCk := hC0 hci
        rw [hCk] at c26C
        rw [hci] at c29
        have hPf : ∀ P, WhyP j o t P → P = [] := fun P hP => hP.no (by rw [hwy]; decide)
        rw [hwy] at c28
        generalize WhyP j o t = WP at *
        repeat' (first | refine w1g ?_ | refine w1l ?_ | refine w1q ?_ | refine w1b ?_ | refine w1p ?_ | ((first | refine w1r ?_ | refine w1k ?_ | refine w1e ?_); simp (maxSteps := 400000) (disch := omega) only [push_cast, ↓reduceIte, reduceCtorEq, Nat.reduceAdd, Nat.reduceSub, Nat.reduceEqDiff, Nat.reduceLeDiff, Nat.reduceLT, Nat.reduceBEq, Nat.reduceDiv, Nat.reduceMod, Nat.reducePow, Nat.reduceMul, Int.reduceToNat, Int.reduceLT, Int.reduceLE, hwu, ht]) | refine an2 ?_ | fail)
        refine CallC.inl (Inl_of_FnS c28 (by rfl) (fun r hr => ?_))
        obtain ⟨P, rfl, hP⟩ := hr
        obtain rfl := hPf P hP
        have c24P := c24P [] (by decide)
        generalize cwE j o [] = E7 at *
        (refine sy1 ?_; try exact True.intro)
        repeat' (first | refine w1g ?_ | refine w1l ?_ | refine w1q ?_ | refine w1b ?_ | refine w1p ?_ | ((first | refine w1r ?_ | refine w1k ?_ | refine w1e ?_ | refine CallC.now (c29) ?_ | refine CallC.now (c24P) ?_ | refine CallC.now (c26C) ?_); (refine sy1 ?_; try exact True.intro)) | refine an2 ?_ | fail)
        refine W_cond (by rfl) (fun h => by cases h) (fun _ => ?_)
        repeat' (first | refine w1g ?_ | refine w1l ?_ | refine w1q ?_ | refine w1b ?_ | refine w1p ?_ | ((first | refine w1r ?_ | refine w1k ?_ | refine w1e ?_); (refine sy1 ?_; try exact True.intro)) | refine an2 ?_ | fail)
        refine W_cond (by rfl) (fun h => by cases h) (fun _ => ?_)
        repeat' (first | refine w1g ?_ | refine w1l ?_ | refine w1q ?_ | refine w1b ?_ | refine w1p ?_ | ((first | refine w1r ?_ | refine w1k ?_ | refine w1e ?_ | refine CallC.now (c13) ?_); simp (maxSteps := 400000) (disch := omega) only [push_cast, ↓reduceIte, reduceCtorEq, Nat.reduceAdd, Nat.reduceSub, Nat.reduceEqDiff, Nat.reduceLeDiff, Nat.reduceLT, Nat.reduceBEq, Nat.reduceDiv, Nat.reduceMod, Nat.reducePow, Nat.reduceMul, Int.reduceToNat, Int.reduceLT, Int.reduceLE, beq_self_eq_true]) | refine an2 ?_ | fail)
        exact W_ret ⟨[_], ⟨rfl, rfl⟩, rfl⟩
  · rw [show (cwE j o lg == 0 && decide ((0 : Int) < (lg.length : Int))) = false by rw [beq_eq_false_iff_ne.2 hcw]; rfl]
    refine W_cond (by rfl) (fun h => by cases h) (fun _ => ?_)
    have hdv : ¬ (j.ts.length : Int) = 0 := by omega
    have hwu : IntKind.i64.wrap u = u := wrap64 ⟨by omega, by omega⟩
    obtain ⟨t, ht⟩ : ∃ t, u.tmod (j.ts.length : Int) = t := ⟨_, rfl⟩
    have ht0 : 0 ≤ t ∧ t < (j.ts.length : Int) := by
      rw [← ht, Int.tmod_eq_emod_of_nonneg hu.1]
      exact ⟨Int.emod_nonneg _ (by omega), Int.emod_lt_of_pos _ (by omega)⟩
    have c28 := fs28 j o t hG hO
    obtain ⟨C, c29, hC0, hC1, hCl⟩ := fn29 j o hG hO
    have c26C := fn26 j o C hG hO (by omega)
    have c24P := fun P hP => fn24 j o P hG hO hP
    have hwy : wyE j o t = if posB j.ts.length (lkL (lks j o)) = true then 16 else 0 := by
      unfold wyE; rw [if_pos ho, if_neg (by omega)]
    have hci : ciE j o = if posB j.ts.length (lkL (lks j o)) = true then 0 else 15 := by unfold ciE; rw [if_pos ho]
    rcases hec with ⟨hE, hb, hl⟩ | ⟨hE, hb⟩
    · subst hE
      have hpo := hpe rfl
      rw [hpo] at hwy hci
      rw [if_neg (by decide)] at hwy hci
      rw [hci] at c29
      have hPf : ∀ P, WhyP j o t P → P.length ≤ 20000 ∧ 0 < P.length ∧ cwE j o P = 0 ∧ (P.getD (P.length - 1) dRs).k = t ∧ (P.getD (P.length - 1) dRs).st = gi EL t.toNat := fun P hP => by
        obtain ⟨a1, a2⟩ := hP.ok hwy
        obtain ⟨a3, a4⟩ := hP.ys hwy hb
        exact ⟨hP.n, a1, a2, a3, by rw [a4, hl]⟩
      have hal := hal rfl
      rw [hwy] at c28
      generalize WhyP j o t = WP at *
      repeat' (first | refine w1g ?_ | refine w1l ?_ | refine w1q ?_ | refine w1b ?_ | refine w1p ?_ | ((first | refine w1r ?_ | refine w1k ?_ | refine w1e ?_); simp (maxSteps := 400000) (disch := omega) only [push_cast, ↓reduceIte, reduceCtorEq, Nat.reduceAdd, Nat.reduceSub, Nat.reduceEqDiff, Nat.reduceLeDiff, Nat.reduceLT, Nat.reduceBEq, Nat.reduceDiv, Nat.reduceMod, Nat.reducePow, Nat.reduceMul, Int.reduceToNat, Int.reduceLT, Int.reduceLE, hwu, ht]) | refine an2 ?_ | fail)
      refine CallC.inl (Inl_of_FnS c28 (by rfl) (fun r hr => ?_))
      obtain ⟨P, rfl, hP⟩ := hr
      obtain ⟨p1, p2, p3, p4, p5⟩ := hPf P hP
      have c24P := c24P P (by omega)
      rw [p3] at c24P
      obtain ⟨x, hx⟩ : ∃ x, P.getD (P.length - 1) dRs = x := ⟨_, rfl⟩
      rw [hx] at p4 p5
      have hpi : ((P.length : Int) - 1).toNat = P.length - 1 := by omega
      have hp0 : ((P.length : Int) == 0) = false := beq_eq_false_iff_ne.2 (by omega)
      have hgt : EL.getD t.toNat 0 = gi EL t.toNat := rfl
      (refine sy1 ?_; try exact True.intro)
      repeat' (first | refine w1g ?_ | refine w1l ?_ | refine w1q ?_ | refine w1b ?_ | refine w1p ?_ | ((first | refine w1r ?_ | refine w1k ?_ | refine w1e ?_ | refine CallC.now (c29) ?_ | refine CallC.now (c24P) ?_ | refine CallC.now (c26C) ?_); simp (maxSteps := 400000) (disch := omega) only [push_cast, ↓reduceIte, reduceCtorEq, Nat.reduceAdd, Nat.reduceSub, Nat.reduceEqDiff, Nat.reduceLeDiff, Nat.reduceLT, Nat.reduceBEq, Nat.reduceDiv, Nat.reduceMod, Nat.reducePow, Nat.reduceMul, Int.reduceToNat, Int.reduceLT, Int.reduceLE, hp0, hpi, hx]) | refine an2 ?_ | fail)
      refine W_cond (by rfl) (fun h => by cases h) (fun _ => ?_)
      repeat' (first | refine w1g ?_ | refine w1l ?_ | refine w1q ?_ | refine w1b ?_ | refine w1p ?_ | ((first | refine w1r ?_ | refine w1k ?_ | refine w1e ?_); (refine sy1 ?_; try exact True.intro)) | refine an2 ?_ | fail)
      refine W_cond (by rfl) (fun _ => ?_) (fun h => by cases h)
      repeat' (first | refine w1g ?_ | refine w1l ?_ | refine w1q ?_ | refine w1b ?_ | refine w1p ?_ | ((first | refine w1r ?_ | refine w1k ?_ | refine w1e ?_ | refine CallC.now (c13) ?_); simp (maxSteps := 400000) (disch := omega) only [push_cast, ↓reduceIte, reduceCtorEq, Nat.reduceAdd, Nat.reduceSub, Nat.reduceEqDiff, Nat.reduceLeDiff, Nat.reduceLT, Nat.reduceBEq, Nat.reduceDiv, Nat.reduceMod, Nat.reducePow, Nat.reduceMul, Int.reduceToNat, Int.reduceLT, Int.reduceLE, hp0, hpi, hx, hgt, hal, p4, p5, beq_self_eq_true]) | refine an2 ?_ | fail)
      exact W_ret ⟨[_], ⟨rfl, rfl⟩, rfl⟩
    · subst hE
      cases hpo : posB j.ts.length (lkL (lks j o)) with
      | false =>
        rw [hpo, if_neg (by decide)] at hwy hci
        rw [hci] at c29
        have hCn := hC1 (by rw [hci]; decide)
        subst hCn
        have hPf : ∀ P, WhyP j o t P → P.length ≤ 20000 ∧ 0 < P.length ∧ cwE j o P = 0 ∧ (P.getD (P.length - 1) dRs).st = -1 := fun P hP => by
          obtain ⟨a1, a2⟩ := hP.ok hwy
          exact ⟨hP.n, a1, a2, hP.ne hwy hb⟩
        rw [hwy] at c28
        generalize WhyP j o t = WP at *
        repeat' (first | refine w1g ?_ | refine w1l ?_ | refine w1q ?_ | refine w1b ?_ | refine w1p ?_ | ((first | refine w1r ?_ | refine w1k ?_ | refine w1e ?_); simp (maxSteps := 400000) (disch := omega) only [push_cast, ↓reduceIte, reduceCtorEq, Nat.reduceAdd, Nat.reduceSub, Nat.reduceEqDiff, Nat.reduceLeDiff, Nat.reduceLT, Nat.reduceBEq, Nat.reduceDiv, Nat.reduceMod, Nat.reducePow, Nat.reduceMul, Int.reduceToNat, Int.reduceLT, Int.reduceLE, hwu, ht]) | refine an2 ?_ | fail)
        refine CallC.inl (Inl_of_FnS c28 (by rfl) (fun r hr => ?_))
        obtain ⟨P, rfl, hP⟩ := hr
        obtain ⟨p1, p2, p3, p5⟩ := hPf P hP
        have c24P := c24P P (by omega)
        rw [p3] at c24P
        obtain ⟨x, hx⟩ : ∃ x, P.getD (P.length - 1) dRs = x := ⟨_, rfl⟩
        rw [hx] at p5
        have hpi : ((P.length : Int) - 1).toNat = P.length - 1 := by omega
        have hp0 : ((P.length : Int) == 0) = false := beq_eq_false_iff_ne.2 (by omega)
        (refine sy1 ?_; try exact True.intro)
        repeat' (first | refine w1g ?_ | refine w1l ?_ | refine w1q ?_ | refine w1b ?_ | refine w1p ?_ | ((first | refine w1r ?_ | refine w1k ?_ | refine w1e ?_ | refine CallC.now (c29) ?_ | refine CallC.now (c24P) ?_ | refine CallC.now (c26C) ?_); simp (maxSteps := 400000) (disch := omega) only [push_cast, ↓reduceIte, reduceCtorEq, Nat.reduceAdd, Nat.reduceSub, Nat.reduceEqDiff, Nat.reduceLeDiff, Nat.reduceLT, Nat.reduceBEq, Nat.reduceDiv, Nat.reduceMod, Nat.reducePow, Nat.reduceMul, Int.reduceToNat, Int.reduceLT, Int.reduceLE, hp0, hpi, hx]) | refine an2 ?_ | fail)
        refine W_cond (by rfl) (fun h => by cases h) (fun _ => ?_)
        repeat' (first | refine w1g ?_ | refine w1l ?_ | refine w1q ?_ | refine w1b ?_ | refine w1p ?_ | ((first | refine w1r ?_ | refine w1k ?_ | refine w1e ?_); (refine sy1 ?_; try exact True.intro)) | refine an2 ?_ | fail)
        refine W_cond (by rfl) (fun h => by cases h) (fun _ => ?_)
        repeat' (first | refine w1g ?_ | refine w1l ?_ | refine w1q ?_ | refine w1b ?_ | refine w1p ?_ | ((first | refine w1r ?_ | refine w1k ?_ | refine w1e ?_ | refine CallC.now (c13) ?_); simp (maxSteps := 400000) (disch := omega) only [push_cast, ↓reduceIte, reduceCtorEq, Nat.reduceAdd, Nat.reduceSub, Nat.reduceEqDiff, Nat.reduceLeDiff, Nat.reduceLT, Nat.reduceBEq, Nat.reduceDiv, Nat.reduceMod, Nat.reducePow, Nat.reduceMul, Int.reduceToNat, Int.reduceLT, Int.reduceLE, hp0, hpi, hx, p5, beq_self_eq_true]) | refine an2 ?_ | fail)
        exact W_ret ⟨[_], ⟨rfl, rfl⟩, rfl⟩
      | true =>
        rw [hpo, if_pos rfl] at hwy hci
        have hCk := hC0 hci
        rw [hCk] at c26C
        rw [hci] at c29
        have hPf : ∀ P, WhyP j o t P → P = [] := fun P hP => hP.no (by rw [hwy]; decide)
        rw [hwy] at c28
        generalize WhyP j o t = WP at *
        repeat' (first | refine w1g ?_ | refine w1l ?_ | refine w1q ?_ | refine w1b ?_ | refine w1p ?_ | ((first | refine w1r ?_ | refine w1k ?_ | refine w1e ?_); simp (maxSteps := 400000) (disch := omega) only [push_cast, ↓reduceIte, reduceCtorEq, Nat.reduceAdd, Nat.reduceSub, Nat.reduceEqDiff, Nat.reduceLeDiff, Nat.reduceLT, Nat.reduceBEq, Nat.reduceDiv, Nat.reduceMod, Nat.reducePow, Nat.reduceMul, Int.reduceToNat, Int.reduceLT, Int.reduceLE, hwu, ht]) | refine an2 ?_ | fail)
        refine CallC.inl (Inl_of_FnS c28 (by rfl) (fun r hr => ?_))
        obtain ⟨P, rfl, hP⟩ := hr
        obtain rfl := hPf P hP
        have c24P := c24P [] (by decide)
        generalize cwE j o [] = E7 at *
        (refine sy1 ?_; try exact True.intro)
        repeat' (first | refine w1g ?_ | refine w1l ?_ | refine w1q ?_ | refine w1b ?_ | refine w1p ?_ | ((first | refine w1r ?_ | refine w1k ?_ | refine w1e ?_ | refine CallC.now (c29) ?_ | refine CallC.now (c24P) ?_ | refine CallC.now (c26C) ?_); (refine sy1 ?_; try exact True.intro)) | refine an2 ?_ | fail)
        refine W_cond (by rfl) (fun h => by cases h) (fun _ => ?_)
        repeat' (first | refine w1g ?_ | refine w1l ?_ | refine w1q ?_ | refine w1b ?_ | refine w1p ?_ | ((first | refine w1r ?_ | refine w1k ?_ | refine w1e ?_); (refine sy1 ?_; try exact True.intro)) | refine an2 ?_ | fail)
        refine W_cond (by rfl) (fun h => by cases h) (fun _ => ?_)
        repeat' (first | refine w1g ?_ | refine w1l ?_ | refine w1q ?_ | refine w1b ?_ | refine w1p ?_ | ((first | refine w1r ?_ | refine w1k ?_ | refine w1e ?_ | refine CallC.now (c13) ?_); simp (maxSteps := 400000) (disch := omega) only [push_cast, ↓reduceIte, reduceCtorEq, Nat.reduceAdd, Nat.reduceSub, Nat.reduceEqDiff, Nat.reduceLeDiff, Nat.reduceLT, Nat.reduceBEq, Nat.reduceDiv, Nat.reduceMod, Nat.reducePow, Nat.reduceMul, Int.reduceToNat, Int.reduceLT, Int.reduceLE, beq_self_eq_true]) | refine an2 ?_ | fail)
        exact W_ret ⟨[_], ⟨rfl, rfl⟩, rfl⟩
end Go.Proofs.Ytoiohkjomcbadaa

namespace Go.Proofs.Ytoiohkjomcbadaa
open Go Sy Go.ChangeShapes Go.WideShapes Go.RowKit
set_option maxRecDepth 100000
set_option linter.unusedVariables false
theorem own : ownKnob Try.prog.godebug = none := by kernel_rfl
theorem laidOut : laidOutB Try.prog = true := by kernel_rfl
theorem walk7 (W : World) (v0 v1 v2 v3 v4 : Value) (j : Jb) (o : List (List Int)) (lg : List Rs) (c : List Int) (u : Int) (h0 : fsat (inW W) W (aJ j) v0) (h1 : fsat (inW W) W (aO o) v1) (h2 : fsat (inW W) W (aR lg) v2) (h3 : fsat (inW W) W (aI c) v3) (h4 : fsat (inW W) W (.v (.int .u8 u)) v4) (oj : OJ j) (oo : o.length * 24 ≤ 140737488351232 ∧ ∀ l ∈ o, l.length * 8 ≤ 140737488351232 ∧ ∀ x ∈ l, I64 x) (olg : lg.length * 32 ≤ 140737488351232 ∧ ∀ r ∈ lg, I64 r.k ∧ I64 r.by' ∧ I64 r.fr ∧ I64 r.st) (oc : c.length * 8 ≤ 140737488351232 ∧ ∀ x ∈ c, I64 x) (ou : 0 ≤ u ∧ u ≤ 255) :
    Calls Try.prog 7 #[v0, v1, v2, v3, v4] W fun e w' => e = .returned (.bool true) ∧ Below W.heap.size W w' := by
  have hf : Sy.Fn Try.prog 7 [aJ j, aO o, aR lg, aI c, .v (.int .u8 u)] (bv true) := fn7 j o lg c u ou (by have := oj.t; omega) (by have := oo.1; omega) (by have := olg.1; omega) (by have := oc.1; omega)
  refine (hf.2 (inW W) W [v0, v1, v2, v3, v4] (fun b hb => hb) ?_).mono ?_
  · simp only [fsatT]
    exact ⟨v0, _, rfl, h0, v1, _, rfl, h1, v2, _, rfl, h2, v3, _, rfl, h3, v4, _, rfl, h4, rfl⟩
  · rintro e w' ⟨v, rfl, hb, hv⟩
    simp only [fsat] at hv
    exact ⟨by rw [hv], hb⟩
theorem lifted7 (os : Os) (started : os.Started) (H : Type) (enc : TypeId × Value → H) :
    ReturnsInHanded {} Try.checked os 7 .any (Rows.scheduleAcceptedSpec.pre6 enc Try.prog Try.f7 Rows.scheduleAcceptedRow.domain false) (Rows.scheduleAcceptedSpec.post enc Try.prog Try.f7 false true false false) := by
  refine returnsInHanded_of_change_sized (C := Try.checked) own started (by kernel_rfl) Try.func7
    (ChangeSpec.witness6 (enc := enc) (C := Try.checked) false ⟨#[], #[.agg #[.slice none 0 0, .slice none 0 0, .slice none 0 0], .slice none 0 0, .slice none 0 0, .slice none 0 0, .int .u8 0], []⟩ 8 (by kernel_rfl) (by kernel_rfl) (by kernel_rfl) (by kernel_rfl)) ?_
  intro W base args ds gs before hval0 hW hcnd hsz _
  have hval : ∀ (j : Nat) t v, Try.f7.params[j]? = some t → args[j]? = some v → Value.okWide Try.prog W .any base t v := hval0
  have hW' := hW
  obtain ⟨p, q, hA0, hV, rfl, hfz, hnd⟩ := hW
  have hA : DataW.TrodAll enc Try.prog W 0 (fun _ => true) true Try.f7.params.toList args.toList ds p := hA0
  rw [Try.params7] at hA hval
  obtain ⟨v0, vs0, d0, ds0, p0, q0, hargs, rfl, rfl, h0, r0⟩ := trodAll_cons hA
  obtain ⟨v1, vs1, d1, ds1, p1, q1, rfl, rfl, rfl, h1, r1⟩ := trodAll_cons r0
  obtain ⟨v2, vs2, d2, ds2, p2, q2, rfl, rfl, rfl, h2, r2⟩ := trodAll_cons r1
  obtain ⟨v3, vs3, d3, ds3, p3, q3, rfl, rfl, rfl, h3, r3⟩ := trodAll_cons r2
  obtain ⟨v4, vs4, d4, ds4, p4, q4, rfl, rfl, rfl, h4, r4⟩ := trodAll_cons r3
  obtain ⟨rfl, rfl, rfl⟩ := trodAll_nil r4
  obtain rfl : args = #[v0, v1, v2, v3, v4] := by cases args; simp_all
  obtain ⟨rfl, rfl⟩ := trodVars_none hV
  have hs : ∀ (j : Nat) t (d : DataW H), [26, 27, 51, 52, 5][j]? = some t → [d0, d1, d2, d3, d4][j]? = some d → ∀ n ∈ d.weights Try.prog t, n ≤ reachBytes := fun j t d ht hd n hn => by
    have hall := List.all_eq_true.1 hsz n (DataW.weights_mem_each (j := j) (t := t) (d := d) (by rw [Try.params7]; simpa using (List.getElem?_append_left (l₂ := _) (by have := (List.getElem?_eq_some_iff.1 ht).1; simpa using this)).trans ht) (by simpa using (List.getElem?_append_left (l₂ := _) (by have := (List.getElem?_eq_some_iff.1 hd).1; simpa using this)).trans hd) n hn)
    simpa using hall
  have lt0 : ∀ x ∈ p0, x.block < W.heap.size := by obtain ⟨m, hm⟩ := h0; exact DataW.trod_lt m _ _ _ hm
  have lt1 : ∀ x ∈ p1, x.block < W.heap.size := by obtain ⟨m, hm⟩ := h1; exact DataW.trod_lt m _ _ _ hm
  have lt2 : ∀ x ∈ p2, x.block < W.heap.size := by obtain ⟨m, hm⟩ := h2; exact DataW.trod_lt m _ _ _ hm
  have lt3 : ∀ x ∈ p3, x.block < W.heap.size := by obtain ⟨m, hm⟩ := h3; exact DataW.trod_lt m _ _ _ hm
  have lt4 : ∀ x ∈ p4, x.block < W.heap.size := by obtain ⟨m, hm⟩ := h4; exact DataW.trod_lt m _ _ _ hm
  obtain ⟨j, oj, s0⟩ := k26.arg (by kernel_rfl) (hval 0 26 v0 rfl rfl) h0 (hs 0 26 d0 rfl rfl)
  obtain ⟨o, oo, s1⟩ := k27.arg1 (by kernel_rfl) (hval 1 27 v1 rfl rfl) h1 (hs 1 27 d1 rfl rfl)
  obtain ⟨lg, olg, s2⟩ := k51.arg1 (by kernel_rfl) (hval 2 51 v2 rfl rfl) h2 (hs 2 51 d2 rfl rfl)
  obtain ⟨c, oc, s3⟩ := k52.arg1 (by kernel_rfl) (hval 3 52 v3 rfl rfl) h3 (hs 3 52 d3 rfl rfl)
  obtain ⟨u, ou, s4⟩ := k5.arg1 (by kernel_rfl) (hval 4 5 v4 rfl rfl) h4 (hs 4 5 d4 rfl rfl)
  clear hA0 hval0
  refine (walk7 W v0 v1 v2 v3 v4 j o lg c u s0 s1 s2 s3 s4 oj oo olg oc ou).mono fun e W' ⟨he, bel⟩ => ?_
  subst he
  exact ⟨_, rfl, _, _, _, [], _, [], hW', trodAll_mk1 (shut_bool Try.underlying4 _), (trodAll_cons_mk (Below.trod laidOut (by kernel_rfl) (of_decide_eq_true (by kernel_rfl)) h0 bel lt0) (trodAll_cons_mk (Below.trod laidOut (by kernel_rfl) (of_decide_eq_true (by kernel_rfl)) h1 bel lt1) (trodAll_cons_mk (Below.trod laidOut (by kernel_rfl) (of_decide_eq_true (by kernel_rfl)) h2 bel lt2) (trodAll_cons_mk (Below.trod laidOut (by kernel_rfl) (of_decide_eq_true (by kernel_rfl)) h3 bel lt3) (trodAll_cons_mk (Below.trod laidOut (by kernel_rfl) (of_decide_eq_true (by kernel_rfl)) h4 bel lt4) trodAll_mk0))))), rfl, bel.frame _, fun h => by cases h⟩
theorem over7 : Rows.scheduleAcceptedRow.holds Try.pinned (OpenSpec.ofChange Rows.scheduleAcceptedSpec) :=
  OpenClaim.holds_of_wide 7 Try.f7 rfl rfl rfl rfl rfl rfl rfl ⟨rfl, rfl, rfl, rfl, rfl⟩ rfl rfl rfl rfl rfl (by kernel_rfl) Try.func7 (by kernel_rfl)
    (of_decide_eq_true (by kernel_rfl)) (by unfold Func.isWrapper; first | (rw [if_pos (by decide +kernel)]; kernel_rfl) | (rw [if_neg (by decide +kernel)]; exact ⟨rfl, rfl⟩))
    (fun os started H enc _ => lifted7 os started H enc)
theorem schedule_accepted_holds : Rows.ScheduleAcceptedSaid := over7
end Go.Proofs.Ytoiohkjomcbadaa

