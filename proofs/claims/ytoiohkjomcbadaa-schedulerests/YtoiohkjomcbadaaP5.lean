/- Part 5 of the proof of: For crews with at most seven legs and few times: times that are allowed are never ahead of the crew's best times, the best times are allowed, and with more time to drive, shorter rests and an earlier start they end no later: the law ScheduleRests holds. -/
import Derived.Test.YtoiohkjomcbadaaP4
namespace Go.Proofs.Ytoiohkjomcbadaa
open Go Sy
set_option maxRecDepth 100000
set_option maxHeartbeats 4000000
set_option linter.unusedVariables false
set_option linter.unusedSimpArgs false
theorem w114 {M : List (Nat × Blk)} {k st nx : Nat} (l : List Int) (hlen : l.length ≤ 1000000) (hk : k < nx) (hfr : ∀ j, nx ≤ j → lm M j = none) :
    W Try.prog 28 Xn114_0 ⟨initT 0 [.row k st], setm M k (.row st 3 1 0 cI l), nx⟩ (fun e s' => (e = .n ∨ e = .r) ∧ s'.mem = setm M k (.row st 3 1 0 cI l.reverse)) := by
  have hfr' : ∀ b : Blk, ∀ j, nx ≤ j → lm (setm M k b) j = none := fun b j hj => by rw [lm_set_other _ _ (by omega)]; exact hfr j hj
  simp (maxSteps := 400000) (disch := omega) only [push_cast, ↓reduceIte, reduceCtorEq, Nat.reduceAdd, Nat.reduceSub, Nat.reduceEqDiff, Nat.reduceLeDiff, Nat.reduceLT, Nat.reduceBEq, Nat.reduceDiv, Nat.reduceMod, Nat.reducePow, Nat.reduceMul, Int.reduceToNat, Int.reduceLT, Int.reduceLE, initT]
  repeat' (first | refine w1g ?_ | refine w1l ?_ | refine w1q ?_ | refine w1b ?_ | refine w1p ?_ | ((first | refine w1r ?_ | refine w1k ?_ | refine w1e ?_); (refine sy1 ?_; try exact True.intro)) | refine an2 ?_ | fail)
  refine W_loopM (fun c : Nat => [(2, iv c), (3, iv ((l.length : Int) - 1 - c))]) (fun c => setm M k (.row st 3 1 0 cI (rvL 0 l c))) (fun c => c ≤ l.length) (fun c => l.length - c) nx (fun c _ => hfr' _) 0 (by omega) (by simp [keepL, putAll, repl, lk]) (by rw [rvL_zero]) (fun c hc => ?_)
  have hll := rvL_len 0 l c
  simp (maxSteps := 400000) (disch := omega) only [push_cast, ↓reduceIte, reduceCtorEq, Nat.reduceAdd, Nat.reduceSub, Nat.reduceEqDiff, Nat.reduceLeDiff, Nat.reduceLT, Nat.reduceBEq, Nat.reduceDiv, Nat.reduceMod, Nat.reducePow, Nat.reduceMul, Int.reduceToNat, Int.reduceLT, Int.reduceLE, keepL]
  repeat' (first | refine w1g ?_ | refine w1l ?_ | refine w1q ?_ | refine w1b ?_ | refine w1p ?_ | ((first | refine w1r ?_ | refine w1k ?_ | refine w1e ?_); simp (maxSteps := 400000) (disch := omega) only [push_cast, ↓reduceIte, reduceCtorEq, Nat.reduceAdd, Nat.reduceSub, Nat.reduceEqDiff, Nat.reduceLeDiff, Nat.reduceLT, Nat.reduceBEq, Nat.reduceDiv, Nat.reduceMod, Nat.reducePow, Nat.reduceMul, Int.reduceToNat, Int.reduceLT, Int.reduceLE, keepL]) | refine an2 ?_ | fail)
  refine W_condD (by rfl) (fun h5 => ?_) (fun h5 => ?_)
  · have hs := rvL_step (d := 0) (l := l) (k := c) (by omega)
    have ea : ((l.length : Int) - 1 - c).toNat = l.length - 1 - c := by omega
    generalize hx : (rvL 0 l c).getD (l.length - 1 - c) 0 = x at *
    generalize hy : (rvL 0 l c).getD c 0 = y at *
    generalize rvL 0 l c = L at *
    repeat' (first | refine w1g ?_ | refine w1l ?_ | refine w1q ?_ | refine w1b ?_ | refine w1p ?_ | ((first | refine w1r ?_ | refine w1k ?_ | refine w1e ?_); simp (maxSteps := 400000) (disch := omega) only [push_cast, ↓reduceIte, reduceCtorEq, Nat.reduceAdd, Nat.reduceSub, Nat.reduceEqDiff, Nat.reduceLeDiff, Nat.reduceLT, Nat.reduceBEq, Nat.reduceDiv, Nat.reduceMod, Nat.reducePow, Nat.reduceMul, Int.reduceToNat, Int.reduceLT, Int.reduceLE, keepL, hll, ea, hx, hy, beq_self_eq_true]) | refine an2 ?_ | fail)
    refine ⟨rfl, ⟨by dsimp only; omega, hasM_set _ _ _⟩, by omega, x, rfl, rfl, ?_⟩
    simp (maxSteps := 400000) (disch := omega) only [push_cast, ↓reduceIte, reduceCtorEq, Nat.reduceAdd, Nat.reduceSub, Nat.reduceEqDiff, Nat.reduceLeDiff, Nat.reduceLT, Nat.reduceBEq, Nat.reduceDiv, Nat.reduceMod, Nat.reducePow, Nat.reduceMul, Int.reduceToNat, Int.reduceLT, Int.reduceLE, hll, ea, hx, hy, List.length_set]
    repeat' (first | refine w1g ?_ | refine w1l ?_ | refine w1q ?_ | refine w1b ?_ | refine w1p ?_ | ((first | refine w1r ?_ | refine w1k ?_ | refine w1e ?_); simp (maxSteps := 400000) (disch := omega) only [push_cast, ↓reduceIte, reduceCtorEq, Nat.reduceAdd, Nat.reduceSub, Nat.reduceEqDiff, Nat.reduceLeDiff, Nat.reduceLT, Nat.reduceBEq, Nat.reduceDiv, Nat.reduceMod, Nat.reducePow, Nat.reduceMul, Int.reduceToNat, Int.reduceLT, Int.reduceLE, keepL, hll, ea, hx, hy, List.length_set, beq_self_eq_true]) | refine an2 ?_ | fail)
    refine ⟨rfl, ⟨by dsimp only; omega, hasM_set _ _ _⟩, by omega, y, rfl, rfl, ?_⟩
    rw [hs]
    (refine sy1 ?_; try exact True.intro)
    repeat' (first | refine w1g ?_ | refine w1l ?_ | refine w1q ?_ | refine w1b ?_ | refine w1p ?_ | ((first | refine w1r ?_ | refine w1k ?_ | refine w1e ?_); simp (maxSteps := 400000) (disch := omega) only [push_cast, ↓reduceIte, reduceCtorEq, Nat.reduceAdd, Nat.reduceSub, Nat.reduceEqDiff, Nat.reduceLeDiff, Nat.reduceLT, Nat.reduceBEq, Nat.reduceDiv, Nat.reduceMod, Nat.reducePow, Nat.reduceMul, Int.reduceToNat, Int.reduceLT, Int.reduceLE, keepL]) | refine an2 ?_ | fail)
    exact ⟨c + 1, by omega, by omega, by simp; omega, rfl⟩
  · rw [rvL_all (by omega)]
    repeat' (first | refine w1g ?_ | refine w1l ?_ | refine w1q ?_ | refine w1b ?_ | refine w1p ?_ | ((first | refine w1r ?_ | refine w1k ?_ | refine w1e ?_); simp (maxSteps := 400000) (disch := omega) only [push_cast, ↓reduceIte, reduceCtorEq, Nat.reduceAdd, Nat.reduceSub, Nat.reduceEqDiff, Nat.reduceLeDiff, Nat.reduceLT, Nat.reduceBEq, Nat.reduceDiv, Nat.reduceMod, Nat.reducePow, Nat.reduceMul, Int.reduceToNat, Int.reduceLT, Int.reduceLE, keepL]) | refine an2 ?_ | fail)
theorem i114 {s : S} {k st : Nat} {L L' : List Int} {K : AV → S → Prop} (hk : lm s.mem k = some (.row st 3 1 0 cI L)) (hfr : ∀ j, s.nx ≤ j → lm s.mem j = none) (hlen : L.length ≤ 1000000) (hL : L.reverse = L') (hK : K (.tup []) ⟨s.tm, setm s.mem k (.row st 3 1 0 cI L'), s.nx⟩) : Inl Try.prog 114 [.row k st] s K := by
  subst hL
  exact Inl_row mixed Xt114 rfl hk hfr (fun M nx h1 h2 => w114 L hlen h1 h2) hK
def crcX (n : Nat) (ls : List Lk) : Nat := itr (brs ls (n + 1)).by' n (brs ls (n + 1)).last.toNat
abbrev nilS : AV := .v (.slice none 0 0)
theorem w70 (n : Nat) (ls : List Af) (h0 : 0 < n) (hn : n ≤ 24) (hl : ls.length ≤ 240) (hls : ∀ e ∈ ls, LkOk n e) :
    (¬ Can (lkL ls) (rnds (lkL ls) (fun _ => 0) n) → W Try.prog 87 Xn70_0 (init [iv n, aA ls]) (Sy.Fin [.t 4] nilS)) ∧
    (Can (lkL ls) (rnds (lkL ls) (fun _ => 0) n) → ∀ p, p ≤ n → Per (brs (lkL ls) (n + 1)).by' (crcX n (lkL ls)) p → W Try.prog 87 Xn70_0 (init [iv n, aA ls]) (Sy.Fin [.t 4] (aI (cirL (brs (lkL ls) (n + 1)).by' (crcX n (lkL ls)) p).reverse))) := by
  have key : ∀ (r : AV), (¬ Can (lkL ls) (rnds (lkL ls) (fun _ => 0) n) → r = nilS) → (Can (lkL ls) (rnds (lkL ls) (fun _ => 0) n) → ∃ p, p ≤ n ∧ Per (brs (lkL ls) (n + 1)).by' (crcX n (lkL ls)) p ∧ r = aI (cirL (brs (lkL ls) (n + 1)).by' (crcX n (lkL ls)) p).reverse) → W Try.prog 87 Xn70_0 (init [iv n, aA ls]) (Sy.Fin [.t 4] r) := by
    intro r hr1 hr2
    have hnl : ∀ e ∈ lkL ls, e.a < n ∧ e.b < n := fun e he => by
      obtain ⟨x, hx, rfl⟩ := List.mem_map.1 he
      obtain ⟨a1, a2, a3, a4, _⟩ := hls x hx
      constructor
      · show x.a.toNat < n; omega
      · show x.b.toNat < n; omega
    have hgl : ∀ e ∈ lkL ls, e.g ≤ 1058656 := fun e he => by
      obtain ⟨x, hx, rfl⟩ := List.mem_map.1 he
      exact (hls x hx).2.2.2.2.2
    have hll : (lkL ls).length = ls.length := by rw [List.length_map]
    repeat' (first | refine w1g ?_ | refine w1l ?_ | refine w1q ?_ | refine w1b ?_ | refine w1p ?_ | ((first | refine w1r ?_ | refine w1k ?_ | refine w1e ?_); (refine sy1 ?_; try exact True.intro)) | refine an2 ?_ | fail)
    refine ⟨rfl, ⟨by omega, by omega, by omega⟩, Int, 0, cI, 0, rfl, rfl, by omega, rfl, ?_⟩
    simp (maxSteps := 400000) (disch := omega) only [push_cast, ↓reduceIte, reduceCtorEq, Nat.reduceAdd, Nat.reduceSub, Nat.reduceEqDiff, Nat.reduceLeDiff, Nat.reduceLT, Nat.reduceBEq, Nat.reduceDiv, Nat.reduceMod, Nat.reducePow, Nat.reduceMul, Int.reduceToNat, Int.reduceLT, Int.reduceLE, Int.toNat_natCast]
    repeat' (first | refine w1g ?_ | refine w1l ?_ | refine w1q ?_ | refine w1b ?_ | refine w1p ?_ | ((first | refine w1r ?_ | refine w1k ?_ | refine w1e ?_); (refine sy1 ?_; try exact True.intro)) | refine an2 ?_ | fail)
    refine ⟨rfl, ⟨by omega, by omega, by omega⟩, Int, 0, cI, 0, rfl, rfl, by omega, rfl, ?_⟩
    simp (maxSteps := 400000) (disch := omega) only [push_cast, ↓reduceIte, reduceCtorEq, Nat.reduceAdd, Nat.reduceSub, Nat.reduceEqDiff, Nat.reduceLeDiff, Nat.reduceLT, Nat.reduceBEq, Nat.reduceDiv, Nat.reduceMod, Nat.reducePow, Nat.reduceMul, Int.reduceToNat, Int.reduceLT, Int.reduceLE, Int.toNat_natCast]
    repeat' (first | refine w1g ?_ | refine w1l ?_ | refine w1q ?_ | refine w1b ?_ | refine w1p ?_ | ((first | refine w1r ?_ | refine w1k ?_ | refine w1e ?_); (refine sy1 ?_; try exact True.intro)) | refine an2 ?_ | fail)
    generalize hL : lkL ls = L at *
    have hget : ∀ i, i < ls.length → L.getD i dLk = lkO (ls.getD i dAf) := fun i hi => by rw [← hL]; exact lkL_get hi
    rw [lsF_rep]
    refine W_loopU (fun q : Nat => [(7, iv (brs L q).last), (19, iv q)]) (fun q => [(2, .row 0 2 1 0 cI (lsF n (brs L q).far)), (5, .row 0 3 1 0 cI (lsF n fun i => ((brs L q).by' i : Int)))]) (fun q => q ≤ n + 1 ∧ ∀ k, k < q → Can L (rnds L (fun _ => 0) k)) (fun q => n + 1 - q) 0 ⟨by omega, fun k hk => by omega⟩ (by rfl) (by rfl) (fun q hq => ?_)
    obtain ⟨hq, hcan⟩ := hq
    (refine sy1 ?_; try exact True.intro)
    repeat' (first | refine w1g ?_ | refine w1l ?_ | refine w1q ?_ | refine w1b ?_ | refine w1p ?_ | ((first | refine w1r ?_ | refine w1k ?_ | refine w1e ?_); (refine sy1 ?_; try exact True.intro)) | refine an2 ?_ | fail)
    refine W_condD (by rfl) (fun h5 => ?_) (fun h5 => ?_)
    · have hqn : q ≤ n := by omega
      have hb0 := bsK_zero L q
      have hbl := bsK_last hnl q
      have hbb := bsK_by hnl h0 q
      have hbr := fun j (hj : j ≤ L.length) => bsK_rng hgl (r := q) hj
      have hbs := fun j (hj : j < L.length) => bsK_succ (ls := L) (r := q) hj
      have hba := bsK_all L q
      have hlast := brs_last hnl q
      have hdown := fun q0 => can_down (ls := L) (o := fun _ => 0) (j := q) q0 n hqn
      rw [show (brs L q).far = (bsK L q 0).far from rfl, show (brs L q).by' = (bsK L q 0).by' from rfl]
      repeat' (first | refine w1g ?_ | refine w1l ?_ | refine w1q ?_ | refine w1b ?_ | refine w1p ?_ | ((first | refine w1r ?_ | refine w1k ?_ | refine w1e ?_); (refine sy1 ?_; try exact True.intro)) | refine an2 ?_ | fail)
      have hm1 : (-1 : Int) = (bsK L q 0).last := rfl
      generalize bsK L q = b at *
      refine W_loopU (fun j : Nat => [(7, iv (b j).last), (23, iv j)]) (fun j => [(2, .row 0 2 1 0 cI (lsF n (b j).far)), (5, .row 0 3 1 0 cI (lsF n fun i => ((b j).by' i : Int)))]) (fun j => j ≤ ls.length) (fun j => ls.length - j) 0 (by omega) (by rfl) (by rw [hm1]; rfl) (fun j hj => ?_)
      have hbs := fun h => hbs j (by rw [hll]; exact h)
      have hbr := hbr j (by omega)
      have hbl := hbl j
      have hfl := lsF_len n (b j).far
      have hyl := lsF_len n fun i => ((b j).by' i : Int)
      (refine sy1 ?_; try exact True.intro)
      repeat' (first | refine w1g ?_ | refine w1l ?_ | refine w1q ?_ | refine w1b ?_ | refine w1p ?_ | ((first | refine w1r ?_ | refine w1k ?_ | refine w1e ?_); (refine sy1 ?_; try exact True.intro)) | refine an2 ?_ | fail)
      refine W_condD (by rfl) (fun h6 => ?_) (fun h6 => ?_)
      · have hjl : j < ls.length := by omega
        have hbs := hbs hjl
        obtain ⟨a1, a2, a3, a4, a5, a6⟩ := hls _ (getD_mem' dAf ls j hjl)
        rw [hget j hjl] at hbs
        obtain ⟨e, he⟩ : ∃ e, ls.getD j dAf = e := ⟨_, rfl⟩
        rw [he] at hbs a1 a2 a3 a4 a5 a6
        have ga : (lsF n (b j).far).getD e.a.toNat 0 = (b j).far e.a.toNat := lsF_get (by omega)
        have gb : (lsF n (b j).far).getD e.b.toNat 0 = (b j).far e.b.toNat := lsF_get (by omega)
        have ra := hbr e.a.toNat
        have rb := hbr e.b.toNat
        have hS : ∀ x, (lsF n (b j).far).set e.b.toNat x = lsF n (putF (b j).far e.b.toNat x) := fun x => lsF_set (by omega)
        have hY : ∀ x, (lsF n fun i => ((b j).by' i : Int)).set e.b.toNat x = lsF n (putF (fun i => ((b j).by' i : Int)) e.b.toNat x) := fun x => lsF_set (by omega)
        have hmul : ((q : Int) + 1) * ((L.length : Int) * 1058656) ≤ 25 * (240 * 1058656) := Int.mul_le_mul (by omega) (by omega) (by omega) (by omega)
        have hbst : bst (b j) (lkO e) = if (b j).far e.b.toNat < (b j).far e.a.toNat + e.g then ⟨putF (b j).far e.b.toNat ((b j).far e.a.toNat + e.g), fun i => if i = e.b.toNat then e.a.toNat else (b j).by' i, e.b.toNat⟩ else b j := rfl
        rw [hbst] at hbs
        generalize ((q : Int) + 1) * ((L.length : Int) * 1058656) = C at *
        generalize hfa : (b j).far e.a.toNat = fa at *
        generalize hfb : (b j).far e.b.toNat = fb at *
        repeat' (first | refine w1g ?_ | refine w1l ?_ | refine w1q ?_ | refine w1b ?_ | refine w1p ?_ | ((first | refine w1r ?_ | refine w1k ?_ | refine w1e ?_); simp (maxSteps := 400000) (disch := omega) only [push_cast, ↓reduceIte, reduceCtorEq, Nat.reduceAdd, Nat.reduceSub, Nat.reduceEqDiff, Nat.reduceLeDiff, Nat.reduceLT, Nat.reduceBEq, Nat.reduceDiv, Nat.reduceMod, Nat.reducePow, Nat.reduceMul, Int.reduceToNat, Int.reduceLT, Int.reduceLE, he, ga, gb]) | refine an2 ?_ | fail)
        refine W_condD (by rfl) (fun hc => ?_) (fun hc => ?_)
        · rw [if_pos hc] at hbs
          have hpy : putF (fun i => ((b j).by' i : Int)) e.b.toNat e.a = fun i => ((b (j + 1)).by' i : Int) := by
            rw [hbs]
            funext i
            unfold putF
            dsimp only
            split
            · omega
            · rfl
          have hpf : putF (b j).far e.b.toNat (fa + e.g) = (b (j + 1)).far := by rw [hbs]
          have hpl : (b (j + 1)).last = e.b := by rw [hbs]; dsimp only; omega
          repeat' (first | refine w1g ?_ | refine w1l ?_ | refine w1q ?_ | refine w1b ?_ | refine w1p ?_ | ((first | refine w1r ?_ | refine w1k ?_ | refine w1e ?_); simp (maxSteps := 400000) (disch := omega) only [push_cast, ↓reduceIte, reduceCtorEq, Nat.reduceAdd, Nat.reduceSub, Nat.reduceEqDiff, Nat.reduceLeDiff, Nat.reduceLT, Nat.reduceBEq, Nat.reduceDiv, Nat.reduceMod, Nat.reducePow, Nat.reduceMul, Int.reduceToNat, Int.reduceLT, Int.reduceLE, he, ga, gb]) | refine an2 ?_ | fail)
          refine ⟨rfl, ⟨Nat.le_of_ble_eq_true rfl, rfl⟩, by rw [hfl]; omega, fa + e.g, rfl, rfl, ?_⟩
          rw [hS, hpf]
          simp (maxSteps := 400000) (disch := omega) only [push_cast, ↓reduceIte, reduceCtorEq, Nat.reduceAdd, Nat.reduceSub, Nat.reduceEqDiff, Nat.reduceLeDiff, Nat.reduceLT, Nat.reduceBEq, Nat.reduceDiv, Nat.reduceMod, Nat.reducePow, Nat.reduceMul, Int.reduceToNat, Int.reduceLT, Int.reduceLE, hyl]
          repeat' (first | refine w1g ?_ | refine w1l ?_ | refine w1q ?_ | refine w1b ?_ | refine w1p ?_ | ((first | refine w1r ?_ | refine w1k ?_ | refine w1e ?_); simp (maxSteps := 400000) (disch := omega) only [push_cast, ↓reduceIte, reduceCtorEq, Nat.reduceAdd, Nat.reduceSub, Nat.reduceEqDiff, Nat.reduceLeDiff, Nat.reduceLT, Nat.reduceBEq, Nat.reduceDiv, Nat.reduceMod, Nat.reducePow, Nat.reduceMul, Int.reduceToNat, Int.reduceLT, Int.reduceLE, hyl]) | refine an2 ?_ | fail)
          refine ⟨rfl, ⟨Nat.le_of_ble_eq_true rfl, rfl⟩, by omega, e.a, rfl, rfl, ?_⟩
          rw [hY, hpy]
          (refine sy1 ?_; try exact True.intro)
          repeat' (first | refine w1g ?_ | refine w1l ?_ | refine w1q ?_ | refine w1b ?_ | refine w1p ?_ | ((first | refine w1r ?_ | refine w1k ?_ | refine w1e ?_); (refine sy1 ?_; try exact True.intro)) | refine an2 ?_ | fail)
          refine ⟨j + 1, by omega, by omega, by rfl, ?_⟩
          rw [hpl]
          (refine syE ?_; try exact True.intro)
        · rw [if_neg hc] at hbs
          repeat' (first | refine w1g ?_ | refine w1l ?_ | refine w1q ?_ | refine w1b ?_ | refine w1p ?_ | ((first | refine w1r ?_ | refine w1k ?_ | refine w1e ?_); (refine sy1 ?_; try exact True.intro)) | refine an2 ?_ | fail)
          refine ⟨j + 1, by omega, by omega, by rfl, ?_⟩
          rw [hbs]
          (refine syE ?_; try exact True.intro)
      · obtain rfl : j = ls.length := by omega
        rw [← hll, hba]
        repeat' (first | refine w1g ?_ | refine w1l ?_ | refine w1q ?_ | refine w1b ?_ | refine w1p ?_ | ((first | refine w1r ?_ | refine w1k ?_ | refine w1e ?_); (refine sy1 ?_; try exact True.intro)) | refine an2 ?_ | fail)
        refine W_condD (by rfl) (fun hneg => ?_) (fun hneg => ?_)
        · rw [hr1 (hdown (hlast.2.2.1 (by omega)))]
          repeat' (first | refine w1g ?_ | refine w1l ?_ | refine w1q ?_ | refine w1b ?_ | refine w1p ?_ | ((first | refine w1r ?_ | refine w1k ?_ | refine w1e ?_); (refine sy1 ?_; try exact True.intro)) | refine an2 ?_ | fail)
          exact W_ret ⟨[_], ⟨rfl, rfl⟩, rfl⟩
        · have hc : Can L (rnds L (fun _ => 0) q) := by
            rcases Classical.em (Can L (rnds L (fun _ => 0) q)) with hc | hc
            · exact hc
            · have := hlast.2.2.2 hc; omega
          repeat' (first | refine w1g ?_ | refine w1l ?_ | refine w1q ?_ | refine w1b ?_ | refine w1p ?_ | ((first | refine w1r ?_ | refine w1k ?_ | refine w1e ?_); (refine sy1 ?_; try exact True.intro)) | refine an2 ?_ | fail)
          refine ⟨q + 1, ⟨by omega, up_all hcan hc⟩, by omega, by rfl, ?_⟩
          (refine syE ?_; try exact True.intro)
    · obtain rfl : q = n + 1 := by omega
      obtain ⟨p, hp1, hp2, hp3⟩ := hr2 (hcan n (by omega))
      have hby := brs_by hnl h0 (n + 1)
      have hlast := brs_last hnl n
      have hx : crcX n L = itr (brs L (n + 1)).by' n (brs L (n + 1)).last.toNat := rfl
      have hlp : 0 ≤ (brs L (n + 1)).last := by
        rcases Int.lt_or_le (brs L (n + 1)).last 0 with q | q
        · exact absurd (hcan n (by omega)) (hlast.2.2.1 (by omega))
        · exact q
      have hlx : ((brs L (n + 1)).last.toNat : Int) = (brs L (n + 1)).last := by omega
      have hl1 := hlast.2.1
      rw [hp3]
      clear hr1 hr2 hcan hlast hp3
      generalize crcX n L = X at *
      generalize (brs L (n + 1)).by' = B at *
      generalize (brs L (n + 1)).far = FA at *
      generalize (brs L (n + 1)).last = LA at *
      obtain ⟨z, hz⟩ : ∃ z, LA.toNat = z := ⟨_, rfl⟩
      rw [hz] at hx hlx
      have hzn : z < n := by omega
      have hyl := lsF_len n fun i => (B i : Int)
      have hgY : ∀ i, i < n → (lsF n fun i => (B i : Int)).getD i 0 = (B i : Int) := fun i hi => lsF_get hi
      generalize (lsF n fun i => (B i : Int)) = Y at *
      rw [← hlx]
      repeat' (first | refine w1g ?_ | refine w1l ?_ | refine w1q ?_ | refine w1b ?_ | refine w1p ?_ | ((first | refine w1r ?_ | refine w1k ?_ | refine w1e ?_); (refine sy1 ?_; try exact True.intro)) | refine an2 ?_ | fail)
      refine W_loopU (fun k : Nat => [(7, iv (itr B k z)), (60, iv k)]) (fun k => []) (fun k => k ≤ n) (fun k => n - k) 0 (by omega) (by rfl) (by rfl) (fun k hk => ?_)
      have hik := itr_lt hby hzn k
      have hgk := hgY _ hik
      have his : itr B (k + 1) z = B (itr B k z) := rfl
      (refine sy1 ?_; try exact True.intro)
      repeat' (first | refine w1g ?_ | refine w1l ?_ | refine w1q ?_ | refine w1b ?_ | refine w1p ?_ | ((first | refine w1r ?_ | refine w1k ?_ | refine w1e ?_); (refine sy1 ?_; try exact True.intro)) | refine an2 ?_ | fail)
      refine W_condD (by rfl) (fun h6 => ?_) (fun h6 => ?_)
      · generalize itr B k z = v at *
        repeat' (first | refine w1g ?_ | refine w1l ?_ | refine w1q ?_ | refine w1b ?_ | refine w1p ?_ | ((first | refine w1r ?_ | refine w1k ?_ | refine w1e ?_); simp (maxSteps := 400000) (disch := omega) only [push_cast, ↓reduceIte, reduceCtorEq, Nat.reduceAdd, Nat.reduceSub, Nat.reduceEqDiff, Nat.reduceLeDiff, Nat.reduceLT, Nat.reduceBEq, Nat.reduceDiv, Nat.reduceMod, Nat.reducePow, Nat.reduceMul, Int.reduceToNat, Int.reduceLT, Int.reduceLE, hyl, hgk]) | refine an2 ?_ | fail)
        refine ⟨k + 1, by omega, by omega, by rfl, ?_⟩
        rw [his]
        (refine syE ?_; try exact True.intro)
      obtain rfl : k = n := by omega
      rw [← hx]
      rw [← hx] at hik hgk
      clear his
      repeat' (first | refine w1g ?_ | refine w1l ?_ | refine w1q ?_ | refine w1b ?_ | refine w1p ?_ | ((first | refine w1r ?_ | refine w1k ?_ | refine w1e ?_); (refine sy1 ?_; try exact True.intro)) | refine an2 ?_ | fail)
      refine ⟨rfl, trivial, Int, 0, cI, [(X : Int)], rfl, by omega, fun x _ => ⟨rfl, rfl⟩, rfl, ?_⟩
      (refine sy1 ?_; try exact True.intro)
      repeat' (first | refine w1g ?_ | refine w1l ?_ | refine w1q ?_ | refine w1b ?_ | refine w1p ?_ | ((first | refine w1r ?_ | refine w1k ?_ | refine w1e ?_); simp (maxSteps := 400000) (disch := omega) only [push_cast, ↓reduceIte, reduceCtorEq, Nat.reduceAdd, Nat.reduceSub, Nat.reduceEqDiff, Nat.reduceLeDiff, Nat.reduceLT, Nat.reduceBEq, Nat.reduceDiv, Nat.reduceMod, Nat.reducePow, Nat.reduceMul, Int.reduceToNat, Int.reduceLT, Int.reduceLE, hyl, hgk]) | refine an2 ?_ | fail)
      have h1X : itr B 1 X = B X := rfl
      refine W_loopU (fun u : Nat × Nat => [(11, .row 16 u.1), (12, iv (itr B (u.1 + 1) X))]) (fun u => [(16, .row u.1 3 1 0 cI (cirL B X (u.1 + 1)))]) (fun u => u.1 + 1 ≤ p) (fun u => p - u.1) (0, 0) (by have := hp2.pos; omega) (by rfl) (by rfl) (fun u hu => ?_)
      obtain ⟨u, st⟩ := u
      dsimp only at hu ⊢
      have hiu := itr_lt hby hik (u + 1)
      have hgu := hgY _ hiu
      have hiu2 : itr B (u + 1 + 1) X = B (itr B (u + 1) X) := rfl
      have hcs := cirL_succ B X (u + 1)
      have hcl := cirL_len B X (u + 1)
      have hback := hp2.back
      have hleast := hp2.least (u + 1) (by omega)
      have hpn := Nat.lt_or_eq_of_le hu
      generalize hv : itr B (u + 1) X = v at *
      (refine sy1 ?_; try exact True.intro)
      repeat' (first | refine w1g ?_ | refine w1l ?_ | refine w1q ?_ | refine w1b ?_ | refine w1p ?_ | ((first | refine w1r ?_ | refine w1k ?_ | refine w1e ?_); (refine sy1 ?_; try exact True.intro)) | refine an2 ?_ | fail)
      refine W_cond (by rfl) (fun hb => ?_) (fun hb => ?_)
      · have hvX : v ≠ X := fun e => by rw [e] at hb; simp at hb
        have hup : u + 1 < p := by
          rcases hpn with q | q
          · exact q
          · rw [q] at hv; rw [hv] at hback; exact absurd hback hvX
        repeat' (first | refine w1g ?_ | refine w1l ?_ | refine w1q ?_ | refine w1b ?_ | refine w1p ?_ | ((first | refine w1r ?_ | refine w1k ?_ | refine w1e ?_); simp (maxSteps := 400000) (disch := omega) only [push_cast, ↓reduceIte, reduceCtorEq, Nat.reduceAdd, Nat.reduceSub, Nat.reduceEqDiff, Nat.reduceLeDiff, Nat.reduceLT, Nat.reduceBEq, Nat.reduceDiv, Nat.reduceMod, Nat.reducePow, Nat.reduceMul, Int.reduceToNat, Int.reduceLT, Int.reduceLE, hyl, hgu]) | refine an2 ?_ | fail)
        refine ⟨rfl, trivial, Int, 0, cI, [(v : Int)], rfl, by omega, fun x _ => ⟨rfl, rfl⟩, rfl, ?_⟩
        (refine sy1 ?_; try exact True.intro)
        refine ⟨rfl, ⟨Nat.le_of_ble_eq_true rfl, rfl⟩, trivial, [(v : Int)], rfl, by first | omega | (simp; omega), by first | omega | (simp; omega), ?_⟩
        (refine sy1 ?_; try exact True.intro)
        repeat' (first | refine w1g ?_ | refine w1l ?_ | refine w1q ?_ | refine w1b ?_ | refine w1p ?_ | ((first | refine w1r ?_ | refine w1k ?_ | refine w1e ?_); simp (maxSteps := 400000) (disch := omega) only [push_cast, ↓reduceIte, reduceCtorEq, Nat.reduceAdd, Nat.reduceSub, Nat.reduceEqDiff, Nat.reduceLeDiff, Nat.reduceLT, Nat.reduceBEq, Nat.reduceDiv, Nat.reduceMod, Nat.reducePow, Nat.reduceMul, Int.reduceToNat, Int.reduceLT, Int.reduceLE, hyl, hgu]) | refine an2 ?_ | fail)
        refine ⟨(u + 1, st), by dsimp only; omega, by dsimp only; omega, by rfl, ?_⟩
        dsimp only
        rw [hiu2, hcs]
      · have hvX : v = X := by
          have := bne_eq_false_iff_eq.1 hb
          omega
        have : u + 1 = p := by have := hleast hvX; omega
        rw [this]
        have hRl := cirL_len B X p
        generalize cirL B X p = R at *
        repeat' (first | refine w1g ?_ | refine w1l ?_ | refine w1q ?_ | refine w1b ?_ | refine w1p ?_ | ((first | refine w1r ?_ | refine w1k ?_ | refine w1e ?_); (refine sy1 ?_; try exact True.intro)) | refine an2 ?_ | fail)
        refine CallC.inl (i114 (k := 16) (st := u) (L := R) (by rfl) ?_ (by omega) rfl ?_)
        · intro j hj
          dsimp only at hj
          simp only [lm]
          rw [if_neg (by omega), if_neg (by omega), if_neg (by omega)]
        (refine sy1 ?_; try exact True.intro)
        repeat' (first | refine w1g ?_ | refine w1l ?_ | refine w1q ?_ | refine w1b ?_ | refine w1p ?_ | ((first | refine w1r ?_ | refine w1k ?_ | refine w1e ?_); (refine sy1 ?_; try exact True.intro)) | refine an2 ?_ | fail)
        refine W_ret ⟨[_], ⟨rfl, rfl⟩, ?_⟩
        simp (maxSteps := 400000) (disch := omega) only [push_cast, ↓reduceIte, reduceCtorEq, Nat.reduceAdd, Nat.reduceSub, Nat.reduceEqDiff, Nat.reduceLeDiff, Nat.reduceLT, Nat.reduceBEq, Nat.reduceDiv, Nat.reduceMod, Nat.reducePow, Nat.reduceMul, Int.reduceToNat, Int.reduceLT, Int.reduceLE, pack]
  exact ⟨fun h => key _ (fun _ => rfl) (fun q => absurd q h), fun h p h1 h2 => key _ (fun q => absurd h q) (fun _ => ⟨p, h1, h2, rfl⟩)⟩
theorem fn70n (n : Nat) (ls : List Af) (h0 : 0 < n) (hn : n ≤ 24) (hl : ls.length ≤ 240) (hls : ∀ e ∈ ls, LkOk n e) (h : ¬ Can (lkL ls) (rnds (lkL ls) (fun _ => 0) n)) : Sy.Fn Try.prog 70 [iv n, aA ls] nilS :=
  Fn_of_W mixed Xt70 rfl ((w70 n ls h0 hn hl hls).1 h)
theorem lk_in {n : Nat} {ls : List Af} (hls : ∀ e ∈ ls, LkOk n e) : ∀ e ∈ lkL ls, e.a < n ∧ e.b < n := fun e he => by
  obtain ⟨x, hx, rfl⟩ := List.mem_map.1 he
  obtain ⟨a1, a2, a3, a4, _⟩ := hls x hx
  constructor
  · show x.a.toNat < n; omega
  · show x.b.toNat < n; omega
theorem fn70s (n : Nat) (ls : List Af) (h0 : 0 < n) (hn : n ≤ 24) (hl : ls.length ≤ 240) (hls : ∀ e ∈ ls, LkOk n e) (h : Can (lkL ls) (rnds (lkL ls) (fun _ => 0) n)) : ∃ p, p ≤ n ∧ Per (brs (lkL ls) (n + 1)).by' (crcX n (lkL ls)) p ∧ Sy.Fn Try.prog 70 [iv n, aA ls] (aI (cirL (brs (lkL ls) (n + 1)).by' (crcX n (lkL ls)) p).reverse) := by
  have hin := lk_in hls
  have hlast := brs_last hin n
  have h1 : 0 ≤ (brs (lkL ls) (n + 1)).last := by
    rcases Int.lt_or_le (brs (lkL ls) (n + 1)).last 0 with q | q
    · exact absurd h (hlast.2.2.1 (by omega))
    · exact q
  have h2 := hlast.2.1
  obtain ⟨p, hp1, hp2⟩ := per_ex (brs_by hin h0 (n + 1)) (x := (brs (lkL ls) (n + 1)).last.toNat) (by omega)
  exact ⟨p, hp1, hp2, Fn_of_W mixed Xt70 rfl ((w70 n ls h0 hn hl hls).2 h p hp1 hp2)⟩
end Go.Proofs.Ytoiohkjomcbadaa

namespace Go.Proofs.Ytoiohkjomcbadaa
open Go Sy
set_option maxRecDepth 100000
set_option maxHeartbeats 4000000
set_option linter.unusedVariables false
set_option linter.unusedSimpArgs false
def Xm69_1 : C := regL [1, 2] none [⟨some 2, .box true 26 (.tmp 0), none⟩, ⟨some 4, .mv (.const (.pointer none)), none⟩]
def Xm69_3 : C := regL [5] (some [0, 0, 0, 6, 0, 16, 48, 112, 255, 511, 0, 2047]) [⟨some 9, .ld 26 3 true (.tmp 2), none⟩, ⟨some 10, .ld 26 3 true (.tmp 2), none⟩, ⟨some 11, .mv (.tmp 1), none⟩, ⟨some 12, .call 52 [.tmp 10, .tmp 11], none⟩, ⟨some 13, .fa 0 (.tmp 2), none⟩, ⟨some 14, .ld 22 1 false (.tmp 13), none⟩, ⟨some 15, .len (.tmp 14), none⟩, ⟨some 16, .mks 2 1 8 (.int .i64 0) (.tmp 15) (.tmp 15), none⟩, ⟨some 17, .bld (.agg #[.slice none 0 0, .slice none 0 0, .slice none 0 0, .slice none 0 0, .slice none 0 0, .slice none 0 0, .slice none 0 0, .bool false]) [(0, 3, .tmp 9), (3, 1, .tmp 12), (4, 1, .tmp 16)], none⟩, ⟨some 18, .box false 112 (.tmp 17), none⟩, ⟨some 5, .alc 107 (.pointer none), none⟩, ⟨none, .st 107 1 (.tmp 5) (.tmp 18), none⟩]
def Xm69_6 : C := regL [5, 23, 24] none [⟨some 19, .ld 107 1 false (.tmp 5), none⟩, ⟨some 20, .nilc (.tmp 19), none⟩, ⟨some 21, .fa 4 (.tmp 20), none⟩, ⟨some 22, .ld 24 1 false (.tmp 21), none⟩, ⟨some 23, .len (.tmp 22), none⟩, ⟨some 24, .mv (.const (.int .i64 0)), none⟩]
def Xm69_10 : C := regL [5, 23, 24, 25] none [⟨some 25, .bin 3 .lss (.tmp 24) (.tmp 23), none⟩]
def Xm69_12 : C := .cond (.tmp 25) .skip (.exit 0)
def Xm69_18 : C := regL [5, 6, 23, 24] none [⟨some 26, .mv (.tmp 24), none⟩, ⟨some 6, .mv (.tmp 26), none⟩]
def Xm69_19 : C := regL [5, 23, 24] none [⟨some 27, .ld 107 1 false (.tmp 5), none⟩, ⟨some 28, .nilc (.tmp 27), none⟩, ⟨some 29, .fa 4 (.tmp 28), none⟩, ⟨some 30, .ld 24 1 false (.tmp 29), none⟩, ⟨some 31, .mv (.tmp 6), none⟩, ⟨some 32, .ia 1 (.tmp 30) (.tmp 31), none⟩, ⟨none, .st 2 1 (.tmp 32) (.const (.int .i64 (-1))), none⟩]
def Xm69_17 : C := .seq Xm69_18 Xm69_19
def Xm69_16 : C := .block 1 Xm69_17
def Xm69_20 : C := regL [5, 23, 24] none [⟨some 33, .bin 3 .add (.tmp 24) (.const (.int .i64 1)), none⟩, ⟨some 24, .mv (.tmp 33), none⟩]
def Xm69_15 : C := seqL [5, 23, 24] Xm69_16 Xm69_20
def Xm69_11 : C := seqL [5, 23, 24] Xm69_12 Xm69_15
def Xm69_9 : C := .seq Xm69_10 Xm69_11
def Xm69_8 : C := loopL [5, 23, 24] Xm69_9
def Xm69_7 : C := .block 0 Xm69_8
def Xm69_5 : C := .seq Xm69_6 Xm69_7
def Xm69_23 : C := regL [5, 37, 38, 39] none [⟨some 34, .ld 107 1 false (.tmp 5), none⟩, ⟨some 35, .nilc (.tmp 34), none⟩, ⟨some 36, .fa 3 (.tmp 35), none⟩, ⟨some 37, .ld 23 1 false (.tmp 36), none⟩, ⟨some 38, .len (.tmp 37), none⟩, ⟨some 39, .mv (.const (.int .i64 0)), none⟩]
def Xm69_27 : C := regL [5, 37, 38, 39, 40] none [⟨some 40, .bin 3 .lss (.tmp 39) (.tmp 38), none⟩]
def Xm69_29 : C := .cond (.tmp 40) .skip (.exit 2)
def Xm69_35 : C := regL [5, 8, 37, 38, 39] none [⟨some 41, .ia 3 (.tmp 37) (.tmp 39), none⟩, ⟨some 42, .ld 39 3 true (.tmp 41), none⟩, ⟨some 8, .alc 39 (.agg #[.int .i64 0, .int .i64 0, .int .i64 0]), none⟩, ⟨none, .st 39 3 (.tmp 8) (.tmp 42), none⟩]
def Xm69_36 : C := regL [5, 37, 38, 39] (some [0, 0, 2, 6, 14, 0, 32, 126, 255, 511, 1023]) [⟨some 43, .ld 107 1 false (.tmp 5), none⟩, ⟨some 44, .ld 107 1 false (.tmp 5), none⟩, ⟨some 45, .nilc (.tmp 44), none⟩, ⟨some 46, .fa 6 (.tmp 45), none⟩, ⟨some 47, .ld 110 1 false (.tmp 46), none⟩, ⟨some 48, .mkf 112 [] [.tmp 5, .tmp 8], none⟩, ⟨some 49, .bls 29 1 1 (.nilFunc) [(0, 1, .tmp 48)], none⟩, ⟨some 50, .app 29 1 8 (.tmp 47) (.tmp 49), none⟩, ⟨some 51, .nilc (.tmp 43), none⟩, ⟨some 52, .fa 6 (.tmp 51), none⟩, ⟨none, .st 110 1 (.tmp 52) (.tmp 50), none⟩]
def Xm69_34 : C := .seq Xm69_35 Xm69_36
def Xm69_33 : C := .block 3 Xm69_34
def Xm69_37 : C := regL [5, 37, 38, 39] none [⟨some 53, .bin 3 .add (.tmp 39) (.const (.int .i64 1)), none⟩, ⟨some 39, .mv (.tmp 53), none⟩]
def Xm69_32 : C := seqL [5, 37, 38, 39] Xm69_33 Xm69_37
def Xm69_28 : C := seqL [5, 37, 38, 39] Xm69_29 Xm69_32
def Xm69_26 : C := .seq Xm69_27 Xm69_28
def Xm69_25 : C := loopL [5, 37, 38, 39] Xm69_26
def Xm69_24 : C := .block 2 Xm69_25
def Xm69_22 : C := .seq Xm69_23 Xm69_24
def Xm69_39 : C := regL [4] none [⟨some 54, .ld 107 1 false (.tmp 5), none⟩, ⟨some 4, .mv (.tmp 54), none⟩]
def Xm69_38 : C := .seq Xm69_39 .ret
def Xm69_21 : C := seqL [5] Xm69_22 Xm69_38
def Xm69_4 : C := seqL [5] Xm69_5 Xm69_21
def Xm69_2 : C := .seq Xm69_3 Xm69_4
def Xm69_0 : C := .seq Xm69_1 Xm69_2
theorem Xs69 : Text Try.prog 69 Xm69_0 55 2 [.t 4] := ⟨⟨Try.f69, [2], Try.func69, by kernel_rfl, by kernel_rfl, by kernel_rfl, by kernel_rfl⟩⟩
def cCl (b : Nat) (a : Af) : List AV := [.clo 112 [] [ptB b 0, .fp (cA a) 0]]
theorem lCl (b : Nat) (a : Af) : (cCl b a).length = 1 := rfl
theorem frCl (b : Nat) (a : Af) : frzAll (cCl b a) = true := rfl
theorem tCl (b : Nat) (a : Af) : List.take 1 (cCl b a) = cCl b a := rfl
theorem nCl (b : Nat) (a : Af) : nth (cCl b a) 0 = .clo 112 [] [ptB b 0, .fp (cA a) 0] := rfl
attribute [push_cast] lCl frCl tCl nCl
def slt (b : Bool) (x : AV) : AV := if b = true then x else .bad
theorem slt_t (x : AV) : slt true x = x := rfl
theorem slt_f (x : AV) : slt false x = .bad := rfl
theorem le_stK {s s' : S} (ks : List Nat) (nx : Nat) (h : ∀ j, nx ≤ j → lm s.mem j = none) (he : (⟨keepL s.tm ks, s.mem, nx⟩ : S) = s') : le s s' := he ▸ le_keepL ks nx h
def mNew (b : Nat) (a : Af) : Bool → Mem
  | true => [(60, .row 0 29 1 dAf (cCl b) [a])]
  | false => []
def bRow (b : Nat) (T : List Af) (a : Af) (k : Nat) : Bool → Blk
  | true => .row (k + 1) 29 1 dAf (cCl b) (T ++ [a])
  | false => .row k 29 1 dAf (cCl b) T
def bEng (j : Jb) (L : List Af) (k : Nat) : Bool → Blk
  | true => .cells [aT j.ts, aA j.af, aI j.tm, .sl 3 dAf cA L, .row 12 0, .row 24 0, .row 25 (k + 1), bv false]
  | false => .cells [aT j.ts, aA j.af, aI j.tm, .sl 3 dAf cA L, .row 12 0, .row 24 0, .row 25 k, bv false]
def nNx : Bool → Nat
  | true => 61
  | false => 60
def stR (j : Jb) (L T : List Af) (a : Af) (b k : Nat) (fr st : Blk) (D : Nat → Bool) : S :=
  ⟨[(5, .own 15 0), (8, .fp (cA a) 0), (37, .sl 3 dAf cA L), (38, iv L.length), (39, iv k), (43, slt (D 0) (.own 14 0)), (44, slt (D 1) (.own 14 0)), (45, slt (D 2) (.own 14 0)), (46, slt (D 3) (.own 14 6)), (47, slt (D 4) (.row 25 k)), (48, slt (D 5) (.clo 112 [] [ptB b 0, .fp (cA a) 0])), (49, slt (D 6) (.row 60 0)), (50, slt (D 7) (.row 25 (k + 1))), (51, slt (D 8) (.own 14 0)), (52, slt (D 9) (.own 14 6))],
    (25, bRow b T a k (D 7)) :: (24, .row 0 64 4 dRs cR []) :: (23, .oth (.nm 15 b)) :: (2, fr) :: (12, st) :: (14, bEng j L k (D 10)) :: (15, .cells [.own 14 0]) :: mNew b a (D 6), nNx (D 6)⟩
theorem le_cq_clo {s : S} (t j k b off g : Nat) (x : AV) (hx : frzB x = true) (ht : lk s.tm t = .cq g [] [.own k off, x]) (hn : lm s.mem j = some (.oth (.nm k b))) : le s ⟨(t, .clo g [] [ptB b off, x]) :: s.tm, s.mem, s.nx⟩ :=
  le_slot t _ fun G E a w hS y hy => by
    have h1 := nm_b hS hn
    rw [ht] at hy
    simp only [sat] at hy ⊢
    obtain ⟨fv, cv, rfl, h2, h3⟩ := hy
    refine ⟨fv, cv, rfl, ?_, ?_⟩
    · simpa only [fsatT, satT] using h2
    · simp only [satT, sat] at h3
      obtain ⟨y1, ys, rfl, ⟨b', q1, rfl⟩, y2, ys2, rfl, q2, rfl⟩ := h3
      rw [h1] at q1; cases q1
      simp only [fsatT, fsat]
      exact ⟨_, _, rfl, rfl, _, _, rfl, fsat_of_sat x y2 hx q2, rfl⟩
theorem no60 (b : Nat) (T : List Af) (a : Af) (k : Nat) (j : Jb) (L : List Af) (fr st : Blk) (c d e : Bool) (q : Nat) (hq : nNx c ≤ q) : lm ((25, bRow b T a k d) :: (24, .row 0 64 4 dRs cR []) :: (23, .oth (.nm 15 b)) :: (2, fr) :: (12, st) :: (14, bEng j L k e) :: (15, .cells [.own 14 0]) :: mNew b a c) q = none := by
  cases c
  all_goals
    simp only [nNx] at hq
    simp only [mNew, lm]
    repeat rw [if_neg (by omega)]
theorem reg69 (j : Jb) (L T : List Af) (a : Af) (b k : Nat) (vs : Array Value) (tmF : List (Nat × AV)) (st : List Int) (hT : T.length = k) (hk : k ≤ 1000) {Q : Ex → S → Prop}
    (hQ : Q .n ⟨[(5, .own 15 0), (37, .sl 3 dAf cA L), (38, iv L.length), (39, iv k)], [(25, .row (k + 1) 29 1 dAf (cCl b) (T ++ [a])), (24, .row 0 64 4 dRs cR []), (23, .oth (.nm 15 b)), (2, .oth (.fr vs tmF)), (12, .row 0 2 1 0 cI st), (14, .cells [aT j.ts, aA j.af, aI j.tm, .sl 3 dAf cA L, .row 12 0, .row 24 0, .row 25 (k + 1), bv false]), (15, .cells [.own 14 0]), (60, .row 0 29 1 dAf (cCl b) [a])], 61⟩) :
    W Try.prog 55 Xm69_36 ⟨[(8, .fp (cA a) 0), (5, .own 15 0), (37, .sl 3 dAf cA L), (38, iv L.length), (39, iv k)], [(25, .row k 29 1 dAf (cCl b) T), (24, .row 0 64 4 dRs cR []), (23, .oth (.nm 15 b)), (2, .oth (.fr vs tmF)), (12, .row 0 2 1 0 cI st), (14, .cells [aT j.ts, aA j.af, aI j.tm, .sl 3 dAf cA L, .row 12 0, .row 24 0, .row 25 k, bv false]), (15, .cells [.own 14 0])], 60⟩ Q := by
  refine W_regJ (stR j L T a b k (.oth (.fr vs tmF)) (.row 0 2 1 0 cI st)) ?_ (fun D i ro m hro hms hD ha hcl => ?_) (fun D hD => ?_)
  · exact le_stK [5, 8, 37, 38, 39, 43, 44, 45, 46, 47, 48, 49, 50, 51, 52] 60 (fun q hq => no60 b T a k j L (.oth (.fr vs tmF)) (.row 0 2 1 0 cI st) false false false q hq) (by rfl)
  · rcases i with _ | _ | _ | _ | _ | _ | _ | _ | _ | _ | _ | i
    all_goals simp only [List.getElem?_cons_zero, List.getElem?_cons_succ, List.getElem?_nil, Option.some.injEq, reduceCtorEq] at hro hms
    all_goals subst hro
    all_goals subst hms
    all_goals unfold stR
    · cases h6 : D 6 <;> cases h7 : D 7 <;> cases h10 : D 10
      all_goals simp (maxSteps := 400000) (disch := omega) only [push_cast, ↓reduceIte, reduceCtorEq, Nat.reduceAdd, Nat.reduceSub, Nat.reduceEqDiff, Nat.reduceLeDiff, Nat.reduceLT, Nat.reduceBEq, Nat.reduceDiv, Nat.reduceMod, Nat.reducePow, Nat.reduceMul, Int.reduceToNat, Int.reduceLT, Int.reduceLE, slt_t, slt_f, mNew, bRow, bEng, nNx, List.cons_append, List.nil_append, hD, h6, h7, h10]
      all_goals (first | exact le_stK [5, 8, 37, 38, 39, 43, 44, 45, 46, 47, 48, 49, 50, 51, 52] _ (fun q hq => no60 b T a k j L (.oth (.fr vs tmF)) (.row 0 2 1 0 cI st) false false false q hq) (by rfl) | exact le_stK [5, 8, 37, 38, 39, 43, 44, 45, 46, 47, 48, 49, 50, 51, 52] _ (fun q hq => no60 b T a k j L (.oth (.fr vs tmF)) (.row 0 2 1 0 cI st) false false true q hq) (by rfl) | exact le_stK [5, 8, 37, 38, 39, 43, 44, 45, 46, 47, 48, 49, 50, 51, 52] _ (fun q hq => no60 b T a k j L (.oth (.fr vs tmF)) (.row 0 2 1 0 cI st) false true false q hq) (by rfl) | exact le_stK [5, 8, 37, 38, 39, 43, 44, 45, 46, 47, 48, 49, 50, 51, 52] _ (fun q hq => no60 b T a k j L (.oth (.fr vs tmF)) (.row 0 2 1 0 cI st) false true true q hq) (by rfl) | exact le_stK [5, 8, 37, 38, 39, 43, 44, 45, 46, 47, 48, 49, 50, 51, 52] _ (fun q hq => no60 b T a k j L (.oth (.fr vs tmF)) (.row 0 2 1 0 cI st) true false false q hq) (by rfl) | exact le_stK [5, 8, 37, 38, 39, 43, 44, 45, 46, 47, 48, 49, 50, 51, 52] _ (fun q hq => no60 b T a k j L (.oth (.fr vs tmF)) (.row 0 2 1 0 cI st) true false true q hq) (by rfl) | exact le_stK [5, 8, 37, 38, 39, 43, 44, 45, 46, 47, 48, 49, 50, 51, 52] _ (fun q hq => no60 b T a k j L (.oth (.fr vs tmF)) (.row 0 2 1 0 cI st) true true false q hq) (by rfl) | exact le_stK [5, 8, 37, 38, 39, 43, 44, 45, 46, 47, 48, 49, 50, 51, 52] _ (fun q hq => no60 b T a k j L (.oth (.fr vs tmF)) (.row 0 2 1 0 cI st) true true true q hq) (by rfl))
    · cases h6 : D 6 <;> cases h7 : D 7 <;> cases h10 : D 10
      all_goals simp (maxSteps := 400000) (disch := omega) only [push_cast, ↓reduceIte, reduceCtorEq, Nat.reduceAdd, Nat.reduceSub, Nat.reduceEqDiff, Nat.reduceLeDiff, Nat.reduceLT, Nat.reduceBEq, Nat.reduceDiv, Nat.reduceMod, Nat.reducePow, Nat.reduceMul, Int.reduceToNat, Int.reduceLT, Int.reduceLE, slt_t, slt_f, mNew, bRow, bEng, nNx, List.cons_append, List.nil_append, hD, h6, h7, h10]
      all_goals (first | exact le_stK [5, 8, 37, 38, 39, 43, 44, 45, 46, 47, 48, 49, 50, 51, 52] _ (fun q hq => no60 b T a k j L (.oth (.fr vs tmF)) (.row 0 2 1 0 cI st) false false false q hq) (by rfl) | exact le_stK [5, 8, 37, 38, 39, 43, 44, 45, 46, 47, 48, 49, 50, 51, 52] _ (fun q hq => no60 b T a k j L (.oth (.fr vs tmF)) (.row 0 2 1 0 cI st) false false true q hq) (by rfl) | exact le_stK [5, 8, 37, 38, 39, 43, 44, 45, 46, 47, 48, 49, 50, 51, 52] _ (fun q hq => no60 b T a k j L (.oth (.fr vs tmF)) (.row 0 2 1 0 cI st) false true false q hq) (by rfl) | exact le_stK [5, 8, 37, 38, 39, 43, 44, 45, 46, 47, 48, 49, 50, 51, 52] _ (fun q hq => no60 b T a k j L (.oth (.fr vs tmF)) (.row 0 2 1 0 cI st) false true true q hq) (by rfl) | exact le_stK [5, 8, 37, 38, 39, 43, 44, 45, 46, 47, 48, 49, 50, 51, 52] _ (fun q hq => no60 b T a k j L (.oth (.fr vs tmF)) (.row 0 2 1 0 cI st) true false false q hq) (by rfl) | exact le_stK [5, 8, 37, 38, 39, 43, 44, 45, 46, 47, 48, 49, 50, 51, 52] _ (fun q hq => no60 b T a k j L (.oth (.fr vs tmF)) (.row 0 2 1 0 cI st) true false true q hq) (by rfl) | exact le_stK [5, 8, 37, 38, 39, 43, 44, 45, 46, 47, 48, 49, 50, 51, 52] _ (fun q hq => no60 b T a k j L (.oth (.fr vs tmF)) (.row 0 2 1 0 cI st) true true false q hq) (by rfl) | exact le_stK [5, 8, 37, 38, 39, 43, 44, 45, 46, 47, 48, 49, 50, 51, 52] _ (fun q hq => no60 b T a k j L (.oth (.fr vs tmF)) (.row 0 2 1 0 cI st) true true true q hq) (by rfl))
    · have a1 := ha 1 (by unfold tb; decide)
      cases h6 : D 6 <;> cases h7 : D 7 <;> cases h10 : D 10
      all_goals simp (maxSteps := 400000) (disch := omega) only [push_cast, ↓reduceIte, reduceCtorEq, Nat.reduceAdd, Nat.reduceSub, Nat.reduceEqDiff, Nat.reduceLeDiff, Nat.reduceLT, Nat.reduceBEq, Nat.reduceDiv, Nat.reduceMod, Nat.reducePow, Nat.reduceMul, Int.reduceToNat, Int.reduceLT, Int.reduceLE, slt_t, slt_f, mNew, bRow, bEng, nNx, List.cons_append, List.nil_append, hD, a1, h6, h7, h10]
      all_goals (first | exact le_stK [5, 8, 37, 38, 39, 43, 44, 45, 46, 47, 48, 49, 50, 51, 52] _ (fun q hq => no60 b T a k j L (.oth (.fr vs tmF)) (.row 0 2 1 0 cI st) false false false q hq) (by rfl) | exact le_stK [5, 8, 37, 38, 39, 43, 44, 45, 46, 47, 48, 49, 50, 51, 52] _ (fun q hq => no60 b T a k j L (.oth (.fr vs tmF)) (.row 0 2 1 0 cI st) false false true q hq) (by rfl) | exact le_stK [5, 8, 37, 38, 39, 43, 44, 45, 46, 47, 48, 49, 50, 51, 52] _ (fun q hq => no60 b T a k j L (.oth (.fr vs tmF)) (.row 0 2 1 0 cI st) false true false q hq) (by rfl) | exact le_stK [5, 8, 37, 38, 39, 43, 44, 45, 46, 47, 48, 49, 50, 51, 52] _ (fun q hq => no60 b T a k j L (.oth (.fr vs tmF)) (.row 0 2 1 0 cI st) false true true q hq) (by rfl) | exact le_stK [5, 8, 37, 38, 39, 43, 44, 45, 46, 47, 48, 49, 50, 51, 52] _ (fun q hq => no60 b T a k j L (.oth (.fr vs tmF)) (.row 0 2 1 0 cI st) true false false q hq) (by rfl) | exact le_stK [5, 8, 37, 38, 39, 43, 44, 45, 46, 47, 48, 49, 50, 51, 52] _ (fun q hq => no60 b T a k j L (.oth (.fr vs tmF)) (.row 0 2 1 0 cI st) true false true q hq) (by rfl) | exact le_stK [5, 8, 37, 38, 39, 43, 44, 45, 46, 47, 48, 49, 50, 51, 52] _ (fun q hq => no60 b T a k j L (.oth (.fr vs tmF)) (.row 0 2 1 0 cI st) true true false q hq) (by rfl) | exact le_stK [5, 8, 37, 38, 39, 43, 44, 45, 46, 47, 48, 49, 50, 51, 52] _ (fun q hq => no60 b T a k j L (.oth (.fr vs tmF)) (.row 0 2 1 0 cI st) true true true q hq) (by rfl))
    · have a1 := ha 1 (by unfold tb; decide)
      have a2 := ha 2 (by unfold tb; decide)
      cases h6 : D 6 <;> cases h7 : D 7 <;> cases h10 : D 10
      all_goals simp (maxSteps := 400000) (disch := omega) only [push_cast, ↓reduceIte, reduceCtorEq, Nat.reduceAdd, Nat.reduceSub, Nat.reduceEqDiff, Nat.reduceLeDiff, Nat.reduceLT, Nat.reduceBEq, Nat.reduceDiv, Nat.reduceMod, Nat.reducePow, Nat.reduceMul, Int.reduceToNat, Int.reduceLT, Int.reduceLE, slt_t, slt_f, mNew, bRow, bEng, nNx, List.cons_append, List.nil_append, hD, a1, a2, h6, h7, h10]
      all_goals (first | exact le_stK [5, 8, 37, 38, 39, 43, 44, 45, 46, 47, 48, 49, 50, 51, 52] _ (fun q hq => no60 b T a k j L (.oth (.fr vs tmF)) (.row 0 2 1 0 cI st) false false false q hq) (by rfl) | exact le_stK [5, 8, 37, 38, 39, 43, 44, 45, 46, 47, 48, 49, 50, 51, 52] _ (fun q hq => no60 b T a k j L (.oth (.fr vs tmF)) (.row 0 2 1 0 cI st) false false true q hq) (by rfl) | exact le_stK [5, 8, 37, 38, 39, 43, 44, 45, 46, 47, 48, 49, 50, 51, 52] _ (fun q hq => no60 b T a k j L (.oth (.fr vs tmF)) (.row 0 2 1 0 cI st) false true false q hq) (by rfl) | exact le_stK [5, 8, 37, 38, 39, 43, 44, 45, 46, 47, 48, 49, 50, 51, 52] _ (fun q hq => no60 b T a k j L (.oth (.fr vs tmF)) (.row 0 2 1 0 cI st) false true true q hq) (by rfl) | exact le_stK [5, 8, 37, 38, 39, 43, 44, 45, 46, 47, 48, 49, 50, 51, 52] _ (fun q hq => no60 b T a k j L (.oth (.fr vs tmF)) (.row 0 2 1 0 cI st) true false false q hq) (by rfl) | exact le_stK [5, 8, 37, 38, 39, 43, 44, 45, 46, 47, 48, 49, 50, 51, 52] _ (fun q hq => no60 b T a k j L (.oth (.fr vs tmF)) (.row 0 2 1 0 cI st) true false true q hq) (by rfl) | exact le_stK [5, 8, 37, 38, 39, 43, 44, 45, 46, 47, 48, 49, 50, 51, 52] _ (fun q hq => no60 b T a k j L (.oth (.fr vs tmF)) (.row 0 2 1 0 cI st) true true false q hq) (by rfl) | exact le_stK [5, 8, 37, 38, 39, 43, 44, 45, 46, 47, 48, 49, 50, 51, 52] _ (fun q hq => no60 b T a k j L (.oth (.fr vs tmF)) (.row 0 2 1 0 cI st) true true true q hq) (by rfl))
    · have a1 := ha 1 (by unfold tb; decide)
      have a2 := ha 2 (by unfold tb; decide)
      have a3 := ha 3 (by unfold tb; decide)
      have h10 : D 10 = false := by
        rw [← Bool.not_eq_true]
        intro q
        have := hcl 10 1023 q rfl 4 (by unfold tb; decide)
        rw [hD] at this; cases this
      cases h6 : D 6 <;> cases h7 : D 7
      all_goals simp (maxSteps := 400000) (disch := omega) only [push_cast, ↓reduceIte, reduceCtorEq, Nat.reduceAdd, Nat.reduceSub, Nat.reduceEqDiff, Nat.reduceLeDiff, Nat.reduceLT, Nat.reduceBEq, Nat.reduceDiv, Nat.reduceMod, Nat.reducePow, Nat.reduceMul, Int.reduceToNat, Int.reduceLT, Int.reduceLE, slt_t, slt_f, mNew, bRow, bEng, nNx, List.cons_append, List.nil_append, hD, a1, a2, a3, h6, h7, h10]
      all_goals (first | exact le_stK [5, 8, 37, 38, 39, 43, 44, 45, 46, 47, 48, 49, 50, 51, 52] _ (fun q hq => no60 b T a k j L (.oth (.fr vs tmF)) (.row 0 2 1 0 cI st) false false false q hq) (by rfl) | exact le_stK [5, 8, 37, 38, 39, 43, 44, 45, 46, 47, 48, 49, 50, 51, 52] _ (fun q hq => no60 b T a k j L (.oth (.fr vs tmF)) (.row 0 2 1 0 cI st) false false true q hq) (by rfl) | exact le_stK [5, 8, 37, 38, 39, 43, 44, 45, 46, 47, 48, 49, 50, 51, 52] _ (fun q hq => no60 b T a k j L (.oth (.fr vs tmF)) (.row 0 2 1 0 cI st) false true false q hq) (by rfl) | exact le_stK [5, 8, 37, 38, 39, 43, 44, 45, 46, 47, 48, 49, 50, 51, 52] _ (fun q hq => no60 b T a k j L (.oth (.fr vs tmF)) (.row 0 2 1 0 cI st) false true true q hq) (by rfl) | exact le_stK [5, 8, 37, 38, 39, 43, 44, 45, 46, 47, 48, 49, 50, 51, 52] _ (fun q hq => no60 b T a k j L (.oth (.fr vs tmF)) (.row 0 2 1 0 cI st) true false false q hq) (by rfl) | exact le_stK [5, 8, 37, 38, 39, 43, 44, 45, 46, 47, 48, 49, 50, 51, 52] _ (fun q hq => no60 b T a k j L (.oth (.fr vs tmF)) (.row 0 2 1 0 cI st) true false true q hq) (by rfl) | exact le_stK [5, 8, 37, 38, 39, 43, 44, 45, 46, 47, 48, 49, 50, 51, 52] _ (fun q hq => no60 b T a k j L (.oth (.fr vs tmF)) (.row 0 2 1 0 cI st) true true false q hq) (by rfl) | exact le_stK [5, 8, 37, 38, 39, 43, 44, 45, 46, 47, 48, 49, 50, 51, 52] _ (fun q hq => no60 b T a k j L (.oth (.fr vs tmF)) (.row 0 2 1 0 cI st) true true true q hq) (by rfl))
    · cases h6 : D 6 <;> cases h7 : D 7 <;> cases h10 : D 10
      all_goals simp (maxSteps := 400000) (disch := omega) only [push_cast, ↓reduceIte, reduceCtorEq, Nat.reduceAdd, Nat.reduceSub, Nat.reduceEqDiff, Nat.reduceLeDiff, Nat.reduceLT, Nat.reduceBEq, Nat.reduceDiv, Nat.reduceMod, Nat.reducePow, Nat.reduceMul, Int.reduceToNat, Int.reduceLT, Int.reduceLE, slt_t, slt_f, mNew, bRow, bEng, nNx, List.cons_append, List.nil_append, hD, h6, h7, h10]
      all_goals refine le.trans (le_cq_clo 48 23 15 b 0 112 (.fp (cA a) 0) rfl rfl rfl) ?_
      all_goals (first | exact le_stK [5, 8, 37, 38, 39, 43, 44, 45, 46, 47, 48, 49, 50, 51, 52] _ (fun q hq => no60 b T a k j L (.oth (.fr vs tmF)) (.row 0 2 1 0 cI st) false false false q hq) (by rfl) | exact le_stK [5, 8, 37, 38, 39, 43, 44, 45, 46, 47, 48, 49, 50, 51, 52] _ (fun q hq => no60 b T a k j L (.oth (.fr vs tmF)) (.row 0 2 1 0 cI st) false false true q hq) (by rfl) | exact le_stK [5, 8, 37, 38, 39, 43, 44, 45, 46, 47, 48, 49, 50, 51, 52] _ (fun q hq => no60 b T a k j L (.oth (.fr vs tmF)) (.row 0 2 1 0 cI st) false true false q hq) (by rfl) | exact le_stK [5, 8, 37, 38, 39, 43, 44, 45, 46, 47, 48, 49, 50, 51, 52] _ (fun q hq => no60 b T a k j L (.oth (.fr vs tmF)) (.row 0 2 1 0 cI st) false true true q hq) (by rfl) | exact le_stK [5, 8, 37, 38, 39, 43, 44, 45, 46, 47, 48, 49, 50, 51, 52] _ (fun q hq => no60 b T a k j L (.oth (.fr vs tmF)) (.row 0 2 1 0 cI st) true false false q hq) (by rfl) | exact le_stK [5, 8, 37, 38, 39, 43, 44, 45, 46, 47, 48, 49, 50, 51, 52] _ (fun q hq => no60 b T a k j L (.oth (.fr vs tmF)) (.row 0 2 1 0 cI st) true false true q hq) (by rfl) | exact le_stK [5, 8, 37, 38, 39, 43, 44, 45, 46, 47, 48, 49, 50, 51, 52] _ (fun q hq => no60 b T a k j L (.oth (.fr vs tmF)) (.row 0 2 1 0 cI st) true true false q hq) (by rfl) | exact le_stK [5, 8, 37, 38, 39, 43, 44, 45, 46, 47, 48, 49, 50, 51, 52] _ (fun q hq => no60 b T a k j L (.oth (.fr vs tmF)) (.row 0 2 1 0 cI st) true true true q hq) (by rfl))
    · have a5 := ha 5 (by unfold tb; decide)
      cases h7 : D 7 <;> cases h10 : D 10
      all_goals simp (maxSteps := 400000) (disch := omega) only [push_cast, ↓reduceIte, reduceCtorEq, Nat.reduceAdd, Nat.reduceSub, Nat.reduceEqDiff, Nat.reduceLeDiff, Nat.reduceLT, Nat.reduceBEq, Nat.reduceDiv, Nat.reduceMod, Nat.reducePow, Nat.reduceMul, Int.reduceToNat, Int.reduceLT, Int.reduceLE, slt_t, slt_f, mNew, bRow, bEng, nNx, List.cons_append, List.nil_append, hD, a5, h7, h10]
      all_goals refine ⟨rfl, trivial, Af, dAf, cCl b, [a], rfl, by omega, fun x _ => ⟨rfl, rfl⟩, rfl, ?_⟩
      all_goals simp (maxSteps := 400000) (disch := omega) only [push_cast, ↓reduceIte, reduceCtorEq, Nat.reduceAdd, Nat.reduceSub, Nat.reduceEqDiff, Nat.reduceLeDiff, Nat.reduceLT, Nat.reduceBEq, Nat.reduceDiv, Nat.reduceMod, Nat.reducePow, Nat.reduceMul, Int.reduceToNat, Int.reduceLT, Int.reduceLE, slt_t, slt_f]
      all_goals (first | exact le_stK [5, 8, 37, 38, 39, 43, 44, 45, 46, 47, 48, 49, 50, 51, 52] _ (fun q hq => no60 b T a k j L (.oth (.fr vs tmF)) (.row 0 2 1 0 cI st) false false false q hq) (by rfl) | exact le_stK [5, 8, 37, 38, 39, 43, 44, 45, 46, 47, 48, 49, 50, 51, 52] _ (fun q hq => no60 b T a k j L (.oth (.fr vs tmF)) (.row 0 2 1 0 cI st) false false true q hq) (by rfl) | exact le_stK [5, 8, 37, 38, 39, 43, 44, 45, 46, 47, 48, 49, 50, 51, 52] _ (fun q hq => no60 b T a k j L (.oth (.fr vs tmF)) (.row 0 2 1 0 cI st) false true false q hq) (by rfl) | exact le_stK [5, 8, 37, 38, 39, 43, 44, 45, 46, 47, 48, 49, 50, 51, 52] _ (fun q hq => no60 b T a k j L (.oth (.fr vs tmF)) (.row 0 2 1 0 cI st) false true true q hq) (by rfl) | exact le_stK [5, 8, 37, 38, 39, 43, 44, 45, 46, 47, 48, 49, 50, 51, 52] _ (fun q hq => no60 b T a k j L (.oth (.fr vs tmF)) (.row 0 2 1 0 cI st) true false false q hq) (by rfl) | exact le_stK [5, 8, 37, 38, 39, 43, 44, 45, 46, 47, 48, 49, 50, 51, 52] _ (fun q hq => no60 b T a k j L (.oth (.fr vs tmF)) (.row 0 2 1 0 cI st) true false true q hq) (by rfl) | exact le_stK [5, 8, 37, 38, 39, 43, 44, 45, 46, 47, 48, 49, 50, 51, 52] _ (fun q hq => no60 b T a k j L (.oth (.fr vs tmF)) (.row 0 2 1 0 cI st) true true false q hq) (by rfl) | exact le_stK [5, 8, 37, 38, 39, 43, 44, 45, 46, 47, 48, 49, 50, 51, 52] _ (fun q hq => no60 b T a k j L (.oth (.fr vs tmF)) (.row 0 2 1 0 cI st) true true true q hq) (by rfl))
    · have a4 := ha 4 (by unfold tb; decide)
      have a6 := ha 6 (by unfold tb; decide)
      cases h10 : D 10
      all_goals simp (maxSteps := 400000) (disch := omega) only [push_cast, ↓reduceIte, reduceCtorEq, Nat.reduceAdd, Nat.reduceSub, Nat.reduceEqDiff, Nat.reduceLeDiff, Nat.reduceLT, Nat.reduceBEq, Nat.reduceDiv, Nat.reduceMod, Nat.reducePow, Nat.reduceMul, Int.reduceToNat, Int.reduceLT, Int.reduceLE, slt_t, slt_f, mNew, bRow, bEng, nNx, List.cons_append, List.nil_append, hD, a4, a6, h10]
      all_goals refine ⟨rfl, ⟨Nat.le_of_ble_eq_true rfl, rfl⟩, trivial, [a], rfl, by first | omega | (simp; omega), by first | omega | (simp; omega), ?_⟩
      all_goals simp (maxSteps := 400000) (disch := omega) only [push_cast, ↓reduceIte, reduceCtorEq, Nat.reduceAdd, Nat.reduceSub, Nat.reduceEqDiff, Nat.reduceLeDiff, Nat.reduceLT, Nat.reduceBEq, Nat.reduceDiv, Nat.reduceMod, Nat.reducePow, Nat.reduceMul, Int.reduceToNat, Int.reduceLT, Int.reduceLE, slt_t, slt_f]
      all_goals (first | exact le_stK [5, 8, 37, 38, 39, 43, 44, 45, 46, 47, 48, 49, 50, 51, 52] _ (fun q hq => no60 b T a k j L (.oth (.fr vs tmF)) (.row 0 2 1 0 cI st) false false false q hq) (by rfl) | exact le_stK [5, 8, 37, 38, 39, 43, 44, 45, 46, 47, 48, 49, 50, 51, 52] _ (fun q hq => no60 b T a k j L (.oth (.fr vs tmF)) (.row 0 2 1 0 cI st) false false true q hq) (by rfl) | exact le_stK [5, 8, 37, 38, 39, 43, 44, 45, 46, 47, 48, 49, 50, 51, 52] _ (fun q hq => no60 b T a k j L (.oth (.fr vs tmF)) (.row 0 2 1 0 cI st) false true false q hq) (by rfl) | exact le_stK [5, 8, 37, 38, 39, 43, 44, 45, 46, 47, 48, 49, 50, 51, 52] _ (fun q hq => no60 b T a k j L (.oth (.fr vs tmF)) (.row 0 2 1 0 cI st) false true true q hq) (by rfl) | exact le_stK [5, 8, 37, 38, 39, 43, 44, 45, 46, 47, 48, 49, 50, 51, 52] _ (fun q hq => no60 b T a k j L (.oth (.fr vs tmF)) (.row 0 2 1 0 cI st) true false false q hq) (by rfl) | exact le_stK [5, 8, 37, 38, 39, 43, 44, 45, 46, 47, 48, 49, 50, 51, 52] _ (fun q hq => no60 b T a k j L (.oth (.fr vs tmF)) (.row 0 2 1 0 cI st) true false true q hq) (by rfl) | exact le_stK [5, 8, 37, 38, 39, 43, 44, 45, 46, 47, 48, 49, 50, 51, 52] _ (fun q hq => no60 b T a k j L (.oth (.fr vs tmF)) (.row 0 2 1 0 cI st) true true false q hq) (by rfl) | exact le_stK [5, 8, 37, 38, 39, 43, 44, 45, 46, 47, 48, 49, 50, 51, 52] _ (fun q hq => no60 b T a k j L (.oth (.fr vs tmF)) (.row 0 2 1 0 cI st) true true true q hq) (by rfl))
    · have a0 := ha 0 (by unfold tb; decide)
      cases h6 : D 6 <;> cases h7 : D 7 <;> cases h10 : D 10
      all_goals simp (maxSteps := 400000) (disch := omega) only [push_cast, ↓reduceIte, reduceCtorEq, Nat.reduceAdd, Nat.reduceSub, Nat.reduceEqDiff, Nat.reduceLeDiff, Nat.reduceLT, Nat.reduceBEq, Nat.reduceDiv, Nat.reduceMod, Nat.reducePow, Nat.reduceMul, Int.reduceToNat, Int.reduceLT, Int.reduceLE, slt_t, slt_f, mNew, bRow, bEng, nNx, List.cons_append, List.nil_append, hD, a0, h6, h7, h10]
      all_goals (first | exact le_stK [5, 8, 37, 38, 39, 43, 44, 45, 46, 47, 48, 49, 50, 51, 52] _ (fun q hq => no60 b T a k j L (.oth (.fr vs tmF)) (.row 0 2 1 0 cI st) false false false q hq) (by rfl) | exact le_stK [5, 8, 37, 38, 39, 43, 44, 45, 46, 47, 48, 49, 50, 51, 52] _ (fun q hq => no60 b T a k j L (.oth (.fr vs tmF)) (.row 0 2 1 0 cI st) false false true q hq) (by rfl) | exact le_stK [5, 8, 37, 38, 39, 43, 44, 45, 46, 47, 48, 49, 50, 51, 52] _ (fun q hq => no60 b T a k j L (.oth (.fr vs tmF)) (.row 0 2 1 0 cI st) false true false q hq) (by rfl) | exact le_stK [5, 8, 37, 38, 39, 43, 44, 45, 46, 47, 48, 49, 50, 51, 52] _ (fun q hq => no60 b T a k j L (.oth (.fr vs tmF)) (.row 0 2 1 0 cI st) false true true q hq) (by rfl) | exact le_stK [5, 8, 37, 38, 39, 43, 44, 45, 46, 47, 48, 49, 50, 51, 52] _ (fun q hq => no60 b T a k j L (.oth (.fr vs tmF)) (.row 0 2 1 0 cI st) true false false q hq) (by rfl) | exact le_stK [5, 8, 37, 38, 39, 43, 44, 45, 46, 47, 48, 49, 50, 51, 52] _ (fun q hq => no60 b T a k j L (.oth (.fr vs tmF)) (.row 0 2 1 0 cI st) true false true q hq) (by rfl) | exact le_stK [5, 8, 37, 38, 39, 43, 44, 45, 46, 47, 48, 49, 50, 51, 52] _ (fun q hq => no60 b T a k j L (.oth (.fr vs tmF)) (.row 0 2 1 0 cI st) true true false q hq) (by rfl) | exact le_stK [5, 8, 37, 38, 39, 43, 44, 45, 46, 47, 48, 49, 50, 51, 52] _ (fun q hq => no60 b T a k j L (.oth (.fr vs tmF)) (.row 0 2 1 0 cI st) true true true q hq) (by rfl))
    · have a8 := ha 8 (by unfold tb; decide)
      cases h6 : D 6 <;> cases h7 : D 7 <;> cases h10 : D 10
      all_goals simp (maxSteps := 400000) (disch := omega) only [push_cast, ↓reduceIte, reduceCtorEq, Nat.reduceAdd, Nat.reduceSub, Nat.reduceEqDiff, Nat.reduceLeDiff, Nat.reduceLT, Nat.reduceBEq, Nat.reduceDiv, Nat.reduceMod, Nat.reducePow, Nat.reduceMul, Int.reduceToNat, Int.reduceLT, Int.reduceLE, slt_t, slt_f, mNew, bRow, bEng, nNx, List.cons_append, List.nil_append, hD, a8, h6, h7, h10]
      all_goals (first | exact le_stK [5, 8, 37, 38, 39, 43, 44, 45, 46, 47, 48, 49, 50, 51, 52] _ (fun q hq => no60 b T a k j L (.oth (.fr vs tmF)) (.row 0 2 1 0 cI st) false false false q hq) (by rfl) | exact le_stK [5, 8, 37, 38, 39, 43, 44, 45, 46, 47, 48, 49, 50, 51, 52] _ (fun q hq => no60 b T a k j L (.oth (.fr vs tmF)) (.row 0 2 1 0 cI st) false false true q hq) (by rfl) | exact le_stK [5, 8, 37, 38, 39, 43, 44, 45, 46, 47, 48, 49, 50, 51, 52] _ (fun q hq => no60 b T a k j L (.oth (.fr vs tmF)) (.row 0 2 1 0 cI st) false true false q hq) (by rfl) | exact le_stK [5, 8, 37, 38, 39, 43, 44, 45, 46, 47, 48, 49, 50, 51, 52] _ (fun q hq => no60 b T a k j L (.oth (.fr vs tmF)) (.row 0 2 1 0 cI st) false true true q hq) (by rfl) | exact le_stK [5, 8, 37, 38, 39, 43, 44, 45, 46, 47, 48, 49, 50, 51, 52] _ (fun q hq => no60 b T a k j L (.oth (.fr vs tmF)) (.row 0 2 1 0 cI st) true false false q hq) (by rfl) | exact le_stK [5, 8, 37, 38, 39, 43, 44, 45, 46, 47, 48, 49, 50, 51, 52] _ (fun q hq => no60 b T a k j L (.oth (.fr vs tmF)) (.row 0 2 1 0 cI st) true false true q hq) (by rfl) | exact le_stK [5, 8, 37, 38, 39, 43, 44, 45, 46, 47, 48, 49, 50, 51, 52] _ (fun q hq => no60 b T a k j L (.oth (.fr vs tmF)) (.row 0 2 1 0 cI st) true true false q hq) (by rfl) | exact le_stK [5, 8, 37, 38, 39, 43, 44, 45, 46, 47, 48, 49, 50, 51, 52] _ (fun q hq => no60 b T a k j L (.oth (.fr vs tmF)) (.row 0 2 1 0 cI st) true true true q hq) (by rfl))
    · have a7 := ha 7 (by unfold tb; decide)
      have a9 := ha 9 (by unfold tb; decide)
      cases h6 : D 6
      all_goals simp (maxSteps := 400000) (disch := omega) only [push_cast, ↓reduceIte, reduceCtorEq, Nat.reduceAdd, Nat.reduceSub, Nat.reduceEqDiff, Nat.reduceLeDiff, Nat.reduceLT, Nat.reduceBEq, Nat.reduceDiv, Nat.reduceMod, Nat.reducePow, Nat.reduceMul, Int.reduceToNat, Int.reduceLT, Int.reduceLE, slt_t, slt_f, mNew, bRow, bEng, nNx, List.cons_append, List.nil_append, hD, a7, a9, h6]
      all_goals (first | (refine ⟨by simp, ?_⟩; (first | exact le_stK [5, 8, 37, 38, 39, 43, 44, 45, 46, 47, 48, 49, 50, 51, 52] _ (fun q hq => no60 b T a k j L (.oth (.fr vs tmF)) (.row 0 2 1 0 cI st) false false false q hq) (by rfl) | exact le_stK [5, 8, 37, 38, 39, 43, 44, 45, 46, 47, 48, 49, 50, 51, 52] _ (fun q hq => no60 b T a k j L (.oth (.fr vs tmF)) (.row 0 2 1 0 cI st) false false true q hq) (by rfl) | exact le_stK [5, 8, 37, 38, 39, 43, 44, 45, 46, 47, 48, 49, 50, 51, 52] _ (fun q hq => no60 b T a k j L (.oth (.fr vs tmF)) (.row 0 2 1 0 cI st) false true false q hq) (by rfl) | exact le_stK [5, 8, 37, 38, 39, 43, 44, 45, 46, 47, 48, 49, 50, 51, 52] _ (fun q hq => no60 b T a k j L (.oth (.fr vs tmF)) (.row 0 2 1 0 cI st) false true true q hq) (by rfl) | exact le_stK [5, 8, 37, 38, 39, 43, 44, 45, 46, 47, 48, 49, 50, 51, 52] _ (fun q hq => no60 b T a k j L (.oth (.fr vs tmF)) (.row 0 2 1 0 cI st) true false false q hq) (by rfl) | exact le_stK [5, 8, 37, 38, 39, 43, 44, 45, 46, 47, 48, 49, 50, 51, 52] _ (fun q hq => no60 b T a k j L (.oth (.fr vs tmF)) (.row 0 2 1 0 cI st) true false true q hq) (by rfl) | exact le_stK [5, 8, 37, 38, 39, 43, 44, 45, 46, 47, 48, 49, 50, 51, 52] _ (fun q hq => no60 b T a k j L (.oth (.fr vs tmF)) (.row 0 2 1 0 cI st) true true false q hq) (by rfl) | exact le_stK [5, 8, 37, 38, 39, 43, 44, 45, 46, 47, 48, 49, 50, 51, 52] _ (fun q hq => no60 b T a k j L (.oth (.fr vs tmF)) (.row 0 2 1 0 cI st) true true true q hq) (by rfl))) | (first | exact le_stK [5, 8, 37, 38, 39, 43, 44, 45, 46, 47, 48, 49, 50, 51, 52] _ (fun q hq => no60 b T a k j L (.oth (.fr vs tmF)) (.row 0 2 1 0 cI st) false false false q hq) (by rfl) | exact le_stK [5, 8, 37, 38, 39, 43, 44, 45, 46, 47, 48, 49, 50, 51, 52] _ (fun q hq => no60 b T a k j L (.oth (.fr vs tmF)) (.row 0 2 1 0 cI st) false false true q hq) (by rfl) | exact le_stK [5, 8, 37, 38, 39, 43, 44, 45, 46, 47, 48, 49, 50, 51, 52] _ (fun q hq => no60 b T a k j L (.oth (.fr vs tmF)) (.row 0 2 1 0 cI st) false true false q hq) (by rfl) | exact le_stK [5, 8, 37, 38, 39, 43, 44, 45, 46, 47, 48, 49, 50, 51, 52] _ (fun q hq => no60 b T a k j L (.oth (.fr vs tmF)) (.row 0 2 1 0 cI st) false true true q hq) (by rfl) | exact le_stK [5, 8, 37, 38, 39, 43, 44, 45, 46, 47, 48, 49, 50, 51, 52] _ (fun q hq => no60 b T a k j L (.oth (.fr vs tmF)) (.row 0 2 1 0 cI st) true false false q hq) (by rfl) | exact le_stK [5, 8, 37, 38, 39, 43, 44, 45, 46, 47, 48, 49, 50, 51, 52] _ (fun q hq => no60 b T a k j L (.oth (.fr vs tmF)) (.row 0 2 1 0 cI st) true false true q hq) (by rfl) | exact le_stK [5, 8, 37, 38, 39, 43, 44, 45, 46, 47, 48, 49, 50, 51, 52] _ (fun q hq => no60 b T a k j L (.oth (.fr vs tmF)) (.row 0 2 1 0 cI st) true true false q hq) (by rfl) | exact le_stK [5, 8, 37, 38, 39, 43, 44, 45, 46, 47, 48, 49, 50, 51, 52] _ (fun q hq => no60 b T a k j L (.oth (.fr vs tmF)) (.row 0 2 1 0 cI st) true true true q hq) (by rfl)))
  · refine ⟨_, le.refl _, ?_⟩
    have h6 := hD 6 (by decide)
    have h7 := hD 7 (by decide)
    have h10 := hD 10 (by decide)
    unfold stR
    rw [h6, h7, h10]
    exact hQ
def f1 (i : Nat) : Nat → Int := fun k => if k < i then -1 else 0
theorem f1_zero : (fun _ => 0) = f1 0 := by funext k; unfold f1; rw [if_neg (by omega)]
theorem f1_step (i : Nat) : putF (f1 i) i (-1) = f1 (i + 1) := by
  funext k
  unfold putF f1
  by_cases q : k = i
  · rw [if_pos q, if_pos (by omega)]
  · rw [if_neg q]
    by_cases q2 : k < i
    · rw [if_pos q2, if_pos (by omega)]
    · rw [if_neg q2, if_neg (by omega)]
end Go.Proofs.Ytoiohkjomcbadaa

namespace Go.Proofs.Ytoiohkjomcbadaa
open Go Sy
set_option maxRecDepth 100000
set_option maxHeartbeats 4000000
set_option linter.unusedVariables false
set_option linter.unusedSimpArgs false
def engM (b : Nat) (j : Jb) (L : List Af) (ss : List Int) (lg : List Rs) (dd : Bool) : Mem :=
  [(25, .row L.length 29 1 dAf (cCl b) L), (24, .row lg.length 64 4 dRs cR lg), (23, .oth (.nm 15 b)), (12, .row 0 2 1 0 cI ss), (14, .cells [aT j.ts, aA j.af, aI j.tm, .sl 3 dAf cA L, .row 12 0, .row 24 lg.length, .row 25 L.length, bv dd]), (15, .cells [.own 14 0])]
theorem engM_bas (b : Nat) (j : Jb) (L : List Af) (ss : List Int) (lg : List Rs) (dd : Bool) : Bas 60 (engM b j L ss lg dd) := bas_of rfl
def setN (j : Jb) (i : Nat) (fr : Int) : Int := fstW (gt j.ts i).mi fr (gt j.ts i).ws
theorem i113 (b : Nat) (j : Jb) (L : List Af) (ss : List Int) (lg : List Rs) (dd : Bool) (h : OkJ j) (i : Nat) (by' fr : Int) (hi : i < j.ts.length) (hs : ss.length = j.ts.length) (hlg : lg.length ≤ 1000000000) (hf : -1125899906842624 ≤ fr ∧ fr ≤ 1125899906842624)
    {tm : List (Nat × AV)} {R : Mem} {nx : Nat} (hR : Opq 60 R nx) :
    Inl Try.prog 113 [.own 14 0, iv i, iv by', iv fr] ⟨tm, engM b j L ss lg dd ++ R, nx⟩ (MidX 60 tm nx R fun r B' => r = bv (decide (0 ≤ setN j i fr)) ∧ B' = engM b j L (ss.set i (setN j i fr)) (lg ++ [⟨i, by', fr, setN j i fr⟩]) (!decide (0 ≤ setN j i fr))) := by
  refine Inl_opq mixed Xt113 rfl hR (engM_bas b j L ss lg dd) (fun R' nx' hR' => ?_)
  have hN := hR'.n
  obtain ⟨hk, _⟩ := h.t i hi
  have hw := h.w i hi
  have c64 := fn64 (gt j.ts i).ws (gt j.ts i).mi fr (by omega) hk.2.2 ⟨hk.1, hk.2.1⟩ hf
  have hV : fstV (gt j.ts i).mi fr (gt j.ts i).ws = if 0 ≤ setN j i fr then setN j i fr else 0 := rfl
  have hM : setN j i fr = -1 ∨ 0 ≤ setN j i fr := by
    rcases fst_fit (mi := (gt j.ts i).mi) (fr := fr) hk.2.2 (Int.le_refl 0) hk.1 with q | q
    · exact .inl q
    · exact .inr q.1
  have hF : fstW (gt j.ts i).mi fr (gt j.ts i).ws = setN j i fr := rfl
  have hgt : j.ts.getD i dTk = gt j.ts i := rfl
  rw [hV, hF] at c64
  generalize setN j i fr = n at *
  generalize hx : gt j.ts i = x at *
  obtain ⟨lg2, hl2⟩ : ∃ lg2, lg2 = lg ++ [⟨i, by', fr, n⟩] := ⟨_, rfl⟩
  have hl3 : lg2.length = lg.length + 1 := by rw [hl2]; simp
  obtain ⟨B1, hB1⟩ : ∃ B1, B1 = engM b j L (ss.set i n) lg2 (!decide (0 ≤ n)) := ⟨_, rfl⟩
  rw [← hl2, ← hB1]
  rw [← hx] at hgt
  by_cases hn : 0 ≤ n
  · rw [if_pos hn, decide_eq_true hn] at c64
    rw [decide_eq_true hn] at hB1 ⊢
    simp (maxSteps := 400000) (disch := omega) only [push_cast, ↓reduceIte, reduceCtorEq, Nat.reduceAdd, Nat.reduceSub, Nat.reduceEqDiff, Nat.reduceLeDiff, Nat.reduceLT, Nat.reduceBEq, Nat.reduceDiv, Nat.reduceMod, Nat.reducePow, Nat.reduceMul, Int.reduceToNat, Int.reduceLT, Int.reduceLE, initT, engM, List.cons_append, List.nil_append]
    repeat' (first | refine w1g ?_ | refine w1l ?_ | refine w1q ?_ | refine w1b ?_ | refine w1p ?_ | ((first | refine w1r ?_ | refine w1k ?_ | refine w1e ?_ | refine CallC.now (c64) ?_); simp (maxSteps := 400000) (disch := omega) only [push_cast, ↓reduceIte, reduceCtorEq, Nat.reduceAdd, Nat.reduceSub, Nat.reduceEqDiff, Nat.reduceLeDiff, Nat.reduceLT, Nat.reduceBEq, Nat.reduceDiv, Nat.reduceMod, Nat.reducePow, Nat.reduceMul, Int.reduceToNat, Int.reduceLT, Int.reduceLE, ne_l, ne_r, hgt, hx]) | refine an2 ?_ | fail)
    refine W_cond (by rfl) (fun h => by cases h) (fun _ => ?_)
    repeat' (first | refine w1g ?_ | refine w1l ?_ | refine w1q ?_ | refine w1b ?_ | refine w1p ?_ | ((first | refine w1r ?_ | refine w1k ?_ | refine w1e ?_); simp (maxSteps := 400000) (disch := omega) only [push_cast, ↓reduceIte, reduceCtorEq, Nat.reduceAdd, Nat.reduceSub, Nat.reduceEqDiff, Nat.reduceLeDiff, Nat.reduceLT, Nat.reduceBEq, Nat.reduceDiv, Nat.reduceMod, Nat.reducePow, Nat.reduceMul, Int.reduceToNat, Int.reduceLT, Int.reduceLE, ne_l, ne_r]) | refine an2 ?_ | fail)
    refine ⟨rfl, trivial, Rs, dRs, cR, [⟨i, by', fr, n⟩], rfl, by omega, fun x _ => ⟨rfl, rfl⟩, rfl, ?_⟩
    simp (maxSteps := 400000) (disch := omega) only [push_cast, ↓reduceIte, reduceCtorEq, Nat.reduceAdd, Nat.reduceSub, Nat.reduceEqDiff, Nat.reduceLeDiff, Nat.reduceLT, Nat.reduceBEq, Nat.reduceDiv, Nat.reduceMod, Nat.reducePow, Nat.reduceMul, Int.reduceToNat, Int.reduceLT, Int.reduceLE, ne_l, ne_r]
    refine ⟨rfl, ⟨by dsimp only; omega, rfl⟩, trivial, [⟨i, by', fr, n⟩], rfl, by first | omega | (simp; omega), by first | omega | (simp; omega), ?_⟩
    rw [← hl2]
    simp (maxSteps := 400000) (disch := omega) only [push_cast, ↓reduceIte, reduceCtorEq, Nat.reduceAdd, Nat.reduceSub, Nat.reduceEqDiff, Nat.reduceLeDiff, Nat.reduceLT, Nat.reduceBEq, Nat.reduceDiv, Nat.reduceMod, Nat.reducePow, Nat.reduceMul, Int.reduceToNat, Int.reduceLT, Int.reduceLE, ne_l, ne_r]
    repeat' (first | refine w1g ?_ | refine w1l ?_ | refine w1q ?_ | refine w1b ?_ | refine w1p ?_ | ((first | refine w1r ?_ | refine w1k ?_ | refine w1e ?_); simp (maxSteps := 400000) (disch := omega) only [push_cast, ↓reduceIte, reduceCtorEq, Nat.reduceAdd, Nat.reduceSub, Nat.reduceEqDiff, Nat.reduceLeDiff, Nat.reduceLT, Nat.reduceBEq, Nat.reduceDiv, Nat.reduceMod, Nat.reducePow, Nat.reduceMul, Int.reduceToNat, Int.reduceLT, Int.reduceLE, ne_l, ne_r, hs]) | refine an2 ?_ | fail)
    refine ⟨rfl, ⟨by dsimp only; omega, rfl⟩, by omega, n, rfl, rfl, ?_⟩
    simp (maxSteps := 400000) (disch := omega) only [push_cast, ↓reduceIte, reduceCtorEq, Nat.reduceAdd, Nat.reduceSub, Nat.reduceEqDiff, Nat.reduceLeDiff, Nat.reduceLT, Nat.reduceBEq, Nat.reduceDiv, Nat.reduceMod, Nat.reducePow, Nat.reduceMul, Int.reduceToNat, Int.reduceLT, Int.reduceLE, ne_l, ne_r]
    repeat' (first | refine w1g ?_ | refine w1l ?_ | refine w1q ?_ | refine w1b ?_ | refine w1p ?_ | ((first | refine w1r ?_ | refine w1k ?_ | refine w1e ?_); simp (maxSteps := 400000) (disch := omega) only [push_cast, ↓reduceIte, reduceCtorEq, Nat.reduceAdd, Nat.reduceSub, Nat.reduceEqDiff, Nat.reduceLeDiff, Nat.reduceLT, Nat.reduceBEq, Nat.reduceDiv, Nat.reduceMod, Nat.reducePow, Nat.reduceMul, Int.reduceToNat, Int.reduceLT, Int.reduceLE, ne_l, ne_r]) | refine an2 ?_ | fail)
    refine W_ret ⟨[_], B1, ?R2, ⟨rfl, rfl⟩, ?h1, ?h2, ?h3, rfl, rfl⟩
    case h1 =>
      rw [hB1]
      unfold engM
      rw [hl3]
      simp only [List.cons_append, List.nil_append, Bool.not_true]
      exact sameM.refl _
    case h2 =>
      rw [hB1]; exact engM_bas _ _ _ _ _ _
    case h3 =>
      exact ((Ext.refl hR').set (nx2 := nx' + 10) (by omega) (by omega)).set (by omega) (by dsimp only; omega)
  · rw [if_neg hn, decide_eq_false hn] at c64
    rw [decide_eq_false hn] at hB1 ⊢
    have hn1 : n = -1 := by omega
    rw [hn1] at hl2 hB1
    simp (maxSteps := 400000) (disch := omega) only [push_cast, ↓reduceIte, reduceCtorEq, Nat.reduceAdd, Nat.reduceSub, Nat.reduceEqDiff, Nat.reduceLeDiff, Nat.reduceLT, Nat.reduceBEq, Nat.reduceDiv, Nat.reduceMod, Nat.reducePow, Nat.reduceMul, Int.reduceToNat, Int.reduceLT, Int.reduceLE, initT, engM, List.cons_append, List.nil_append]
    repeat' (first | refine w1g ?_ | refine w1l ?_ | refine w1q ?_ | refine w1b ?_ | refine w1p ?_ | ((first | refine w1r ?_ | refine w1k ?_ | refine w1e ?_ | refine CallC.now (c64) ?_); simp (maxSteps := 400000) (disch := omega) only [push_cast, ↓reduceIte, reduceCtorEq, Nat.reduceAdd, Nat.reduceSub, Nat.reduceEqDiff, Nat.reduceLeDiff, Nat.reduceLT, Nat.reduceBEq, Nat.reduceDiv, Nat.reduceMod, Nat.reducePow, Nat.reduceMul, Int.reduceToNat, Int.reduceLT, Int.reduceLE, ne_l, ne_r, hgt, hx]) | refine an2 ?_ | fail)
    refine W_cond (by rfl) (fun _ => ?_) (fun h => by cases h)
    repeat' (first | refine w1g ?_ | refine w1l ?_ | refine w1q ?_ | refine w1b ?_ | refine w1p ?_ | ((first | refine w1r ?_ | refine w1k ?_ | refine w1e ?_); simp (maxSteps := 400000) (disch := omega) only [push_cast, ↓reduceIte, reduceCtorEq, Nat.reduceAdd, Nat.reduceSub, Nat.reduceEqDiff, Nat.reduceLeDiff, Nat.reduceLT, Nat.reduceBEq, Nat.reduceDiv, Nat.reduceMod, Nat.reducePow, Nat.reduceMul, Int.reduceToNat, Int.reduceLT, Int.reduceLE, ne_l, ne_r]) | refine an2 ?_ | fail)
    refine ⟨rfl, trivial, Rs, dRs, cR, [⟨i, by', fr, -1⟩], rfl, by omega, fun x _ => ⟨rfl, rfl⟩, rfl, ?_⟩
    simp (maxSteps := 400000) (disch := omega) only [push_cast, ↓reduceIte, reduceCtorEq, Nat.reduceAdd, Nat.reduceSub, Nat.reduceEqDiff, Nat.reduceLeDiff, Nat.reduceLT, Nat.reduceBEq, Nat.reduceDiv, Nat.reduceMod, Nat.reducePow, Nat.reduceMul, Int.reduceToNat, Int.reduceLT, Int.reduceLE, ne_l, ne_r]
    refine ⟨rfl, ⟨by dsimp only; omega, rfl⟩, trivial, [⟨i, by', fr, -1⟩], rfl, by first | omega | (simp; omega), by first | omega | (simp; omega), ?_⟩
    rw [← hl2]
    simp (maxSteps := 400000) (disch := omega) only [push_cast, ↓reduceIte, reduceCtorEq, Nat.reduceAdd, Nat.reduceSub, Nat.reduceEqDiff, Nat.reduceLeDiff, Nat.reduceLT, Nat.reduceBEq, Nat.reduceDiv, Nat.reduceMod, Nat.reducePow, Nat.reduceMul, Int.reduceToNat, Int.reduceLT, Int.reduceLE, ne_l, ne_r]
    repeat' (first | refine w1g ?_ | refine w1l ?_ | refine w1q ?_ | refine w1b ?_ | refine w1p ?_ | ((first | refine w1r ?_ | refine w1k ?_ | refine w1e ?_); simp (maxSteps := 400000) (disch := omega) only [push_cast, ↓reduceIte, reduceCtorEq, Nat.reduceAdd, Nat.reduceSub, Nat.reduceEqDiff, Nat.reduceLeDiff, Nat.reduceLT, Nat.reduceBEq, Nat.reduceDiv, Nat.reduceMod, Nat.reducePow, Nat.reduceMul, Int.reduceToNat, Int.reduceLT, Int.reduceLE, ne_l, ne_r, hs]) | refine an2 ?_ | fail)
    refine ⟨rfl, ⟨by dsimp only; omega, rfl⟩, by omega, -1, rfl, rfl, ?_⟩
    simp (maxSteps := 400000) (disch := omega) only [push_cast, ↓reduceIte, reduceCtorEq, Nat.reduceAdd, Nat.reduceSub, Nat.reduceEqDiff, Nat.reduceLeDiff, Nat.reduceLT, Nat.reduceBEq, Nat.reduceDiv, Nat.reduceMod, Nat.reducePow, Nat.reduceMul, Int.reduceToNat, Int.reduceLT, Int.reduceLE, ne_l, ne_r]
    repeat' (first | refine w1g ?_ | refine w1l ?_ | refine w1q ?_ | refine w1b ?_ | refine w1p ?_ | ((first | refine w1r ?_ | refine w1k ?_ | refine w1e ?_); simp (maxSteps := 400000) (disch := omega) only [push_cast, ↓reduceIte, reduceCtorEq, Nat.reduceAdd, Nat.reduceSub, Nat.reduceEqDiff, Nat.reduceLeDiff, Nat.reduceLT, Nat.reduceBEq, Nat.reduceDiv, Nat.reduceMod, Nat.reducePow, Nat.reduceMul, Int.reduceToNat, Int.reduceLT, Int.reduceLE, ne_l, ne_r]) | refine an2 ?_ | fail)
    refine W_ret ⟨[_], B1, ?R3, ⟨rfl, rfl⟩, ?k1, ?k2, ?k3, rfl, rfl⟩
    case k1 =>
      rw [hB1]
      unfold engM
      rw [hl3]
      simp only [List.cons_append, List.nil_append, Bool.not_false]
      exact sameM.refl _
    case k2 =>
      rw [hB1]; exact engM_bas _ _ _ _ _ _
    case k3 =>
      exact ((Ext.refl hR').set (nx2 := nx' + 10) (by omega) (by omega)).set (by omega) (by dsimp only; omega)
structure Es where
  ss : List Int
  lg : List Rs
  dd : Bool
abbrev engE (b : Nat) (j : Jb) (L : List Af) (e : Es) : Mem := engM b j L e.ss e.lg e.dd
def setE (j : Jb) (i : Nat) (by' fr : Int) (e : Es) : Es := ⟨e.ss.set i (setN j i fr), e.lg ++ [⟨i, by', fr, setN j i fr⟩], !decide (0 ≤ setN j i fr)⟩
def canE (a : Af) (e : Es) : Bool := decide (gi e.ss a.b.toNat < gi e.ss a.a.toNat + a.g)
def raiseE (j : Jb) (a : Af) (e : Es) : Es := if canE a e = true then setE j a.b.toNat a.a (gi e.ss a.a.toNat + a.g) e else e
def raiseB (j : Jb) (a : Af) (e : Es) : Bool := canE a e && decide (0 ≤ setN j a.b.toNat (gi e.ss a.a.toNat + a.g))
theorem i112 (b : Nat) (j : Jb) (L : List Af) (e : Es) (h : OkJ j) (a : Af) (ha : LkOk j.ts.length a) (hs : e.ss.length = j.ts.length) (hr : ∀ i, i < j.ts.length → -1 ≤ gi e.ss i ∧ gi e.ss i ≤ 1099511627776) (hlg : e.lg.length ≤ 1000000000)
    {tm : List (Nat × AV)} {R : Mem} {nx : Nat} (hR : Opq 60 R nx) :
    Inl Try.prog 112 [ptB b 0, .fp (cA a) 0] ⟨tm, engE b j L e ++ R, nx⟩ (MidX 60 tm nx R fun r B' => r = bv (raiseB j a e) ∧ B' = engE b j L (raiseE j a e)) := by
  obtain ⟨ss, lg, dd⟩ := e
  dsimp only at hs hlg
  refine Inl_opq mixed Xt112 rfl hR (engM_bas b j L ss lg dd) (fun R' nx' hR' => ?_)
  have hN := hR'.n
  obtain ⟨a1, a2, a3, a4, a5, a6⟩ := ha
  have ra := hr a.a.toNat (by omega)
  have rb := hr a.b.toNat (by omega)
  dsimp only at ra rb
  have hga : ss.getD a.a.toNat 0 = gi ss a.a.toNat := rfl
  have hgb : ss.getD a.b.toNat 0 = gi ss a.b.toNat := rfl
  have hbi : ((a.b.toNat : Nat) : Int) = a.b := by omega
  have hI := fun (fr : Int) (hf) tm (R2 : Mem) nx2 (hR2 : Opq 60 R2 nx2) => i113 b j L ss lg dd h a.b.toNat a.a fr (by omega) hs hlg hf (tm := tm) hR2
  have hE : ∀ c : Bool, canE a ⟨ss, lg, dd⟩ = c → (raiseE j a ⟨ss, lg, dd⟩ = if c = true then setE j a.b.toNat a.a (gi ss a.a.toNat + a.g) ⟨ss, lg, dd⟩ else ⟨ss, lg, dd⟩) ∧ raiseB j a ⟨ss, lg, dd⟩ = (c && decide (0 ≤ setN j a.b.toNat (gi ss a.a.toNat + a.g))) := fun c hc => by
    unfold raiseE raiseB
    rw [hc]
    exact ⟨rfl, rfl⟩
  have hC : canE a ⟨ss, lg, dd⟩ = decide (gi ss a.b.toNat < gi ss a.a.toNat + a.g) := rfl
  have hS : setE j a.b.toNat a.a (gi ss a.a.toNat + a.g) ⟨ss, lg, dd⟩ = ⟨ss.set a.b.toNat (setN j a.b.toNat (gi ss a.a.toNat + a.g)), lg ++ [⟨a.b.toNat, a.a, gi ss a.a.toNat + a.g, setN j a.b.toNat (gi ss a.a.toNat + a.g)⟩], !decide (0 ≤ setN j a.b.toNat (gi ss a.a.toNat + a.g))⟩ := rfl
  rw [hS] at hE
  generalize raiseE j a ⟨ss, lg, dd⟩ = E1 at *
  generalize raiseB j a ⟨ss, lg, dd⟩ = b1 at *
  generalize hx : gi ss a.a.toNat = x at *
  generalize hy : gi ss a.b.toNat = y at *
  have hI := hI (x + a.g) (by omega)
  generalize setN j a.b.toNat (x + a.g) = n at *
  by_cases hc : y < x + a.g
  · rw [decide_eq_true hc] at hC
    obtain ⟨e1, e2⟩ := hE true hC
    rw [if_pos rfl] at e1
    rw [Bool.true_and] at e2
    have hcb : decide (y < x + a.g) = true := decide_eq_true hc
    refine W_le (le_v_own 0 23 15 b 0 rfl ?_) ?_
    · show lm (engM b j L ss lg dd ++ R') 23 = _
      rfl
    rw [e1, e2]
    clear hE hS e1 e2
    rw [hbi] at hI ⊢
    obtain ⟨B1, hB1⟩ : ∃ B1, B1 = engM b j L (ss.set a.b.toNat n) (lg ++ [⟨a.b, a.a, x + a.g, n⟩]) (!decide (0 ≤ n)) := ⟨_, rfl⟩
    have hBs : Bas 60 B1 := by rw [hB1]; exact engM_bas _ _ _ _ _ _
    have hB2 : engE b j L ⟨ss.set a.b.toNat n, lg ++ [⟨a.b, a.a, x + a.g, n⟩], !decide (0 ≤ n)⟩ = B1 := hB1.symm
    rw [hB2]
    rw [← hB1] at hI
    simp (maxSteps := 400000) (disch := omega) only [push_cast, ↓reduceIte, reduceCtorEq, Nat.reduceAdd, Nat.reduceSub, Nat.reduceEqDiff, Nat.reduceLeDiff, Nat.reduceLT, Nat.reduceBEq, Nat.reduceDiv, Nat.reduceMod, Nat.reducePow, Nat.reduceMul, Int.reduceToNat, Int.reduceLT, Int.reduceLE, initT, engM, List.cons_append, List.nil_append]
    repeat' (first | refine w1g ?_ | refine w1l ?_ | refine w1q ?_ | refine w1b ?_ | refine w1p ?_ | ((first | refine W_regS 17 (by decide) (by decide) ?_ | refine w1r ?_ | refine w1k ?_ | refine w1e ?_); simp (maxSteps := 400000) (disch := omega) only [push_cast, ↓reduceIte, reduceCtorEq, Nat.reduceAdd, Nat.reduceSub, Nat.reduceEqDiff, Nat.reduceLeDiff, Nat.reduceLT, Nat.reduceBEq, Nat.reduceDiv, Nat.reduceMod, Nat.reducePow, Nat.reduceMul, Int.reduceToNat, Int.reduceLT, Int.reduceLE, ne_l, ne_r, hga, hgb, hs, hcb]) | refine an2 ?_ | fail)
    refine CallC.inlG (fun _ => ⟨trivial, Inl_sameM (engM b j L ss lg dd ++ R') nx' (sameM.refl _) (hR'.mem (engM_bas b j L ss lg dd)) (Inl_le' (hI _ R' nx' hR') (fun r s' hs2 => ?_))⟩) (fun q => absurd (by simp [pc]) q)
    obtain ⟨B', R2, nx2, hB', hX, ⟨rfl, rfl⟩, hl⟩ := hs2
    refine ⟨_, ?_, hl⟩
    (refine sy1 ?_; try exact True.intro)
    refine W_ret ⟨[_], B', R2, ⟨rfl, rfl⟩, sameM.refl _, hBs, ?_, rfl, rfl⟩
    exact hX.up (by dsimp only; omega)
  · rw [decide_eq_false hc] at hC
    obtain ⟨e1, e2⟩ := hE false hC
    rw [if_neg (by decide)] at e1
    rw [Bool.false_and] at e2
    have hcb : decide (y < x + a.g) = false := decide_eq_false hc
    refine W_le (le_v_own 0 23 15 b 0 rfl ?_) ?_
    · show lm (engM b j L ss lg dd ++ R') 23 = _
      rfl
    rw [e1, e2]
    clear hE hS e1 e2
    obtain ⟨B1, hB1⟩ : ∃ B1, B1 = engM b j L ss lg dd := ⟨_, rfl⟩
    have hBs : Bas 60 B1 := by rw [hB1]; exact engM_bas _ _ _ _ _ _
    have hB2 : engE b j L ⟨ss, lg, dd⟩ = B1 := hB1.symm
    rw [hB2]
    simp (maxSteps := 400000) (disch := omega) only [push_cast, ↓reduceIte, reduceCtorEq, Nat.reduceAdd, Nat.reduceSub, Nat.reduceEqDiff, Nat.reduceLeDiff, Nat.reduceLT, Nat.reduceBEq, Nat.reduceDiv, Nat.reduceMod, Nat.reducePow, Nat.reduceMul, Int.reduceToNat, Int.reduceLT, Int.reduceLE, initT, engM, List.cons_append, List.nil_append]
    repeat' (first | refine w1g ?_ | refine w1l ?_ | refine w1q ?_ | refine w1b ?_ | refine w1p ?_ | ((first | refine W_regS 17 (by decide) (by decide) ?_ | refine w1r ?_ | refine w1k ?_ | refine w1e ?_); simp (maxSteps := 400000) (disch := omega) only [push_cast, ↓reduceIte, reduceCtorEq, Nat.reduceAdd, Nat.reduceSub, Nat.reduceEqDiff, Nat.reduceLeDiff, Nat.reduceLT, Nat.reduceBEq, Nat.reduceDiv, Nat.reduceMod, Nat.reducePow, Nat.reduceMul, Int.reduceToNat, Int.reduceLT, Int.reduceLE, ne_l, ne_r, hga, hgb, hs, hcb]) | refine an2 ?_ | fail)
    refine CallC.inlG (fun q => absurd q (by simp [pc])) (fun q => ⟨bv false, ?_⟩)
    (refine sy1 ?_; try exact True.intro)
    refine W_ret ⟨[_], B1, R', ⟨rfl, rfl⟩, ?_, hBs, (Ext.refl hR').up (by dsimp only; omega), rfl, rfl⟩
    rw [hB1]
    exact sameM.refl _
end Go.Proofs.Ytoiohkjomcbadaa

namespace Go.Proofs.Ytoiohkjomcbadaa
open Go Sy
set_option linter.unusedVariables false
def lastS (lg : List Rs) (i : Int) : Int := lg.foldl (fun acc r => if r.k = i then r.st else acc) (-1)
theorem lastS_snoc (lg : List Rs) (r : Rs) (i : Int) : lastS (lg ++ [r]) i = if r.k = i then r.st else lastS lg i := by
  unfold lastS; rw [List.foldl_append]; rfl
def stO (lg : List Rs) : Nat → Int := fun i => lastS lg i
theorem stO_snoc (lg : List Rs) (i : Nat) (b f n : Int) : stO (lg ++ [⟨i, b, f, n⟩]) = putF (stO lg) i n := by
  funext k
  unfold stO putF
  rw [lastS_snoc]
  dsimp only
  by_cases q : k = i
  · rw [if_pos (by omega), if_pos q]
  · rw [if_neg (by omega), if_neg q]
inductive LogOk (j : Jb) (L : List Af) : List Rs → Prop where
  | nil : LogOk j L []
  | first {lg : List Rs} {i : Nat} (h : LogOk j L lg) (hi : i < j.ts.length) (hk : ∀ r ∈ lg, r.k < i ∧ 0 ≤ r.st) : LogOk j L (lg ++ [⟨i, -1, 0, setN j i 0⟩])
  | raise {lg : List Rs} {a : Af} (h : LogOk j L lg) (ha : a ∈ L) (hp : ∀ i, i < j.ts.length → 0 ≤ stO lg i) (hr : stO lg a.b.toNat < stO lg a.a.toNat + a.g) : LogOk j L (lg ++ [⟨a.b.toNat, a.a, stO lg a.a.toNat + a.g, setN j a.b.toNat (stO lg a.a.toNat + a.g)⟩])
theorem setN_rng {j : Jb} (h : OkJ j) {i : Nat} (hi : i < j.ts.length) (fr : Int) : setN j i fr = -1 ∨ (0 ≤ setN j i fr ∧ fr ≤ setN j i fr ∧ setN j i fr ≤ 1099511627776 ∧ fitW (gt j.ts i).mi (setN j i fr) (gt j.ts i).ws) := by
  obtain ⟨hk, _⟩ := h.t i hi
  rcases fst_fit (mi := (gt j.ts i).mi) (fr := fr) hk.2.2 (Int.le_refl 0) hk.1 with q | ⟨q1, q2, q3⟩
  · exact .inl q
  · exact .inr ⟨q1, q2, fit_le hk.2.2 hk.1 q3, q3⟩
section
variable {j : Jb} {L : List Af} (h : OkJ j) (hL : ∀ a ∈ L, LkOk j.ts.length a)
include h hL
theorem log_rng {lg : List Rs} (hl : LogOk j L lg) : ∀ i, -1 ≤ stO lg i ∧ stO lg i ≤ 1099511627776 := by
  induction hl with
  | nil => intro i; exact ⟨Int.le_refl _, by show (-1 : Int) ≤ _; omega⟩
  | @first lg i hl hi hk ih =>
    intro k
    rw [stO_snoc]
    unfold putF
    have := setN_rng h hi 0
    have := ih k
    split <;> omega
  | @raise lg a hl ha hp hr ih =>
    intro k
    rw [stO_snoc]
    unfold putF
    obtain ⟨a1, a2, a3, a4, _⟩ := hL a ha
    have := setN_rng h (i := a.b.toNat) (by omega) (stO lg a.a.toNat + a.g)
    have := ih k
    split <;> omega
theorem log_low {lg : List Rs} (hl : LogOk j L lg) : Low j.ts L (stO lg) ∧ ((∃ r ∈ lg, r.st < 0) → ¬ ∃ p, Rgt j.ts L p) := by
  induction hl with
  | nil =>
    refine ⟨fun p hp i hi => ?_, fun ⟨r, hr, _⟩ => by cases hr⟩
    obtain ⟨w, hw, h1, _⟩ := hp.f i hi
    have := (h.t i hi).1.2.2.all w hw
    show (-1 : Int) ≤ p i
    omega
  | @first lg i hl hi hk ih =>
    have key : ∀ p, Rgt j.ts L p → 0 ≤ setN j i 0 ∧ setN j i 0 ≤ p i := fun p hp => by
      obtain ⟨hkk, _⟩ := h.t i hi
      have hf := hp.f i hi
      obtain ⟨w, hw, h1, _⟩ := hf
      have := hkk.2.2.all w hw
      exact fst_least hkk.2.2 (Int.le_refl 0) hkk.1 (by omega) (hp.f i hi)
    refine ⟨fun p hp k hk2 => ?_, fun ⟨r, hr, hneg⟩ ⟨p, hp⟩ => ?_⟩
    · rw [stO_snoc]
      unfold putF
      split
      · rename_i q; subst q; exact (key p hp).2
      · exact ih.1 p hp k hk2
    · rcases List.mem_append.1 hr with hr | hr
      · exact ih.2 ⟨r, hr, hneg⟩ ⟨p, hp⟩
      · rw [List.mem_singleton] at hr
        subst hr
        have := (key p hp).1
        dsimp only at hneg
        omega
  | @raise lg a hl ha hp hr ih =>
    obtain ⟨a1, a2, a3, a4, _⟩ := hL a ha
    have key := low_raise ih.1 ha (by omega) (by omega) (h.t a.b.toNat (by omega)).1
    refine ⟨?_, fun ⟨r, hr, hneg⟩ ⟨p, hp⟩ => ?_⟩
    · rw [stO_snoc]; exact key.2
    · rcases List.mem_append.1 hr with hr | hr
      · exact ih.2 ⟨r, hr, hneg⟩ ⟨p, hp⟩
      · rw [List.mem_singleton] at hr
        subst hr
        have h2 := key.1 p hp
        have e : setN j a.b.toNat (stO lg a.a.toNat + a.g) = fstW (j.ts.getD a.b.toNat dTk).mi (stO lg a.a.toNat + a.g) (j.ts.getD a.b.toNat dTk).ws := rfl
        dsimp only at hneg
        omega
omit hL in
theorem log_fit {lg : List Rs} (hl : LogOk j L lg) : ∀ i, i < j.ts.length → 0 ≤ stO lg i → fitW (gt j.ts i).mi (stO lg i) (gt j.ts i).ws := by
  induction hl with
  | nil => intro i _ h0; exact absurd h0 (by show ¬ (0 : Int) ≤ -1; omega)
  | @first lg i hl hi hk ih =>
    intro k hk2 h0
    rw [stO_snoc] at h0 ⊢
    unfold putF at h0 ⊢
    by_cases q : k = i
    · subst q
      rw [if_pos rfl] at h0 ⊢
      rcases setN_rng h hk2 0 with q | q
      · omega
      · exact q.2.2.2
    · rw [if_neg q] at h0 ⊢
      exact ih k hk2 h0
  | @raise lg a hl ha hp hr ih =>
    intro k hk2 h0
    rw [stO_snoc] at h0 ⊢
    unfold putF at h0 ⊢
    by_cases q : k = a.b.toNat
    · subst q
      rw [if_pos rfl] at h0 ⊢
      rcases setN_rng h hk2 (stO lg a.a.toNat + a.g) with q | q
      · omega
      · exact q.2.2.2
    · rw [if_neg q] at h0 ⊢
      exact ih k hk2 h0
end
structure EI (j : Jb) (L : List Af) (e : Es) : Prop where
  ss : e.ss = lsF j.ts.length (stO e.lg)
  lg : LogOk j L e.lg
theorem EI.len {j : Jb} {L : List Af} {e : Es} (h : EI j L e) : e.ss.length = j.ts.length := by rw [h.ss, lsF_len]
theorem EI.get {j : Jb} {L : List Af} {e : Es} (h : EI j L e) {i : Nat} (hi : i < j.ts.length) : gi e.ss i = stO e.lg i := by rw [h.ss, lsF_get hi]
def e1 (j : Jb) : Nat → Es
  | 0 => ⟨lsF j.ts.length fun _ => -1, [], false⟩
  | k + 1 => setE j k (-1) 0 (e1 j k)
structure E1 (j : Jb) (L : List Af) (k : Nat) (e : Es) : Prop extends EI j L e where
  len' : e.lg.length = k
  bef : ∀ r ∈ e.lg, r.k < k ∧ 0 ≤ r.st
  dd : e.dd = false
  pos : ∀ i, i < k → 0 ≤ stO e.lg i
theorem e1_ok {j : Jb} {L : List Af} : ∀ k, k ≤ j.ts.length → (∀ i, i < k → 0 ≤ setN j i 0) → E1 j L k (e1 j k)
  | 0, _, _ => ⟨⟨by unfold e1; rfl, .nil⟩, rfl, fun r hr => (by cases hr), rfl, fun i hi => (by omega)⟩
  | k + 1, hk, hp => by
    have h := e1_ok (L := L) k (by omega) (fun i hi => hp i (by omega))
    have hn := hp k (by omega)
    refine ⟨⟨?_, ?_⟩, ?_, fun r hr => ?_, ?_, fun i hi => ?_⟩
    · show (e1 j k).ss.set k (setN j k 0) = lsF _ (stO ((e1 j k).lg ++ [⟨k, -1, 0, setN j k 0⟩]))
      rw [stO_snoc, h.ss, lsF_set (by omega)]
    · exact .first h.lg (by omega) h.bef
    · show ((e1 j k).lg ++ [_]).length = k + 1
      rw [List.length_append, h.len']; rfl
    · rcases List.mem_append.1 (show r ∈ (e1 j k).lg ++ [⟨k, -1, 0, setN j k 0⟩] from hr) with hr | hr
      · have := h.bef r hr
        omega
      · rw [List.mem_singleton] at hr
        subst hr
        dsimp only
        omega
    · show (!decide (0 ≤ setN j k 0)) = false
      rw [decide_eq_true hn]; rfl
    · show 0 ≤ stO ((e1 j k).lg ++ [⟨k, -1, 0, setN j k 0⟩]) i
      rw [stO_snoc]
      unfold putF
      split
      · exact hn
      · exact h.pos i (by omega)
theorem e1_dead {j : Jb} {L : List Af} (h : OkJ j) (hL : ∀ a ∈ L, LkOk j.ts.length a) {k : Nat} (hk : k < j.ts.length) (hp : ∀ i, i < k → 0 ≤ setN j i 0) (hn : setN j k 0 < 0) : LogOk j L (e1 j (k + 1)).lg ∧ ¬ ∃ p, Rgt j.ts L p := by
  have h1 := e1_ok (L := L) k (by omega) hp
  have h2 : LogOk j L (e1 j (k + 1)).lg := .first h1.lg hk h1.bef
  refine ⟨h2, (log_low h hL h2).2 ⟨⟨k, -1, 0, setN j k 0⟩, List.mem_append_right _ List.mem_cons_self, hn⟩⟩
theorem raise_no {j : Jb} {a : Af} {e : Es} (hc : canE a e = false) : raiseE j a e = e := by unfold raiseE; rw [hc, if_neg (by decide)]
theorem raise_ei {j : Jb} {L : List Af} (hL : ∀ a ∈ L, LkOk j.ts.length a) {e : Es} (h : EI j L e) {a : Af} (ha : a ∈ L) (hp : ∀ i, i < j.ts.length → 0 ≤ stO e.lg i) : EI j L (raiseE j a e) := by
  obtain ⟨a1, a2, a3, a4, _⟩ := hL a ha
  cases hc : canE a e
  · rw [raise_no hc]; exact h
  · unfold raiseE
    rw [hc, if_pos rfl]
    have e1 := h.get (i := a.a.toNat) (by omega)
    have e2 := h.get (i := a.b.toNat) (by omega)
    have hr : stO e.lg a.b.toNat < stO e.lg a.a.toNat + a.g := by
      unfold canE at hc
      rw [decide_eq_true_eq, e1, e2] at hc
      exact hc
    refine ⟨?_, ?_⟩
    · show e.ss.set a.b.toNat (setN j a.b.toNat (gi e.ss a.a.toNat + a.g)) = lsF _ (stO (e.lg ++ [_]))
      rw [stO_snoc, h.ss, lsF_set (by omega)]
    · show LogOk j L (e.lg ++ [⟨a.b.toNat, a.a, gi e.ss a.a.toNat + a.g, setN j a.b.toNat (gi e.ss a.a.toNat + a.g)⟩])
      rw [e1]
      exact .raise h.lg ha hp hr
theorem raise_len {j : Jb} {a : Af} {e : Es} : (raiseE j a e).lg.length ≤ e.lg.length + 1 := by
  unfold raiseE
  split
  · show (e.lg ++ [_]).length ≤ _
    rw [List.length_append]; exact Nat.le_refl _
  · omega
theorem raise_eng {j : Jb} {L : List Af} (h : OkJ j) (hL : ∀ a ∈ L, LkOk j.ts.length a) {e : Es} (hE : EI j L e) {a : Af} (ha : a ∈ L) (hp : ∀ i, i < j.ts.length → 0 ≤ stO e.lg i) (hd : e.dd = false) :
    ((raiseE j a e).dd = true → ¬ ∃ p, Rgt j.ts L p) ∧ ((raiseE j a e).dd = false → eng j.ts (stO e.lg) (lkO a) = some (stO (raiseE j a e).lg) ∧ raiseB j a e = decide (stO e.lg (lkO a).b < stO e.lg (lkO a).a + (lkO a).g) ∧ ∀ i, i < j.ts.length → 0 ≤ stO (raiseE j a e).lg i) := by
  obtain ⟨a1, a2, a3, a4, _⟩ := hL a ha
  have q1 := hE.get (i := a.a.toNat) (by omega)
  have q2 := hE.get (i := a.b.toNat) (by omega)
  have hcb : canE a e = decide (stO e.lg a.b.toNat < stO e.lg a.a.toNat + a.g) := by unfold canE; rw [q1, q2]
  have hEI := raise_ei hL hE ha hp
  cases hc : canE a e
  · rw [raise_no hc]
    rw [hc] at hcb
    refine ⟨fun q => (by rw [hd] at q; cases q), fun _ => ⟨?_, ?_, hp⟩⟩
    · unfold eng
      rw [if_neg]
      exact of_decide_eq_false hcb.symm
    · unfold raiseB
      rw [hc, Bool.false_and]
      exact hcb
  · rw [hc] at hcb
    have hr : raiseE j a e = setE j a.b.toNat a.a (gi e.ss a.a.toNat + a.g) e := by unfold raiseE; rw [hc, if_pos rfl]
    have hdd : (raiseE j a e).dd = !decide (0 ≤ setN j a.b.toNat (stO e.lg a.a.toNat + a.g)) := by rw [hr, q1]; rfl
    have hlg : (raiseE j a e).lg = e.lg ++ [⟨a.b.toNat, a.a, stO e.lg a.a.toNat + a.g, setN j a.b.toNat (stO e.lg a.a.toNat + a.g)⟩] := by rw [hr, q1]; rfl
    constructor
    · intro hq
      rw [hdd, Bool.not_eq_true', decide_eq_false_iff_not] at hq
      refine (log_low h hL hEI.lg).2 ⟨⟨a.b.toNat, a.a, stO e.lg a.a.toNat + a.g, setN j a.b.toNat (stO e.lg a.a.toNat + a.g)⟩, ?_, by dsimp only; omega⟩
      rw [hlg]; exact List.mem_append_right _ List.mem_cons_self
    · intro hq
      rw [hdd, Bool.not_eq_false', decide_eq_true_eq] at hq
      refine ⟨?_, ?_, fun i hi => ?_⟩
      · unfold eng
        have hlt : stO e.lg (lkO a).b < stO e.lg (lkO a).a + (lkO a).g := of_decide_eq_true hcb.symm
        rw [if_pos hlt, if_neg (by show ¬ setN j a.b.toNat (stO e.lg a.a.toNat + a.g) < 0; omega), hlg, stO_snoc]
        rfl
      · unfold raiseB
        rw [hc, Bool.true_and, q1, decide_eq_true hq]
        exact hcb
      · rw [hlg, stO_snoc]
        unfold putF
        split
        · exact hq
        · exact hp i hi
theorem raise_st {j : Jb} {a : Af} {e : Es} (hd : (raiseE j a e).dd = false) (h : ∀ r ∈ e.lg, 0 ≤ r.st) : ∀ r ∈ (raiseE j a e).lg, 0 ≤ r.st := by
  cases hc : canE a e
  · rw [raise_no hc]; exact h
  · have hr : raiseE j a e = setE j a.b.toNat a.a (gi e.ss a.a.toNat + a.g) e := by unfold raiseE; rw [hc, if_pos rfl]
    rw [hr] at hd ⊢
    have hd' : (!decide (0 ≤ setN j a.b.toNat (gi e.ss a.a.toNat + a.g))) = false := hd
    rw [Bool.not_eq_false', decide_eq_true_eq] at hd'
    intro r hx
    rcases List.mem_append.1 (show r ∈ e.lg ++ [_] from hx) with hx | hx
    · exact h r hx
    · rw [List.mem_singleton] at hx
      subst hx
      exact hd'
theorem raise_dead {j : Jb} {L : List Af} (h : OkJ j) (hL : ∀ a ∈ L, LkOk j.ts.length a) {a : Af} (ha : a ∈ L) {e : Es} (h0 : e.dd = false) (hd : (raiseE j a e).dd = true) : ∃ r, (raiseE j a e).lg = e.lg ++ [r] ∧ r.st = -1 := by
  obtain ⟨a1, a2, a3, a4, _⟩ := hL a ha
  cases hc : canE a e
  · rw [raise_no hc, h0] at hd; cases hd
  · have hr : raiseE j a e = setE j a.b.toNat a.a (gi e.ss a.a.toNat + a.g) e := by unfold raiseE; rw [hc, if_pos rfl]
    rw [hr] at hd ⊢
    have hd' : (!decide (0 ≤ setN j a.b.toNat (gi e.ss a.a.toNat + a.g))) = true := hd
    rw [Bool.not_eq_true', decide_eq_false_iff_not] at hd'
    refine ⟨_, rfl, ?_⟩
    rcases setN_rng h (i := a.b.toNat) (by omega) (gi e.ss a.a.toNat + a.g) with q | q
    · exact q
    · omega
structure OI (j : Jb) (L : List Af) (e : Es) (P : Nat) (ag : Bool) : Prop where
  ei : EI j L e
  dd : e.dd = false
  pos : ∀ i, i < j.ts.length → 0 ≤ stO e.lg i
  st : ∀ r ∈ e.lg, 0 ≤ r.st
  len : e.lg.length ≤ j.ts.length + P * L.length
  bt : ag = true → Btw j.ts (lkL L) j.ts.length (stO e.lg) P
  fin : ag = false → ∀ x ∈ lkL L, stO e.lg x.a + x.g ≤ stO e.lg x.b
  mx : P ≤ 19300
structure PI (j : Jb) (L : List Af) (o : Nat → Int) (P q : Nat) (e : Es) (ag : Bool) : Prop where
  ei : EI j L e
  dd : e.dd = false
  pos : ∀ i, i < j.ts.length → 0 ≤ stO e.lg i
  st : ∀ r ∈ e.lg, 0 ≤ r.st
  len : e.lg.length ≤ j.ts.length + P * L.length + q
  ip : InP j.ts (lkL L) o q (stO e.lg) ag
section
variable {j : Jb} {L : List Af} (h : OkJ j) (hL : ∀ a ∈ L, LkOk j.ts.length a)
include h hL
omit h hL in
theorem oi_zero : (∀ i, i < j.ts.length → 0 ≤ setN j i 0) → OI j L (e1 j j.ts.length) 0 true := fun hp => by
  have h1 := e1_ok (L := L) j.ts.length (Nat.le_refl _) hp
  exact ⟨h1.toEI, h1.dd, h1.pos, fun r hr => (h1.bef r hr).2, by rw [h1.len']; omega, fun _ => btw_zero _ _ _ _, fun q => (by cases q), by omega⟩
theorem pi_step {o : Nat → Int} {P q : Nat} {e : Es} {ag : Bool} (hp : PI j L o P q e ag) (hq : q < L.length) {a : Af} (ha : L.getD q dAf = a) (hd : (raiseE j a e).dd = false) : PI j L o P (q + 1) (raiseE j a e) (raiseB j a e || ag) := by
  have hm : a ∈ L := by rw [← ha]; exact getD_mem' dAf L q hq
  obtain ⟨e1, e2, e3⟩ := (raise_eng h hL hp.ei hm hp.pos hp.dd).2 hd
  refine ⟨raise_ei hL hp.ei hm hp.pos, hd, e3, raise_st hd hp.st, ?_, ?_⟩
  · have := hp.len
    have := raise_len (j := j) (a := a) (e := e)
    omega
  · rw [e2]
    refine inp_step hp.ip ?_ ?_ e1
    · rw [List.getElem?_map]
      have : L[q]? = some a := by
        rw [List.getElem?_eq_getElem hq]
        congr 1
        rw [← ha]
        simp [List.getD, List.getElem?_eq_getElem hq]
      rw [this]; rfl
    · obtain ⟨a1, a2, a3, a4, _⟩ := hL a hm
      show a.b.toNat < _
      omega
omit hL in
theorem oi_bound {e : Es} {P : Nat} (ho : OI j L e P true) : P ≤ 19224 := by
  have hb := btw_max (ho.bt rfl) (W := 32) h.w
  have hn := h.n
  have h1 : j.ts.length * 32 * (j.ts.length + 1) ≤ 24 * 32 * 25 := Nat.mul_le_mul (Nat.mul_le_mul_right _ hn) (by omega)
  omega
theorem oi_next (hc : ∀ x s c, Wx (lkL L) x x s c → 0 < c → c ≤ j.ts.length → s ≤ 0) {e e' : Es} {P : Nat} {ag : Bool} (ho : OI j L e P true) (hp : PI j L (stO e.lg) P L.length e' ag) : OI j L e' (P + 1) ag := by
  have hb := oi_bound h ho
  have hip := hp.ip
  rw [show L.length = (lkL L).length by rw [List.length_map]] at hip
  refine ⟨hp.ei, hp.dd, hp.pos, hp.st, ?_, fun q => ?_, fun q => ?_, by omega⟩
  · have := hp.len
    rw [Nat.add_mul]
    omega
  · subst q
    exact btw_step (lk_in hL) hc (ho.bt rfl) hip
  · subst q
    obtain ⟨q1, q2⟩ := inp_end hip
    rw [q1]; exact q2
omit h hL in
theorem oi_end {e : Es} {P : Nat} (ho : OI j L e P false) : ∀ a ∈ L, stO e.lg a.a.toNat + a.g ≤ stO e.lg a.b.toNat := fun a ha => ho.fin rfl (lkO a) (List.mem_map.2 ⟨a, ha, rfl⟩)
end
end Go.Proofs.Ytoiohkjomcbadaa

namespace Go.Proofs.Ytoiohkjomcbadaa
open Go Sy
set_option maxRecDepth 100000
set_option maxHeartbeats 4000000
set_option linter.unusedVariables false
set_option linter.unusedSimpArgs false
structure RunOk (j : Jb) (L : List Af) (ok : Bool) (e : Es) : Prop where
  ei : EI j L e
  len : e.lg.length ≤ 10000000
  ys : ok = true → (∀ i, i < j.ts.length → 0 ≤ stO e.lg i) ∧ (∀ a ∈ L, stO e.lg a.a.toNat + a.g ≤ stO e.lg a.b.toNat) ∧ ∀ r ∈ e.lg, 0 ≤ r.st
  no : ok = false → (¬ ∃ p, Rgt j.ts L p) ∧ ∃ lg r, e.lg = lg ++ [r] ∧ r.st = -1 ∧ ∀ x ∈ lg, 0 ≤ x.st
theorem i71 (b : Nat) (j : Jb) (L : List Af) (h : OkJ j) (hL : ∀ a ∈ L, LkOk j.ts.length a) (hll : L.length ≤ 240) (hc : ∀ x s c, Wx (lkL L) x x s c → 0 < c → c ≤ j.ts.length → s ≤ 0) {tm : List (Nat × AV)} {R : Mem} {nx : Nat} (hR : Opq 60 R nx) :
    Inl Try.prog 71 [.own 14 0] ⟨tm, engE b j L (e1 j 0) ++ R, nx⟩ (MidX 60 tm nx R fun r B' => ∃ ok e, r = bv ok ∧ B' = engE b j L e ∧ RunOk j L ok e) := by
  refine Inl_opq mixed Xt71 rfl hR (engM_bas b j L _ _ _) (fun R' nx' hR' => ?_)
  have hN := hR'.n
  have hn := h.n
  have hs0 : (e1 j 0).ss.length = j.ts.length := (e1_ok (L := L) 0 (by omega) (fun i hi => by omega)).len
  obtain ⟨KK, hKK⟩ : ∃ KK : AV → Mem → Prop, KK = fun r B' => ∃ ok e, r = bv ok ∧ B' = engE b j L e ∧ RunOk j L ok e := ⟨_, rfl⟩
  rw [← hKK]
  have fin : ∀ (s' : S) (ok : Bool) (e : Es) (R2 : Mem), lk s'.tm 2 = bv ok → sameM (engE b j L e ++ R2) s'.mem → Ext nx' R' s'.nx R2 → RunOk j L ok e → FinX 60 [.t 2] nx' R' KK .r s' := fun s' ok e R2 h1 h2 h3 h4 =>
    ⟨[bv ok], _, R2, ⟨h1.symm, rfl⟩, h2, engM_bas _ _ _ _ _ _, h3, by rw [hKK]; exact ⟨ok, e, rfl, rfl, h4⟩⟩
  clear hKK
  have hsn : ∀ k, (e1 j k).ss.length = j.ts.length := fun k => by
    induction k with
    | zero => exact hs0
    | succ k ih => show ((e1 j k).ss.set k (setN j k 0)).length = _; rw [List.length_set, ih]
  have hln : ∀ k, (e1 j k).lg.length = k := fun k => by
    induction k with
    | zero => rfl
    | succ k ih => show ((e1 j k).lg ++ [_]).length = _; rw [List.length_append, ih]; rfl
  obtain ⟨e, he⟩ : ∃ e, e = e1 j 0 := ⟨_, rfl⟩
  rw [← he] at hs0 ⊢
  simp (maxSteps := 400000) (disch := omega) only [push_cast, ↓reduceIte, reduceCtorEq, Nat.reduceAdd, Nat.reduceSub, Nat.reduceEqDiff, Nat.reduceLeDiff, Nat.reduceLT, Nat.reduceBEq, Nat.reduceDiv, Nat.reduceMod, Nat.reducePow, Nat.reduceMul, Int.reduceToNat, Int.reduceLT, Int.reduceLE, initT, engM, List.cons_append, List.nil_append]
  repeat' (first | refine w1g ?_ | refine w1l ?_ | refine w1q ?_ | refine w1b ?_ | refine w1p ?_ | ((first | refine w1r ?_ | refine w1k ?_ | refine w1e ?_); simp (maxSteps := 400000) (disch := omega) only [push_cast, ↓reduceIte, reduceCtorEq, Nat.reduceAdd, Nat.reduceSub, Nat.reduceEqDiff, Nat.reduceLeDiff, Nat.reduceLT, Nat.reduceBEq, Nat.reduceDiv, Nat.reduceMod, Nat.reducePow, Nat.reduceMul, Int.reduceToNat, Int.reduceLT, Int.reduceLE, ne_l, ne_r, hs0]) | refine an2 ?_ | fail)
  refine W_loopX 60 (fun k : Nat => [(12, iv k)]) (fun k => engE b j L (e1 j k)) (fun k => k ≤ j.ts.length ∧ ∀ i, i < k → 0 ≤ setN j i 0) (fun k => j.ts.length - k) (fun k _ => engM_bas _ _ _ _ _ _) (hR'.le (show nx' ≤ nx' + 7 by omega)) 0 ⟨by omega, fun i hi => by omega⟩ (by rfl) (by rw [← he]; exact sameM.refl _) (fun k R1 nx1 hk hX => ?_)
  obtain ⟨hkn, hpos⟩ := hk
  have hX' : Ext nx' R' nx1 R1 := ((Ext.refl hR').up (show nx' ≤ nx' + 7 by omega)).trans hX
  have hN1 := (hX'.opq hR').n
  have hI := fun (hlt : k < j.ts.length) (tm : List (Nat × AV)) (R2 : Mem) (nx2 : Nat) (hR2 : Opq 60 R2 nx2) => i113 b j L (e1 j k).ss (e1 j k).lg (e1 j k).dd h k (-1) 0 hlt (hsn k) (by rw [hln]; omega) (by omega) (tm := tm) hR2
  clear he hs0
  simp (maxSteps := 400000) (disch := omega) only [push_cast, ↓reduceIte, reduceCtorEq, Nat.reduceAdd, Nat.reduceSub, Nat.reduceEqDiff, Nat.reduceLeDiff, Nat.reduceLT, Nat.reduceBEq, Nat.reduceDiv, Nat.reduceMod, Nat.reducePow, Nat.reduceMul, Int.reduceToNat, Int.reduceLT, Int.reduceLE, keepL]
  repeat' (first | refine w1g ?_ | refine w1l ?_ | refine w1q ?_ | refine w1b ?_ | refine w1p ?_ | ((first | refine w1r ?_ | refine w1k ?_ | refine w1e ?_); simp (maxSteps := 400000) (disch := omega) only [push_cast, ↓reduceIte, reduceCtorEq, Nat.reduceAdd, Nat.reduceSub, Nat.reduceEqDiff, Nat.reduceLeDiff, Nat.reduceLT, Nat.reduceBEq, Nat.reduceDiv, Nat.reduceMod, Nat.reducePow, Nat.reduceMul, Int.reduceToNat, Int.reduceLT, Int.reduceLE, keepL]) | refine an2 ?_ | fail)
  refine W_condD (by rfl) (fun h5 => ?_) (fun h5 => ?_)
  · have hlt : k < j.ts.length := by omega
    have hdead := fun q => e1_dead (L := L) h hL hlt hpos q
    have hs1 : (e1 j (k + 1)) = setE j k (-1) 0 (e1 j k) := rfl
    have hdd : (e1 j (k + 1)).dd = !decide (0 ≤ setN j k 0) := rfl
    have hl1 : (e1 j (k + 1)).lg = (e1 j k).lg ++ [⟨k, -1, 0, setN j k 0⟩] := rfl
    repeat' (first | refine w1g ?_ | refine w1l ?_ | refine w1q ?_ | refine w1b ?_ | refine w1p ?_ | ((first | refine w1r ?_ | refine w1k ?_ | refine w1e ?_); simp (maxSteps := 400000) (disch := omega) only [push_cast, ↓reduceIte, reduceCtorEq, Nat.reduceAdd, Nat.reduceSub, Nat.reduceEqDiff, Nat.reduceLeDiff, Nat.reduceLT, Nat.reduceBEq, Nat.reduceDiv, Nat.reduceMod, Nat.reducePow, Nat.reduceMul, Int.reduceToNat, Int.reduceLT, Int.reduceLE, keepL]) | refine an2 ?_ | fail)
    refine CallC.inl (Inl_le' (hI hlt _ R1 _ ((hX'.opq hR').le (by omega))) (fun r s' hs2 => ?_))
    obtain ⟨B', R2, nx2, hB', hX2, ⟨rfl, hBe⟩, hl⟩ := hs2
    refine ⟨_, ?_, hl⟩
    have hBe2 : B' = engE b j L (e1 j (k + 1)) := hBe
    clear hI hBe hl
    subst hBe2
    (refine sy1 ?_; try exact True.intro)
    by_cases hp : 0 ≤ setN j k 0
    · rw [decide_eq_true hp]
      refine W_cond (by rfl) (fun h => by cases h) (fun _ => ?_)
      repeat' (first | refine w1g ?_ | refine w1l ?_ | refine w1q ?_ | refine w1b ?_ | refine w1p ?_ | ((first | refine w1r ?_ | refine w1k ?_ | refine w1e ?_); simp (maxSteps := 400000) (disch := omega) only [push_cast, ↓reduceIte, reduceCtorEq, Nat.reduceAdd, Nat.reduceSub, Nat.reduceEqDiff, Nat.reduceLeDiff, Nat.reduceLT, Nat.reduceBEq, Nat.reduceDiv, Nat.reduceMod, Nat.reducePow, Nat.reduceMul, Int.reduceToNat, Int.reduceLT, Int.reduceLE, keepL]) | refine an2 ?_ | fail)
      refine ⟨k + 1, R2, ⟨by omega, up_all hpos hp⟩, by omega, by rfl, sameM.refl _, ?_⟩
      exact (hX2.dn (by omega)).up (by first | omega | (dsimp only; omega))
    · rw [decide_eq_false hp]
      refine W_cond (by rfl) (fun _ => ?_) (fun h => by cases h)
      repeat' (first | refine w1g ?_ | refine w1l ?_ | refine w1q ?_ | refine w1b ?_ | refine w1p ?_ | ((first | refine w1r ?_ | refine w1k ?_ | refine w1e ?_); simp (maxSteps := 400000) (disch := omega) only [push_cast, ↓reduceIte, reduceCtorEq, Nat.reduceAdd, Nat.reduceSub, Nat.reduceEqDiff, Nat.reduceLeDiff, Nat.reduceLT, Nat.reduceBEq, Nat.reduceDiv, Nat.reduceMod, Nat.reducePow, Nat.reduceMul, Int.reduceToNat, Int.reduceLT, Int.reduceLE, keepL]) | refine an2 ?_ | fail)
      obtain ⟨d1, d2⟩ := hdead (by omega)
      have h1 := e1_ok (L := L) k (by omega) hpos
      refine W_ret ?_
      refine fin _ false (e1 j (k + 1)) R2 (by rfl) (by exact sameM.refl _) ((hX'.trans (hX2.dn (by omega))).up (by first | omega | (dsimp only; omega))) ⟨⟨?_, d1⟩, by rw [hln]; omega, fun q => (by cases q), fun _ => ⟨d2, _, _, hl1, ?_, fun x hx => (h1.bef x hx).2⟩⟩
      · rw [hs1]
        show (e1 j k).ss.set k (setN j k 0) = lsF _ (stO ((e1 j k).lg ++ [⟨k, -1, 0, setN j k 0⟩]))
        rw [stO_snoc, h1.ss, lsF_set (by omega)]
      · rcases setN_rng h hlt 0 with q | q
        · exact q
        · omega
  obtain rfl : k = j.ts.length := by omega
  have hO := oi_zero (L := L) hpos
  generalize e1 j j.ts.length = e0 at *
  clear hI hsn hln hpos hkn h5
  repeat' (first | refine w1g ?_ | refine w1l ?_ | refine w1q ?_ | refine w1b ?_ | refine w1p ?_ | ((first | refine w1r ?_ | refine w1k ?_ | refine w1e ?_); simp (maxSteps := 400000) (disch := omega) only [push_cast, ↓reduceIte, reduceCtorEq, Nat.reduceAdd, Nat.reduceSub, Nat.reduceEqDiff, Nat.reduceLeDiff, Nat.reduceLT, Nat.reduceBEq, Nat.reduceDiv, Nat.reduceMod, Nat.reducePow, Nat.reduceMul, Int.reduceToNat, Int.reduceLT, Int.reduceLE, keepL]) | refine an2 ?_ | fail)
  refine W_loopX 60 (fun u : Es × Nat × Bool => [(4, bv u.2.2)]) (fun u => engE b j L u.1) (fun u => OI j L u.1 u.2.1 u.2.2) (fun u => if u.2.2 = true then 19300 - u.2.1 else 0) (fun u _ => engM_bas _ _ _ _ _ _) ((hX'.opq hR').le (show nx1 ≤ nx1 + 2 by omega)) (e0, 0, true) hO (by rfl) (sameM.refl _) (fun u R2 nx2 hu hX2 => ?_)
  obtain ⟨e, P, ag⟩ := u
  dsimp only at hu ⊢
  have hX3 : Ext nx' R' nx2 R2 := (hX'.up (show nx1 ≤ nx1 + 2 by omega)).trans hX2
  clear hX2 hX' hX hO e0 R1 nx1 hN1
  simp (maxSteps := 400000) (disch := omega) only [push_cast, ↓reduceIte, reduceCtorEq, Nat.reduceAdd, Nat.reduceSub, Nat.reduceEqDiff, Nat.reduceLeDiff, Nat.reduceLT, Nat.reduceBEq, Nat.reduceDiv, Nat.reduceMod, Nat.reducePow, Nat.reduceMul, Int.reduceToNat, Int.reduceLT, Int.reduceLE, keepL]
  repeat' (first | refine w1g ?_ | refine w1l ?_ | refine w1q ?_ | refine w1b ?_ | refine w1p ?_ | ((first | refine w1r ?_ | refine w1k ?_ | refine w1e ?_); simp (maxSteps := 400000) (disch := omega) only [push_cast, ↓reduceIte, reduceCtorEq, Nat.reduceAdd, Nat.reduceSub, Nat.reduceEqDiff, Nat.reduceLeDiff, Nat.reduceLT, Nat.reduceBEq, Nat.reduceDiv, Nat.reduceMod, Nat.reducePow, Nat.reduceMul, Int.reduceToNat, Int.reduceLT, Int.reduceLE, keepL]) | refine an2 ?_ | fail)
  cases ag
  · refine W_cond (by rfl) (fun h => by cases h) (fun _ => ?_)
    repeat' (first | refine w1g ?_ | refine w1l ?_ | refine w1q ?_ | refine w1b ?_ | refine w1p ?_ | ((first | refine w1r ?_ | refine w1k ?_ | refine w1e ?_); simp (maxSteps := 400000) (disch := omega) only [push_cast, ↓reduceIte, reduceCtorEq, Nat.reduceAdd, Nat.reduceSub, Nat.reduceEqDiff, Nat.reduceLeDiff, Nat.reduceLT, Nat.reduceBEq, Nat.reduceDiv, Nat.reduceMod, Nat.reducePow, Nat.reduceMul, Int.reduceToNat, Int.reduceLT, Int.reduceLE, keepL]) | refine an2 ?_ | fail)
    refine W_ret ?_
    refine fin _ true e R2 (by rfl) (by exact sameM.refl _) (hX3.up (by first | omega | (dsimp only; omega))) ⟨hu.ei, ?_, fun _ => ⟨hu.pos, oi_end hu, hu.st⟩, fun q => (by cases q)⟩
    have h1 := hu.len
    have h2 := hu.mx
    have h3 : P * L.length ≤ 19300 * 240 := Nat.mul_le_mul h2 hll
    omega
  refine W_cond (by rfl) (fun _ => ?_) (fun h => by cases h)
  have hbd := oi_bound h hu
  have hp0 : PI j L (stO e.lg) P 0 e false := ⟨hu.ei, hu.dd, hu.pos, hu.st, by have := hu.len; omega, inp_zero _ _ _⟩
  have hne := fun e' ag' hp => oi_next h hL hc hu (e' := e') (ag := ag') hp
  have hN2 := (hX3.opq hR').n
  simp (maxSteps := 400000) (disch := omega) only [push_cast, ↓reduceIte, reduceCtorEq, Nat.reduceAdd, Nat.reduceSub, Nat.reduceEqDiff, Nat.reduceLeDiff, Nat.reduceLT, Nat.reduceBEq, Nat.reduceDiv, Nat.reduceMod, Nat.reducePow, Nat.reduceMul, Int.reduceToNat, Int.reduceLT, Int.reduceLE, engM, List.cons_append, List.nil_append]
  repeat' (first | refine w1g ?_ | refine w1l ?_ | refine w1q ?_ | refine w1b ?_ | refine w1p ?_ | ((first | refine w1r ?_ | refine w1k ?_ | refine w1e ?_); simp (maxSteps := 400000) (disch := omega) only [push_cast, ↓reduceIte, reduceCtorEq, Nat.reduceAdd, Nat.reduceSub, Nat.reduceEqDiff, Nat.reduceLeDiff, Nat.reduceLT, Nat.reduceBEq, Nat.reduceDiv, Nat.reduceMod, Nat.reducePow, Nat.reduceMul, Int.reduceToNat, Int.reduceLT, Int.reduceLE, keepL, ne_l, ne_r]) | refine an2 ?_ | fail)
  refine W_loopX 60 (fun v : Nat × Es × Bool => [(4, bv v.2.2), (26, iv v.1)]) (fun v => engE b j L v.2.1) (fun v => v.1 ≤ L.length ∧ PI j L (stO e.lg) P v.1 v.2.1 v.2.2) (fun v => L.length - v.1) (fun v _ => engM_bas _ _ _ _ _ _) ((hX3.opq hR').le (show nx2 ≤ nx2 + 9 by omega)) (0, e, false) ⟨by dsimp only; omega, hp0⟩ (by rfl) (sameM.refl _) (fun v R3 nx3 hv hX4 => ?_)
  obtain ⟨q, f, ag⟩ := v
  obtain ⟨hq, hp⟩ := hv
  dsimp only at hq hp ⊢
  have hX5 : Ext nx' R' nx3 R3 := (hX3.up (show nx2 ≤ nx2 + 9 by omega)).trans hX4
  have hN3 := (hX5.opq hR').n
  clear hX3 hN2 hp0
  have hfl := hp.ei.len
  simp (maxSteps := 400000) (disch := omega) only [push_cast, ↓reduceIte, reduceCtorEq, Nat.reduceAdd, Nat.reduceSub, Nat.reduceEqDiff, Nat.reduceLeDiff, Nat.reduceLT, Nat.reduceBEq, Nat.reduceDiv, Nat.reduceMod, Nat.reducePow, Nat.reduceMul, Int.reduceToNat, Int.reduceLT, Int.reduceLE, keepL]
  repeat' (first | refine w1g ?_ | refine w1l ?_ | refine w1q ?_ | refine w1b ?_ | refine w1p ?_ | ((first | refine w1r ?_ | refine w1k ?_ | refine w1e ?_); simp (maxSteps := 400000) (disch := omega) only [push_cast, ↓reduceIte, reduceCtorEq, Nat.reduceAdd, Nat.reduceSub, Nat.reduceEqDiff, Nat.reduceLeDiff, Nat.reduceLT, Nat.reduceBEq, Nat.reduceDiv, Nat.reduceMod, Nat.reducePow, Nat.reduceMul, Int.reduceToNat, Int.reduceLT, Int.reduceLE, keepL]) | refine an2 ?_ | fail)
  refine W_condD (by rfl) (fun h6 => ?_) (fun h6 => ?_)
  · have hql : q < L.length := by omega
    obtain ⟨a, ha⟩ : ∃ a, L.getD q dAf = a := ⟨_, rfl⟩
    have ham : a ∈ L := by rw [← ha]; exact getD_mem' dAf L q hql
    have hst := fun hd => pi_step h hL hp hql ha hd
    have hrl := raise_len (j := j) (a := a) (e := f)
    have hei := raise_ei hL hp.ei ham hp.pos
    have hdn := (raise_eng h hL hp.ei ham hp.pos hp.dd).1
    have hdd := raise_dead h hL ham hp.dd
    have hflen : f.lg.length ≤ 5000000 := by
      have h1 := hp.len
      have h3 : P * L.length ≤ 19300 * 240 := Nat.mul_le_mul (by omega) hll
      omega
    have hI := fun (tm : List (Nat × AV)) (R2 : Mem) (nx2 : Nat) (hR2 : Opq 60 R2 nx2) => i112 b j L f h a (hL a ham) hfl (fun i hi => by rw [hp.ei.get hi]; exact log_rng h hL hp.ei.lg i) (by omega) (tm := tm) hR2
    simp (maxSteps := 400000) (disch := omega) only [push_cast, ↓reduceIte, reduceCtorEq, Nat.reduceAdd, Nat.reduceSub, Nat.reduceEqDiff, Nat.reduceLeDiff, Nat.reduceLT, Nat.reduceBEq, Nat.reduceDiv, Nat.reduceMod, Nat.reducePow, Nat.reduceMul, Int.reduceToNat, Int.reduceLT, Int.reduceLE, engM, List.cons_append, List.nil_append]
    repeat' (first | refine w1g ?_ | refine w1l ?_ | refine w1q ?_ | refine w1b ?_ | refine w1p ?_ | ((first | refine w1r ?_ | refine w1k ?_ | refine w1e ?_); simp (maxSteps := 400000) (disch := omega) only [push_cast, ↓reduceIte, reduceCtorEq, Nat.reduceAdd, Nat.reduceSub, Nat.reduceEqDiff, Nat.reduceLeDiff, Nat.reduceLT, Nat.reduceBEq, Nat.reduceDiv, Nat.reduceMod, Nat.reducePow, Nat.reduceMul, Int.reduceToNat, Int.reduceLT, Int.reduceLE, keepL, ne_l, ne_r, ha]) | refine an2 ?_ | fail)
    refine CallC.inl (Inl_sameM (engE b j L f ++ R3) _ (sameM.refl _) (((hX5.opq hR').le (Nat.le_refl _)).mem (engM_bas b j L _ _ _)) (Inl_le' (hI _ R3 _ (hX5.opq hR')) (fun r s' hs2 => ?_)))
    obtain ⟨B', R4, nx4, hB', hX6, ⟨rfl, rfl⟩, hl⟩ := hs2
    refine ⟨_, ?_, hl⟩
    clear hI hl hB'
    generalize raiseE j a f = g at *
    generalize raiseB j a f = rb at *
    have hgl : g.lg.length ≤ 10000000 := by omega
    have hX7 : Ext nx' R' nx4 R4 := hX5.trans hX6
    have hN4 := (hX7.opq hR').n
    simp (maxSteps := 400000) (disch := omega) only [push_cast, ↓reduceIte, reduceCtorEq, Nat.reduceAdd, Nat.reduceSub, Nat.reduceEqDiff, Nat.reduceLeDiff, Nat.reduceLT, Nat.reduceBEq, Nat.reduceDiv, Nat.reduceMod, Nat.reducePow, Nat.reduceMul, Int.reduceToNat, Int.reduceLT, Int.reduceLE, engM, List.cons_append, List.nil_append]
    repeat' (first | refine w1g ?_ | refine w1l ?_ | refine w1q ?_ | refine w1b ?_ | refine w1p ?_ | ((first | refine w1r ?_ | refine w1k ?_ | refine w1e ?_); simp (maxSteps := 400000) (disch := omega) only [push_cast, ↓reduceIte, reduceCtorEq, Nat.reduceAdd, Nat.reduceSub, Nat.reduceEqDiff, Nat.reduceLeDiff, Nat.reduceLT, Nat.reduceBEq, Nat.reduceDiv, Nat.reduceMod, Nat.reducePow, Nat.reduceMul, Int.reduceToNat, Int.reduceLT, Int.reduceLE, keepL, ne_l, ne_r]) | refine an2 ?_ | fail)
    cases hgd : g.dd
    · refine W_cond (by rfl) (fun h => by cases h) (fun _ => ?_)
      repeat' (first | refine w1g ?_ | refine w1l ?_ | refine w1q ?_ | refine w1b ?_ | refine w1p ?_ | ((first | refine w1r ?_ | refine w1k ?_ | refine w1e ?_); simp (maxSteps := 400000) (disch := omega) only [push_cast, ↓reduceIte, reduceCtorEq, Nat.reduceAdd, Nat.reduceSub, Nat.reduceEqDiff, Nat.reduceLeDiff, Nat.reduceLT, Nat.reduceBEq, Nat.reduceDiv, Nat.reduceMod, Nat.reducePow, Nat.reduceMul, Int.reduceToNat, Int.reduceLT, Int.reduceLE, keepL]) | refine an2 ?_ | fail)
      refine ⟨(q + 1, g, rb || ag), R4, ⟨by dsimp only; omega, hst hgd⟩, by dsimp only; omega, by rfl, ?_, (hX6.up (by first | omega | (dsimp only; omega)))⟩
      show sameM (engM b j L g.ss g.lg g.dd ++ R4) _
      rw [hgd]
      exact sameM.refl _
    · refine W_cond (by rfl) (fun _ => ?_) (fun h => by cases h)
      repeat' (first | refine w1g ?_ | refine w1l ?_ | refine w1q ?_ | refine w1b ?_ | refine w1p ?_ | ((first | refine w1r ?_ | refine w1k ?_ | refine w1e ?_); simp (maxSteps := 400000) (disch := omega) only [push_cast, ↓reduceIte, reduceCtorEq, Nat.reduceAdd, Nat.reduceSub, Nat.reduceEqDiff, Nat.reduceLeDiff, Nat.reduceLT, Nat.reduceBEq, Nat.reduceDiv, Nat.reduceMod, Nat.reducePow, Nat.reduceMul, Int.reduceToNat, Int.reduceLT, Int.reduceLE, keepL]) | refine an2 ?_ | fail)
      refine W_ret ?_
      obtain ⟨r, hr1, hr2⟩ := hdd hgd
      refine fin _ false g R4 (by rfl) ?_ (hX7.up (by first | omega | (dsimp only; omega))) ⟨hei, hgl, fun q => (by cases q), fun _ => ⟨hdn hgd, _, _, hr1, hr2, hp.st⟩⟩
      show sameM (engM b j L g.ss g.lg g.dd ++ R4) _
      rw [hgd]
      exact sameM.refl _
  · obtain rfl : q = L.length := by omega
    have hne := hne _ _ hp
    repeat' (first | refine w1g ?_ | refine w1l ?_ | refine w1q ?_ | refine w1b ?_ | refine w1p ?_ | ((first | refine w1r ?_ | refine w1k ?_ | refine w1e ?_); simp (maxSteps := 400000) (disch := omega) only [push_cast, ↓reduceIte, reduceCtorEq, Nat.reduceAdd, Nat.reduceSub, Nat.reduceEqDiff, Nat.reduceLeDiff, Nat.reduceLT, Nat.reduceBEq, Nat.reduceDiv, Nat.reduceMod, Nat.reducePow, Nat.reduceMul, Int.reduceToNat, Int.reduceLT, Int.reduceLE, keepL]) | refine an2 ?_ | fail)
    refine ⟨(f, P + 1, ag), R3, hne, ?_, by rfl, sameM.refl _, ?_⟩
    · dsimp only
      split <;> omega
    · exact (hX4.dn (by omega)).up (by first | omega | (dsimp only; omega))
end Go.Proofs.Ytoiohkjomcbadaa

namespace Go.Proofs.Ytoiohkjomcbadaa
open Go Sy
set_option maxRecDepth 100000
set_option maxHeartbeats 4000000
set_option linter.unusedVariables false
set_option linter.unusedSimpArgs false
open Classical in
noncomputable def erlB (j : Jb) (L : List Af) : Bool := decide (∃ p, Rgt j.ts L p)
open Classical in
noncomputable def lstP (j : Jb) (L : List Af) : Nat → Int := if h : ∃ p, Rgt j.ts L p ∧ Low j.ts L p then Classical.choose h else fun _ => 0
noncomputable def erlL (j : Jb) (L : List Af) : List Int := if erlB j L = true then lsF j.ts.length (lstP j L) else []
theorem erl_yes {j : Jb} {L : List Af} {q : Nat → Int} (h1 : Rgt j.ts L q) (h2 : Low j.ts L q) : erlB j L = true ∧ erlL j L = lsF j.ts.length q ∧ Rgt j.ts L (lstP j L) ∧ Low j.ts L (lstP j L) := by
  have hb : erlB j L = true := by unfold erlB; exact @decide_eq_true _ (Classical.propDecidable _) ⟨q, h1⟩
  have hx : ∃ p, Rgt j.ts L p ∧ Low j.ts L p := ⟨q, h1, h2⟩
  have hs : Rgt j.ts L (lstP j L) ∧ Low j.ts L (lstP j L) := by
    unfold lstP
    rw [dif_pos hx]
    exact Classical.choose_spec hx
  refine ⟨hb, ?_, hs⟩
  unfold erlL
  rw [if_pos hb]
  exact lsF_congr fun i hi => low_end hs.2 hs.1 h2 h1 i hi
theorem erl_no {j : Jb} {L : List Af} (h : ¬ ∃ p, Rgt j.ts L p) : erlB j L = false ∧ erlL j L = [] := by
  have hb : erlB j L = false := by unfold erlB; exact @decide_eq_false _ (Classical.propDecidable _) h
  refine ⟨hb, ?_⟩
  unfold erlL
  rw [hb, if_neg (by decide)]
theorem run_yes {j : Jb} {L : List Af} (h : OkJ j) (hL : ∀ a ∈ L, LkOk j.ts.length a) {e : Es} (hr : RunOk j L true e) : Rgt j.ts L (stO e.lg) ∧ Low j.ts L (stO e.lg) := by
  obtain ⟨h1, h2, _⟩ := hr.ys rfl
  exact ⟨⟨fun i hi => log_fit h hr.ei.lg i hi (h1 i hi), h2⟩, (log_low h hL hr.ei.lg).1⟩
theorem can_no {j : Jb} {L : List Af} (hL : ∀ a ∈ L, LkOk j.ts.length a) (hc : Can (lkL L) (rnds (lkL L) (fun _ => 0) j.ts.length)) : ¬ ∃ p, Rgt j.ts L p := fun ⟨p, hp⟩ => by
  refine bf_stop (p := p) (fun e he => ?_) (lk_in hL) (Nat.le_succ j.ts.length) hc
  obtain ⟨a, ha, rfl⟩ := List.mem_map.1 he
  exact hp.l a ha
theorem can_none {j : Jb} {L : List Af} (hL : ∀ a ∈ L, LkOk j.ts.length a) (hc : ¬ Can (lkL L) (rnds (lkL L) (fun _ => 0) j.ts.length)) : ∀ x s c, Wx (lkL L) x x s c → 0 < c → c ≤ j.ts.length → s ≤ 0 := fun x s c hw h0 hn => by
  rcases Int.lt_or_le 0 s with q | q
  · exact absurd ((can_iff (lk_in hL) (Nat.le_succ j.ts.length)).2 ⟨x, s, c, hw, h0, hn, q⟩) hc
  · exact q
theorem lks_lk' {j : Jb} {o : List (List Int)} (h : OkO j o) : ∀ e ∈ lks j o, LkOk j.ts.length e := fun e he => by
  obtain ⟨h1, h2, h3, h4, h5, h6, h7⟩ := lks_ok h e he
  exact ⟨h1, h2, h3, h4, h6, h7⟩
theorem fn50 (j : Jb) (o : List (List Int)) (h : OkO j o) : Sy.Fn Try.prog 50 [aJ j, aO o] (.tup [aI (erlL j (lks j o)), bv (erlB j (lks j o))]) := by
  refine Fn_of_W mixed Xt50 rfl ?_
  have c52 := fn52 j o h
  have hn := h.n
  have hcJ : cJ j = [aT j.ts, aA j.af, aI j.tm] := rfl
  have hLL := lks_lk' h
  repeat (first | refine w1g ?_ | refine w1l ?_ | refine w1q ?_ | refine w1b ?_)
  refine w1r ?_
  (refine sy1 ?_; try exact True.intro)
  repeat (refine w1g ?_)
  refine W_gc [1, 2] [] 0 (by rfl) ?_
  simp (maxSteps := 400000) (disch := omega) only [push_cast, ↓reduceIte, reduceCtorEq, Nat.reduceAdd, Nat.reduceSub, Nat.reduceEqDiff, Nat.reduceLeDiff, Nat.reduceLT, Nat.reduceBEq, Nat.reduceDiv, Nat.reduceMod, Nat.reducePow, Nat.reduceMul, Int.reduceToNat, Int.reduceLT, Int.reduceLE, S.norm, List.map_cons, List.map_nil, keepM]
  repeat' (first | refine w1g ?_ | refine w1l ?_ | refine w1q ?_ | refine w1b ?_ | refine w1p ?_ | ((first | refine w1r ?_ | refine w1k ?_ | refine w1e ?_); (refine sy1 ?_; try exact True.intro)) | refine an2 ?_ | fail)
  refine CallC.inl (Inl_of_W mixed Xs69 rfl (fun vs => ?_))
  (refine sy1 ?_; try exact True.intro)
  repeat' (first | refine w1g ?_ | refine w1l ?_ | refine w1q ?_ | refine w1b ?_ | refine w1p ?_ | ((first | refine w1r ?_ | refine w1k ?_ | refine w1e ?_ | refine CallC.now (c52) ?_); (refine sy1 ?_; try exact True.intro)) | refine an2 ?_ | fail)
  refine ⟨rfl, ⟨by omega, by omega, by omega⟩, Int, 0, cI, 0, rfl, rfl, by omega, rfl, ?_⟩
  simp (maxSteps := 400000) (disch := omega) only [push_cast, ↓reduceIte, reduceCtorEq, Nat.reduceAdd, Nat.reduceSub, Nat.reduceEqDiff, Nat.reduceLeDiff, Nat.reduceLT, Nat.reduceBEq, Nat.reduceDiv, Nat.reduceMod, Nat.reducePow, Nat.reduceMul, Int.reduceToNat, Int.reduceLT, Int.reduceLE, Int.toNat_natCast, hcJ, List.cons_append, List.nil_append, List.append_nil, List.take_succ_cons, List.take_zero, List.drop_succ_cons, List.drop_zero, List.drop_nil, List.length_cons, List.length_nil]
  rw [lsF_rep]
  repeat' (first | refine w1g ?_ | refine w1l ?_ | refine w1q ?_ | refine w1b ?_ | refine w1p ?_ | ((first | refine w1r ?_ | refine w1k ?_ | refine w1e ?_); (refine sy1 ?_; try exact True.intro)) | refine an2 ?_ | fail)
  refine W_name 15 (by rfl) (fun b => ?_)
  (refine sy1 ?_; try exact True.intro)
  refine W_le (le_adoptC 14 5 64 4 dRs cR (by omega) _ rfl rfl (by simp)) ?_
  (refine sy1 ?_; try exact True.intro)
  refine W_le (le_adoptC 14 6 29 1 dAf (cCl b) (by omega) _ rfl rfl (by simp)) ?_
  (refine sy1 ?_; try exact True.intro)
  have hl0 := lsF_len j.ts.length (fun _ => 0)
  rw [hl0]
  clear hl0
  rw [f1_zero]
  refine W_loopU (fun i : Nat => [(24, iv i)]) (fun i => [(12, .row 0 2 1 0 cI (lsF j.ts.length (f1 i)))]) (fun i => i ≤ j.ts.length) (fun i => j.ts.length - i) 0 (by omega) (by rfl) (by rfl) (fun i hi => ?_)
  have hli := lsF_len j.ts.length (f1 i)
  (refine sy1 ?_; try exact True.intro)
  repeat' (first | refine w1g ?_ | refine w1l ?_ | refine w1q ?_ | refine w1b ?_ | refine w1p ?_ | ((first | refine w1r ?_ | refine w1k ?_ | refine w1e ?_); (refine sy1 ?_; try exact True.intro)) | refine an2 ?_ | fail)
  refine W_condD (by rfl) (fun h5 => ?_) (fun h5 => ?_)
  · have hset : (lsF j.ts.length (f1 i)).set i (-1) = lsF j.ts.length (f1 (i + 1)) := by rw [lsF_set (by omega), f1_step]
    repeat' (first | refine w1g ?_ | refine w1l ?_ | refine w1q ?_ | refine w1b ?_ | refine w1p ?_ | ((first | refine w1r ?_ | refine w1k ?_ | refine w1e ?_); simp (maxSteps := 400000) (disch := omega) only [push_cast, ↓reduceIte, reduceCtorEq, Nat.reduceAdd, Nat.reduceSub, Nat.reduceEqDiff, Nat.reduceLeDiff, Nat.reduceLT, Nat.reduceBEq, Nat.reduceDiv, Nat.reduceMod, Nat.reducePow, Nat.reduceMul, Int.reduceToNat, Int.reduceLT, Int.reduceLE, hli]) | refine an2 ?_ | fail)
    refine ⟨rfl, ⟨Nat.le_of_ble_eq_true rfl, rfl⟩, by omega, -1, rfl, rfl, ?_⟩
    rw [hset]
    (refine sy1 ?_; try exact True.intro)
    repeat' (first | refine w1g ?_ | refine w1l ?_ | refine w1q ?_ | refine w1b ?_ | refine w1p ?_ | ((first | refine w1r ?_ | refine w1k ?_ | refine w1e ?_); (refine sy1 ?_; try exact True.intro)) | refine an2 ?_ | fail)
    refine ⟨i + 1, by omega, by omega, by rfl, ?_⟩
    (refine syE ?_; try exact True.intro)
  obtain rfl : i = j.ts.length := by omega
  repeat' (first | refine w1g ?_ | refine w1l ?_ | refine w1q ?_ | refine w1b ?_ | refine w1p ?_ | ((first | refine w1r ?_ | refine w1k ?_ | refine w1e ?_); (refine sy1 ?_; try exact True.intro)) | refine an2 ?_ | fail)
  have hll := lks_len h
  generalize lks j o = L at *
  refine W_loopU (fun k : Nat => [(39, iv k)]) (fun k => [(25, .row k 29 1 dAf (cCl b) (L.take k)), (14, .cells [aT j.ts, aA j.af, aI j.tm, .sl 3 dAf cA L, .row 12 0, .row 24 0, .row 25 k, bv false])]) (fun k => k ≤ L.length) (fun k => L.length - k) 0 (by omega) (by rfl) (by rfl) (fun k hk => ?_)
  have htl : (L.take k).length = k := by rw [List.length_take]; omega
  (refine sy1 ?_; try exact True.intro)
  repeat' (first | refine w1g ?_ | refine w1l ?_ | refine w1q ?_ | refine w1b ?_ | refine w1p ?_ | ((first | refine w1r ?_ | refine w1k ?_ | refine w1e ?_); (refine sy1 ?_; try exact True.intro)) | refine an2 ?_ | fail)
  refine W_condD (by rfl) (fun h6 => ?_) (fun h6 => ?_)
  · have hts := take_snoc dAf L k (by omega)
    obtain ⟨a, hga⟩ : ∃ a, L.getD k dAf = a := ⟨_, rfl⟩
    rw [hga] at hts
    refine W_skip ?_
    (refine sy1 ?_; try exact True.intro)
    repeat (first | refine w1g ?_ | refine w1l ?_ | refine w1q ?_ | refine w1b ?_)
    refine w1r ?_
    simp (maxSteps := 400000) (disch := omega) only [push_cast, ↓reduceIte, reduceCtorEq, Nat.reduceAdd, Nat.reduceSub, Nat.reduceEqDiff, Nat.reduceLeDiff, Nat.reduceLT, Nat.reduceBEq, Nat.reduceDiv, Nat.reduceMod, Nat.reducePow, Nat.reduceMul, Int.reduceToNat, Int.reduceLT, Int.reduceLE, hga]
    refine ⟨⟨by omega, by omega⟩, ?_⟩
    repeat (refine w1g ?_)
    refine W_le (le_frz 8 [5, 37, 38, 39] [25, 24, 23, 2, 12, 14, 15] 60 36 0 (cA a) rfl rfl rfl rfl rfl) ?_
    simp (maxSteps := 400000) (disch := omega) only [push_cast, ↓reduceIte, reduceCtorEq, Nat.reduceAdd, Nat.reduceSub, Nat.reduceEqDiff, Nat.reduceLeDiff, Nat.reduceLT, Nat.reduceBEq, Nat.reduceDiv, Nat.reduceMod, Nat.reducePow, Nat.reduceMul, Int.reduceToNat, Int.reduceLT, Int.reduceLE, List.map_cons, List.map_nil, keepM]
    generalize L.take k = T at *
    refine reg69 j L T a b k vs _ (lsF j.ts.length (f1 j.ts.length)) htl (by omega) ?_
    (refine sy1 ?_; try exact True.intro)
    repeat' (first | refine w1g ?_ | refine w1l ?_ | refine w1q ?_ | refine w1b ?_ | refine w1p ?_ | ((first | refine w1r ?_ | refine w1k ?_ | refine w1e ?_); (refine sy1 ?_; try exact True.intro)) | refine an2 ?_ | fail)
    refine ⟨k + 1, by omega, by omega, by rfl, ?_⟩
    rw [hts]
    (refine syE ?_; try exact True.intro)
  obtain rfl : k = L.length := by omega
  rw [List.take_length]
  repeat' (first | refine w1g ?_ | refine w1l ?_ | refine w1q ?_ | refine w1b ?_ | refine w1p ?_ | ((first | refine w1r ?_ | refine w1k ?_ | refine w1e ?_); (refine sy1 ?_; try exact True.intro)) | refine an2 ?_ | fail)
  refine W_ret ⟨[_], _, ⟨rfl, rfl⟩, rfl, ?_⟩
  simp (maxSteps := 400000) (disch := omega) only [push_cast, ↓reduceIte, reduceCtorEq, Nat.reduceAdd, Nat.reduceSub, Nat.reduceEqDiff, Nat.reduceLeDiff, Nat.reduceLT, Nat.reduceBEq, Nat.reduceDiv, Nat.reduceMod, Nat.reducePow, Nat.reduceMul, Int.reduceToNat, Int.reduceLT, Int.reduceLE, pack, delm]
  have hf1 : lsF j.ts.length (f1 j.ts.length) = (e1 j 0).ss := lsF_congr fun i hi => by unfold f1; rw [if_pos hi]
  rw [hf1]
  refine W_gc [2, 6] [25, 24, 23, 12, 14, 15] 60 (by rfl) ?_
  simp (maxSteps := 400000) (disch := omega) only [push_cast, ↓reduceIte, reduceCtorEq, Nat.reduceAdd, Nat.reduceSub, Nat.reduceEqDiff, Nat.reduceLeDiff, Nat.reduceLT, Nat.reduceBEq, Nat.reduceDiv, Nat.reduceMod, Nat.reducePow, Nat.reduceMul, Int.reduceToNat, Int.reduceLT, Int.reduceLE, S.norm, List.map_cons, List.map_nil, keepM]
  by_cases hc : Can (lkL L) (rnds (lkL L) (fun _ => 0) j.ts.length)
  · obtain ⟨p, hp1, hp2, c70⟩ := fn70s j.ts.length L (by have := h.n0; omega) hn hll hLL hc
    obtain ⟨e1, e2⟩ := erl_no (can_no hLL hc)
    have hpl := cirL_len (brs (lkL L) (j.ts.length + 1)).by' (crcX j.ts.length (lkL L)) p
    have hpp := hp2.pos
    have hrl : 0 < (cirL (brs (lkL L) (j.ts.length + 1)).by' (crcX j.ts.length (lkL L)) p).reverse.length := by rw [List.length_reverse]; omega
    generalize (cirL (brs (lkL L) (j.ts.length + 1)).by' (crcX j.ts.length (lkL L)) p).reverse = C at *
    rw [e1, e2]
    repeat' (first | refine w1g ?_ | refine w1l ?_ | refine w1q ?_ | refine w1b ?_ | refine w1p ?_ | ((first | refine W_regS 11 (by decide) (by decide) ?_ | refine w1r ?_ | refine w1k ?_ | refine w1e ?_ | refine CallC.now (c70) ?_); (refine sy1 ?_; try exact True.intro)) | refine an2 ?_ | fail)
    refine CallC.inlG (fun q => absurd q (by simp [pc])) (fun q => ⟨bv false, ?_⟩)
    (refine sy1 ?_; try exact True.intro)
    refine W_cond (by rfl) (fun _ => ?_) (fun h => by cases h)
    repeat' (first | refine w1g ?_ | refine w1l ?_ | refine w1q ?_ | refine w1b ?_ | refine w1p ?_ | ((first | refine w1r ?_ | refine w1k ?_ | refine w1e ?_); (refine sy1 ?_; try exact True.intro)) | refine an2 ?_ | fail)
    refine W_le (le_nil 4 1 0 cI rfl) ?_
    exact W_ret ⟨[_, _], ⟨rfl, rfl, rfl⟩, rfl⟩
  · have c70 := fn70n j.ts.length L (by have := h.n0; omega) hn hll hLL hc
    have hR0 := fun (tm : List (Nat × AV)) => i71 b j L h.toOkJ hLL hll (can_none hLL hc) (tm := tm) (opq_nil 60)
    repeat' (first | refine w1g ?_ | refine w1l ?_ | refine w1q ?_ | refine w1b ?_ | refine w1p ?_ | ((first | refine W_regS 11 (by decide) (by decide) ?_ | refine w1r ?_ | refine w1k ?_ | refine w1e ?_ | refine CallC.now (c70) ?_); (refine sy1 ?_; try exact True.intro)) | refine an2 ?_ | fail)
    refine CallC.inlG (fun _ => ⟨trivial, Inl_sameM (engE b j L (e1 j 0) ++ []) 60 (fun _ => rfl) ((opq_nil 60).mem (engM_bas b j L _ _ _)) (Inl_le' (hR0 _) (fun r s' hs2 => ?_))⟩) (fun q => absurd (by simp [pc]) q)
    obtain ⟨B', R2, nx2, hB', hX, ⟨ok, e, rfl, rfl, hr⟩, hl⟩ := hs2
    refine ⟨_, ?_, hl⟩
    (refine sy1 ?_; try exact True.intro)
    cases ok
    · obtain ⟨e1, e2⟩ := erl_no (hr.no rfl).1
      rw [e1, e2]
      refine W_cond (by rfl) (fun _ => ?_) (fun h => by cases h)
      repeat' (first | refine w1g ?_ | refine w1l ?_ | refine w1q ?_ | refine w1b ?_ | refine w1p ?_ | ((first | refine w1r ?_ | refine w1k ?_ | refine w1e ?_); (refine sy1 ?_; try exact True.intro)) | refine an2 ?_ | fail)
      refine W_le (le_nil 4 1 0 cI rfl) ?_
      exact W_ret ⟨[_, _], ⟨rfl, rfl, rfl⟩, rfl⟩
    · obtain ⟨q1, q2⟩ := run_yes h.toOkJ hLL hr
      obtain ⟨e1, e2, _⟩ := erl_yes q1 q2
      have hss := hr.ei.ss
      rw [e1, e2, ← hss]
      refine W_cond (by rfl) (fun h => by cases h) (fun _ => ?_)
      simp (maxSteps := 400000) (disch := omega) only [push_cast, ↓reduceIte, reduceCtorEq, Nat.reduceAdd, Nat.reduceSub, Nat.reduceEqDiff, Nat.reduceLeDiff, Nat.reduceLT, Nat.reduceBEq, Nat.reduceDiv, Nat.reduceMod, Nat.reducePow, Nat.reduceMul, Int.reduceToNat, Int.reduceLT, Int.reduceLE, engM, List.cons_append, List.nil_append]
      repeat' (first | refine w1g ?_ | refine w1l ?_ | refine w1q ?_ | refine w1b ?_ | refine w1p ?_ | ((first | refine w1r ?_ | refine w1k ?_ | refine w1e ?_); (refine sy1 ?_; try exact True.intro)) | refine an2 ?_ | fail)
      exact W_ret ⟨[_, _], ⟨rfl, rfl, rfl⟩, rfl⟩
end Go.Proofs.Ytoiohkjomcbadaa

namespace Go.Proofs.Ytoiohkjomcbadaa
open Go Sy
set_option maxRecDepth 100000
set_option maxHeartbeats 4000000
set_option linter.unusedVariables false
set_option linter.unusedSimpArgs false
noncomputable def eaE (j : Jb) (o : List (List Int)) : Int := if chkO j o = 0 then (if erlB j (lks j o) = true then 0 else 15) else chkO j o
noncomputable def eaL (j : Jb) (o : List (List Int)) : List Int := if chkO j o = 0 then erlL j (lks j o) else []
theorem erlL_no {j : Jb} {L : List Af} (h : erlB j L = false) : erlL j L = [] := by unfold erlL; rw [h, if_neg (by decide)]
theorem fn14 (j : Jb) (o : List (List Int)) (h : Gj j) (ho : Go' o) : Sy.Fn Try.prog 14 [aJ j, aO o] (.tup [aI (eaL j o), iv (eaE j o)]) := by
  refine Fn_of_W mixed Xt14 rfl ?_
  have c40 := fn40 j o h ho
  by_cases h0 : chkO j o = 0
  · have e1 : eaL j o = erlL j (lks j o) := by unfold eaL; rw [if_pos h0]
    have e2 : eaE j o = if erlB j (lks j o) = true then 0 else 15 := by unfold eaE; rw [if_pos h0]
    have c50 := fn50 j o (chkO_ok h0).1
    have hno := erlL_no (j := j) (L := lks j o)
    rw [h0] at c40
    rw [e1, e2]
    generalize erlL j (lks j o) = E at *
    generalize erlB j (lks j o) = b at *
    repeat' (first | refine w1g ?_ | refine w1l ?_ | refine w1q ?_ | refine w1b ?_ | refine w1p ?_ | ((first | refine w1r ?_ | refine w1k ?_ | refine w1e ?_ | refine CallC.now (c40) ?_); (refine sy1 ?_; try exact True.intro)) | refine an2 ?_ | fail)
    refine W_cond (by rfl) (fun h => by cases h) (fun _ => ?_)
    repeat' (first | refine w1g ?_ | refine w1l ?_ | refine w1q ?_ | refine w1b ?_ | refine w1p ?_ | ((first | refine w1r ?_ | refine w1k ?_ | refine w1e ?_ | refine CallC.now (c50) ?_); (refine sy1 ?_; try exact True.intro)) | refine an2 ?_ | fail)
    cases b
    · rw [hno rfl]
      refine W_cond (by rfl) (fun _ => ?_) (fun h => by cases h)
      repeat' (first | refine w1g ?_ | refine w1l ?_ | refine w1q ?_ | refine w1b ?_ | refine w1p ?_ | ((first | refine w1r ?_ | refine w1k ?_ | refine w1e ?_); (refine sy1 ?_; try exact True.intro)) | refine an2 ?_ | fail)
      refine W_le (le_nil 4 1 0 cI rfl) ?_
      exact W_ret ⟨[_, _], ⟨rfl, rfl, rfl⟩, rfl⟩
    · refine W_cond (by rfl) (fun h => by cases h) (fun _ => ?_)
      repeat' (first | refine w1g ?_ | refine w1l ?_ | refine w1q ?_ | refine w1b ?_ | refine w1p ?_ | ((first | refine w1r ?_ | refine w1k ?_ | refine w1e ?_); (refine sy1 ?_; try exact True.intro)) | refine an2 ?_ | fail)
      exact W_ret ⟨[_, _], ⟨rfl, rfl, rfl⟩, rfl⟩
  · have e1 : eaL j o = [] := by unfold eaL; rw [if_neg h0]
    have e2 : eaE j o = chkO j o := by unfold eaE; rw [if_neg h0]
    rw [e1, e2]
    generalize chkO j o = E at *
    repeat' (first | refine w1g ?_ | refine w1l ?_ | refine w1q ?_ | refine w1b ?_ | refine w1p ?_ | ((first | refine w1r ?_ | refine w1k ?_ | refine w1e ?_ | refine CallC.now (c40) ?_); (refine sy1 ?_; try exact True.intro)) | refine an2 ?_ | fail)
    refine W_cond (by rfl) (fun _ => ?_) (fun h => absurd (by simpa using h) h0)
    repeat' (first | refine w1g ?_ | refine w1l ?_ | refine w1q ?_ | refine w1b ?_ | refine w1p ?_ | ((first | refine w1r ?_ | refine w1k ?_ | refine w1e ?_); (refine sy1 ?_; try exact True.intro)) | refine an2 ?_ | fail)
    refine W_le (le_nil 4 1 0 cI rfl) ?_
    exact W_ret ⟨[_, _], ⟨rfl, rfl, rfl⟩, rfl⟩
def exW : List Wn := [⟨0, 100⟩, ⟨1000, 2000⟩]
def exJ : Jb := ⟨[⟨60, exW, 0⟩, ⟨60, exW, 0⟩, ⟨60, exW, -1⟩], [⟨0, 2, 50⟩], [30]⟩
def exO : List (List Int) := [[0, 1]]
theorem ex_chk : chkO exJ exO = 0 := by
  have h1 : chkJ exJ = 0 := by decide +kernel
  have h2 : ordB exJ exO = true := by
    unfold ordB
    show (rowB exJ 0 [0, 1] && true) = true
    rw [Bool.and_true, rowB_iff]
    exact List.Perm.refl _
  unfold chkO
  rw [if_pos h1, if_pos (by decide), if_pos h2]
def exP : Nat → Int := fun i => if i = 0 then 0 else 1000
theorem ex_lks : lks exJ exO = [⟨0, 2, 50⟩, ⟨0, 1, 90⟩] := by rfl
theorem ex_rgt : Rgt exJ.ts (lks exJ exO) exP := by
  rw [ex_lks]
  refine ⟨fun i hi => ?_, fun e he => ?_⟩
  · rcases i with _ | _ | _ | i
    · exact ⟨⟨0, 100⟩, by simp [exJ, exW], by decide, by decide⟩
    · exact ⟨⟨1000, 2000⟩, by simp [exJ, exW], by decide, by decide⟩
    · exact ⟨⟨1000, 2000⟩, by simp [exJ, exW], by decide, by decide⟩
    · exact absurd (show i + 1 + 1 + 1 < 3 from hi) (by omega)
  · simp only [List.mem_cons, List.not_mem_nil, or_false] at he
    rcases he with rfl | rfl <;> decide
theorem ex_low : Low exJ.ts (lks exJ exO) exP := by
  rw [ex_lks]
  intro p hp i hi
  have f0 := hp.f 0 (by decide)
  have f1 := hp.f 1 (by decide)
  have f2 := hp.f 2 (by decide)
  have l1 := hp.l ⟨0, 2, 50⟩ (by simp)
  have l2 := hp.l ⟨0, 1, 90⟩ (by simp)
  have key : ∀ x, fitW 60 x exW → (0 ≤ x ∧ x ≤ 40) ∨ 1000 ≤ x := fun x hx => by
    obtain ⟨w, hw, h1, h2⟩ := hx
    simp only [exW, List.mem_cons, List.not_mem_nil, or_false] at hw
    rcases hw with rfl | rfl
    · dsimp only at h1 h2; left; omega
    · dsimp only at h1 h2; right; omega
  have k0 := key _ f0
  have k1 := key _ f1
  have k2 := key _ f2
  have l1' : p 0 + 50 ≤ p 2 := l1
  have l2' : p 0 + 90 ≤ p 1 := l2
  rcases i with _ | _ | _ | i
  · show 0 ≤ p 0; omega
  · show 1000 ≤ p 1; omega
  · show 1000 ≤ p 2; omega
  · exact absurd (show i + 1 + 1 + 1 < 3 from hi) (by omega)
theorem ex_ea : eaE exJ exO = 0 ∧ eaL exJ exO = [0, 1000, 1000] := by
  obtain ⟨h1, h2, _⟩ := erl_yes ex_rgt ex_low
  unfold eaE eaL
  rw [if_pos ex_chk, if_pos ex_chk, h1, h2, if_pos rfl]
  exact ⟨rfl, rfl⟩
theorem ex_gj : Gj exJ := ⟨by decide, by decide, by decide, fun i hi => by
  rcases i with _ | _ | _ | i
  · decide
  · decide
  · decide
  · exact absurd (show i + 1 + 1 + 1 < 3 from hi) (by omega)⟩
theorem ex_go : Go' exO := ⟨by decide, fun t ht => by
  rcases t with _ | t
  · decide
  · simp [exO] at ht⟩
theorem fn49 : Sy.Fn Try.prog 49 [] (aJ exJ) := by
  refine Fn_of_W mixed Xt49 rfl ?_
  repeat' (first | refine w1g ?_ | refine w1l ?_ | refine w1q ?_ | refine w1b ?_ | refine w1p ?_ | ((first | refine w1r ?_ | refine w1k ?_ | refine w1e ?_); (refine sy1 ?_; try exact True.intro)) | refine an2 ?_ | fail)
  refine ⟨rfl, trivial, Wn, dWn, cN, exW, rfl, by omega, fun x _ => ⟨rfl, rfl⟩, rfl, ?_⟩
  (refine sy1 ?_; try exact True.intro)
  repeat (refine w1g ?_)
  refine W_le (le_frzR 1 [0] [0] 60 3 0 37 2 dWn cN exW rfl rfl rfl rfl) ?_
  simp (maxSteps := 400000) (disch := omega) only [push_cast, ↓reduceIte, reduceCtorEq, Nat.reduceAdd, Nat.reduceSub, Nat.reduceEqDiff, Nat.reduceLeDiff, Nat.reduceLT, Nat.reduceBEq, Nat.reduceDiv, Nat.reduceMod, Nat.reducePow, Nat.reduceMul, Int.reduceToNat, Int.reduceLT, Int.reduceLE, List.map_cons, List.map_nil, keepM]
  repeat' (first | refine w1g ?_ | refine w1l ?_ | refine w1q ?_ | refine w1b ?_ | refine w1p ?_ | ((first | refine w1r ?_ | refine w1k ?_ | refine w1e ?_); (refine sy1 ?_; try exact True.intro)) | refine an2 ?_ | fail)
  refine ⟨rfl, trivial, Tk, dTk, cT, exJ.ts, rfl, by omega, fun x _ => ⟨rfl, rfl⟩, rfl, ?_⟩
  (refine sy1 ?_; try exact True.intro)
  refine ⟨rfl, trivial, Af, dAf, cA, exJ.af, rfl, by omega, fun x _ => ⟨rfl, rfl⟩, rfl, ?_⟩
  (refine sy1 ?_; try exact True.intro)
  refine ⟨rfl, trivial, Int, 0, cI, exJ.tm, rfl, by omega, fun x _ => ⟨rfl, rfl⟩, rfl, ?_⟩
  (refine sy1 ?_; try exact True.intro)
  repeat' (first | refine w1g ?_ | refine w1l ?_ | refine w1q ?_ | refine w1b ?_ | refine w1p ?_ | ((first | refine w1r ?_ | refine w1k ?_ | refine w1e ?_); (refine sy1 ?_; try exact True.intro)) | refine an2 ?_ | fail)
  exact W_ret ⟨[_], ⟨⟨by decide, rfl⟩, rfl⟩, rfl⟩
theorem ex_fit : ftE exW 60 41 = 0 ∧ ftV exW 60 41 = 1000 := by decide +kernel
theorem fn13 : Sy.Fn Try.prog 13 [] (bv true) := by
  refine Fn_of_W mixed Xt13 rfl ?_
  have c49 := fn49
  have c14 := fn14 exJ exO ex_gj ex_go
  obtain ⟨e1, e2⟩ := ex_ea
  rw [e1, e2] at c14
  have c42 := fn42 exW 60 41 (by decide)
  obtain ⟨e3, e4⟩ := ex_fit
  rw [e3, e4] at c42
  have hcJ : cJ exJ = [aT exJ.ts, aA exJ.af, aI exJ.tm] := rfl
  have g0 : exJ.ts.getD 0 dTk = ⟨60, exW, 0⟩ := rfl
  have l0 : exJ.ts.length = 3 := rfl
  repeat (first | refine w1g ?_ | refine w1l ?_ | refine w1q ?_ | refine w1b ?_)
  refine w1r ?_
  (refine sy1 ?_; try exact True.intro)
  repeat (first | refine w1g ?_ | refine w1l ?_ | refine w1q ?_ | refine w1b ?_)
  refine W_regP [2, 1] (by decide) ?_
  simp (maxSteps := 400000) (disch := omega) only [push_cast, ↓reduceIte, reduceCtorEq, Nat.reduceAdd, Nat.reduceSub, Nat.reduceEqDiff, Nat.reduceLeDiff, Nat.reduceLT, Nat.reduceBEq, Nat.reduceDiv, Nat.reduceMod, Nat.reducePow, Nat.reduceMul, Int.reduceToNat, Int.reduceLT, Int.reduceLE, chainP, List.take_succ_cons, List.take_zero, List.drop_succ_cons, List.drop_zero]
  refine CallC.now c49 ?_
  simp (maxSteps := 400000) (disch := omega) only [push_cast, ↓reduceIte, reduceCtorEq, Nat.reduceAdd, Nat.reduceSub, Nat.reduceEqDiff, Nat.reduceLeDiff, Nat.reduceLT, Nat.reduceBEq, Nat.reduceDiv, Nat.reduceMod, Nat.reducePow, Nat.reduceMul, Int.reduceToNat, Int.reduceLT, Int.reduceLE, chainP, List.take_succ_cons, List.take_zero, List.drop_succ_cons, List.drop_zero]
  refine ⟨rfl, trivial, Int, 0, cI, [0, 1], rfl, by omega, fun x _ => ⟨rfl, rfl⟩, rfl, ?_⟩
  (refine sy1 ?_; try exact True.intro)
  refine ⟨_, le_frzR 7 [6] [] 60 2 0 3 1 0 cI [0, 1] rfl rfl rfl rfl, ?_⟩
  simp (maxSteps := 400000) (disch := omega) only [push_cast, ↓reduceIte, reduceCtorEq, Nat.reduceAdd, Nat.reduceSub, Nat.reduceEqDiff, Nat.reduceLeDiff, Nat.reduceLT, Nat.reduceBEq, Nat.reduceDiv, Nat.reduceMod, Nat.reducePow, Nat.reduceMul, Int.reduceToNat, Int.reduceLT, Int.reduceLE, List.map_cons, List.map_nil, keepM, chainP, List.take_succ_cons, List.take_zero, List.drop_succ_cons, List.drop_zero]
  refine ⟨rfl, trivial, List Int, [], cO, exO, rfl, by omega, fun x _ => ⟨rfl, rfl⟩, rfl, ?_⟩
  (refine sy1 ?_; try exact True.intro)
  refine ⟨_, le_frzR 8 [6] [] 70 60 0 52 1 [] cO exO rfl rfl rfl rfl, ?_⟩
  simp (maxSteps := 400000) (disch := omega) only [push_cast, ↓reduceIte, reduceCtorEq, Nat.reduceAdd, Nat.reduceSub, Nat.reduceEqDiff, Nat.reduceLeDiff, Nat.reduceLT, Nat.reduceBEq, Nat.reduceDiv, Nat.reduceMod, Nat.reducePow, Nat.reduceMul, Int.reduceToNat, Int.reduceLT, Int.reduceLE, List.map_cons, List.map_nil, keepM, chainP, List.take_succ_cons, List.take_zero, List.drop_succ_cons, List.drop_zero]
  repeat' (first | refine w1g ?_ | refine w1l ?_ | refine w1q ?_ | refine w1b ?_ | refine w1p ?_ | ((first | refine w1r ?_ | refine w1k ?_ | refine w1e ?_ | refine CallC.now (c14) ?_); (refine sy1 ?_; try exact True.intro)) | refine an2 ?_ | fail)
  repeat' (first | refine w1g ?_ | refine w1l ?_ | refine w1q ?_ | refine w1b ?_ | refine w1p ?_ | ((first | refine w1r ?_ | refine w1k ?_ | refine w1e ?_ | refine CallC.now (c49) ?_ | refine CallC.now (c42) ?_); simp (maxSteps := 400000) (disch := omega) only [push_cast, ↓reduceIte, reduceCtorEq, Nat.reduceAdd, Nat.reduceSub, Nat.reduceEqDiff, Nat.reduceLeDiff, Nat.reduceLT, Nat.reduceBEq, Nat.reduceDiv, Nat.reduceMod, Nat.reducePow, Nat.reduceMul, Int.reduceToNat, Int.reduceLT, Int.reduceLE, hcJ, g0, l0]) | refine an2 ?_ | fail)
  exact W_ret ⟨[_], ⟨rfl, rfl⟩, rfl⟩
end Go.Proofs.Ytoiohkjomcbadaa

namespace Go.Proofs.Ytoiohkjomcbadaa
open Go Sy
set_option linter.unusedVariables false
end Go.Proofs.Ytoiohkjomcbadaa

namespace Go.Proofs.Ytoiohkjomcbadaa
open Go Sy
set_option maxRecDepth 100000
set_option maxHeartbeats 4000000
set_option linter.unusedVariables false
set_option linter.unusedSimpArgs false
def f2 (i : Nat) : Nat → Int := fun k => if k < i then noS else 0
end Go.Proofs.Ytoiohkjomcbadaa

namespace Go.Proofs.Ytoiohkjomcbadaa
open Go Sy
set_option maxRecDepth 100000
set_option maxHeartbeats 4000000
set_option linter.unusedVariables false
set_option linter.unusedSimpArgs false
structure RF (j : Jb) (L : List Af) (F : Nat → Int) : Prop where
  low : Low j.ts L F
  fit : ∀ i, i < j.ts.length → fitW (gt j.ts i).mi (F i) (gt j.ts i).ws
  rng : ∀ i, i < j.ts.length → 0 ≤ F i ∧ F i ≤ 1099511627776
end Go.Proofs.Ytoiohkjomcbadaa

namespace Go.Proofs.Ytoiohkjomcbadaa
set_option linter.unusedVariables false
section
variable {α : Type} (lt : α → α → Bool)
structure SW (lt : α → α → Bool) : Prop where
  asym : ∀ {a b}, lt a b = true → lt b a = false
  nt : ∀ {a b c}, lt b a = false → lt c b = false → lt c a = false
variable {lt}
theorem SW.trans (h : SW lt) {a b c : α} (h1 : lt a b = true) (h2 : lt b c = true) : lt a c = true := by
  cases q : lt a c with
  | true => rfl
  | false =>
    have := h.nt q (h.asym h1)
    rw [this] at h2; cases h2
end
end Go.Proofs.Ytoiohkjomcbadaa

namespace Go.Proofs.Ytoiohkjomcbadaa
set_option linter.unusedVariables false
section
variable {α : Type}
end
end Go.Proofs.Ytoiohkjomcbadaa

namespace Go.Proofs.Ytoiohkjomcbadaa
open Go Sy
set_option maxRecDepth 100000
set_option maxHeartbeats 4000000
set_option linter.unusedVariables false
set_option linter.unusedSimpArgs false
end Go.Proofs.Ytoiohkjomcbadaa

namespace Go.Proofs.Ytoiohkjomcbadaa
set_option linter.unusedVariables false
section
variable {α : Type} {lt : α → α → Bool}
end
end Go.Proofs.Ytoiohkjomcbadaa

namespace Go.Proofs.Ytoiohkjomcbadaa
open Go Sy
set_option maxRecDepth 100000
set_option maxHeartbeats 4000000
set_option linter.unusedVariables false
set_option linter.unusedSimpArgs false
end Go.Proofs.Ytoiohkjomcbadaa

namespace Go.Proofs.Ytoiohkjomcbadaa
open Go Sy
set_option maxRecDepth 100000
set_option maxHeartbeats 4000000
set_option linter.unusedVariables false
set_option linter.unusedSimpArgs false
end Go.Proofs.Ytoiohkjomcbadaa

namespace Go.Proofs.Ytoiohkjomcbadaa
open Go Sy
set_option maxRecDepth 100000
set_option maxHeartbeats 4000000
set_option linter.unusedVariables false
set_option linter.unusedSimpArgs false
end Go.Proofs.Ytoiohkjomcbadaa

namespace Go.Proofs.Ytoiohkjomcbadaa
open Go Sy
set_option maxRecDepth 100000
set_option maxHeartbeats 4000000
set_option linter.unusedVariables false
set_option linter.unusedSimpArgs false
end Go.Proofs.Ytoiohkjomcbadaa

namespace Go.Proofs.Ytoiohkjomcbadaa
open Go Sy
set_option maxRecDepth 100000
set_option maxHeartbeats 4000000
set_option linter.unusedVariables false
set_option linter.unusedSimpArgs false
theorem fn127 (x : Int) : Sy.Fn Try.prog 127 [iv x] (bv false) := by
  refine Fn_of_W mixed Xt127 rfl ?_
  repeat' (first | refine w1g ?_ | refine w1l ?_ | refine w1q ?_ | refine w1b ?_ | refine w1p ?_ | ((first | refine w1r ?_ | refine w1k ?_ | refine w1e ?_); simp (maxSteps := 400000) (disch := omega) only [push_cast, ↓reduceIte, reduceCtorEq, Nat.reduceAdd, Nat.reduceSub, Nat.reduceEqDiff, Nat.reduceLeDiff, Nat.reduceLT, Nat.reduceBEq, Nat.reduceDiv, Nat.reduceMod, Nat.reducePow, Nat.reduceMul, Int.reduceToNat, Int.reduceLT, Int.reduceLE, bne_self_eq_false]) | refine an2 ?_ | fail)
  exact W_ret ⟨[_], ⟨rfl, rfl⟩, rfl⟩
def cmI (x y : Int) : Int := if x < y then -1 else if y < x then 1 else 0
theorem fn100 (x y : Int) : Sy.Fn Try.prog 100 [iv x, iv y] (iv (cmI x y)) := by
  refine Fn_of_W mixed Xt100 rfl ?_
  repeat' (first | refine w1g ?_ | refine w1l ?_ | refine w1q ?_ | refine w1b ?_ | refine w1p ?_ | ((first | refine w1r ?_ | refine w1k ?_ | refine w1e ?_ | refine CallC.go _ (fun _ => ⟨trivial, fn127 _⟩) rfl ?_); (refine sy1 ?_; try exact True.intro)) | refine an2 ?_ | fail)
  refine W_cond (by rfl) (fun h => by cases h) (fun _ => ?_)
  repeat' (first | refine w1g ?_ | refine w1l ?_ | refine w1q ?_ | refine w1b ?_ | refine w1p ?_ | ((first | refine w1r ?_ | refine w1k ?_ | refine w1e ?_); (refine sy1 ?_; try exact True.intro)) | refine an2 ?_ | fail)
  refine W_cond (by rfl) (fun h => by cases h) (fun _ => ?_)
  repeat' (first | refine w1g ?_ | refine w1l ?_ | refine w1q ?_ | refine w1b ?_ | refine w1p ?_ | ((first | refine w1r ?_ | refine w1k ?_ | refine w1e ?_); (refine sy1 ?_; try exact True.intro)) | refine an2 ?_ | fail)
  refine W_condD (by rfl) (fun h1 => ?_) (fun h1 => ?_)
  · rw [show cmI x y = -1 by unfold cmI; rw [if_pos h1]]
    repeat' (first | refine w1g ?_ | refine w1l ?_ | refine w1q ?_ | refine w1b ?_ | refine w1p ?_ | ((first | refine w1r ?_ | refine w1k ?_ | refine w1e ?_); (refine sy1 ?_; try exact True.intro)) | refine an2 ?_ | fail)
    exact W_ret ⟨[_], ⟨rfl, rfl⟩, rfl⟩
  repeat' (first | refine w1g ?_ | refine w1l ?_ | refine w1q ?_ | refine w1b ?_ | refine w1p ?_ | ((first | refine w1r ?_ | refine w1k ?_ | refine w1e ?_); (refine sy1 ?_; try exact True.intro)) | refine an2 ?_ | fail)
  refine W_condD (by rfl) (fun h2 => ?_) (fun h2 => ?_)
  · rw [show cmI x y = 1 by unfold cmI; rw [if_neg h1, if_pos h2]]
    repeat' (first | refine w1g ?_ | refine w1l ?_ | refine w1q ?_ | refine w1b ?_ | refine w1p ?_ | ((first | refine w1r ?_ | refine w1k ?_ | refine w1e ?_); (refine sy1 ?_; try exact True.intro)) | refine an2 ?_ | fail)
    exact W_ret ⟨[_], ⟨rfl, rfl⟩, rfl⟩
  · rw [show cmI x y = 0 by unfold cmI; rw [if_neg h1, if_neg h2]]
    repeat' (first | refine w1g ?_ | refine w1l ?_ | refine w1q ?_ | refine w1b ?_ | refine w1p ?_ | ((first | refine w1r ?_ | refine w1k ?_ | refine w1e ?_); (refine sy1 ?_; try exact True.intro)) | refine an2 ?_ | fail)
    exact W_ret ⟨[_], ⟨rfl, rfl⟩, rfl⟩
theorem fn99 (x y : Int) : Sy.Fn Try.prog 99 [aI [x, y]] (iv (if x = 0 then y else x)) := by
  refine Fn_of_W mixed Xt99 rfl ?_
  repeat' (first | refine w1g ?_ | refine w1l ?_ | refine w1q ?_ | refine w1b ?_ | refine w1p ?_ | ((first | refine w1r ?_ | refine w1k ?_ | refine w1e ?_); (refine sy1 ?_; try exact True.intro)) | refine an2 ?_ | fail)
  refine W_loopU (fun i : Nat => [(8, iv i)]) (fun i => []) (fun i => i ≤ 2 ∧ (0 < i → x = 0) ∧ (1 < i → y = 0)) (fun i => 2 - i) 0 ⟨by omega, fun h => by omega, fun h => by omega⟩ (by rfl) (by rfl) (fun i hi => ?_)
  obtain ⟨hi, h0, h1⟩ := hi
  (refine sy1 ?_; try exact True.intro)
  repeat' (first | refine w1g ?_ | refine w1l ?_ | refine w1q ?_ | refine w1b ?_ | refine w1p ?_ | ((first | refine w1r ?_ | refine w1k ?_ | refine w1e ?_); (refine sy1 ?_; try exact True.intro)) | refine an2 ?_ | fail)
  refine W_condD (by rfl) (fun h5 => ?_) (fun h5 => ?_)
  · have key : ∀ z, [x, y].getD i 0 = z → (z ≠ 0 → (if x = 0 then y else x) = z) ∧ (z = 0 → (0 < i + 1 → x = 0) ∧ (1 < i + 1 → y = 0)) := fun z hz => by
      rcases i with _ | _ | i
      · have hz : x = z := hz
        subst hz
        exact ⟨fun q => by rw [if_neg q], fun q => ⟨fun _ => q, fun w => absurd w (by omega)⟩⟩
      · have hz : y = z := hz
        subst hz
        have hx := h0 (by omega)
        exact ⟨fun _ => by rw [if_pos hx], fun q => ⟨fun _ => hx, fun _ => q⟩⟩
      · omega
    obtain ⟨z, hz⟩ : ∃ z, [x, y].getD i 0 = z := ⟨_, rfl⟩
    obtain ⟨k1, k2⟩ := key z hz
    repeat' (first | refine w1g ?_ | refine w1l ?_ | refine w1q ?_ | refine w1b ?_ | refine w1p ?_ | ((first | refine w1r ?_ | refine w1k ?_ | refine w1e ?_); simp (maxSteps := 400000) (disch := omega) only [push_cast, ↓reduceIte, reduceCtorEq, Nat.reduceAdd, Nat.reduceSub, Nat.reduceEqDiff, Nat.reduceLeDiff, Nat.reduceLT, Nat.reduceBEq, Nat.reduceDiv, Nat.reduceMod, Nat.reducePow, Nat.reduceMul, Int.reduceToNat, Int.reduceLT, Int.reduceLE, hz]) | refine an2 ?_ | fail)
    by_cases q : z = 0
    · obtain ⟨k3, k4⟩ := k2 q
      rw [show (z != 0) = false by rw [q]; rfl]
      refine W_cond (by rfl) (fun h => by cases h) (fun _ => ?_)
      repeat' (first | refine w1g ?_ | refine w1l ?_ | refine w1q ?_ | refine w1b ?_ | refine w1p ?_ | ((first | refine w1r ?_ | refine w1k ?_ | refine w1e ?_); (refine sy1 ?_; try exact True.intro)) | refine an2 ?_ | fail)
      refine ⟨i + 1, ⟨by omega, k3, k4⟩, by omega, by rfl, ?_⟩
      (refine syE ?_; try exact True.intro)
    · rw [show (z != 0) = true from bne_iff_ne.2 q, k1 q]
      refine W_cond (by rfl) (fun _ => ?_) (fun h => by cases h)
      repeat' (first | refine w1g ?_ | refine w1l ?_ | refine w1q ?_ | refine w1b ?_ | refine w1p ?_ | ((first | refine w1r ?_ | refine w1k ?_ | refine w1e ?_); (refine sy1 ?_; try exact True.intro)) | refine an2 ?_ | fail)
      exact W_ret ⟨[_], ⟨rfl, rfl⟩, rfl⟩
  · rw [if_pos (h0 (by omega)), h1 (by omega)]
    repeat' (first | refine w1g ?_ | refine w1l ?_ | refine w1q ?_ | refine w1b ?_ | refine w1p ?_ | ((first | refine w1r ?_ | refine w1k ?_ | refine w1e ?_); (refine sy1 ?_; try exact True.intro)) | refine an2 ?_ | fail)
    exact W_ret ⟨[_], ⟨rfl, rfl⟩, rfl⟩
theorem cm_lt (x y : Int) : cmI x y < 0 ↔ x < y := by unfold cmI; repeat' split <;> omega
theorem cm_eq (x y : Int) : cmI x y = 0 ↔ x = y := by unfold cmI; repeat' split <;> omega
end Go.Proofs.Ytoiohkjomcbadaa

namespace Go.Proofs.Ytoiohkjomcbadaa
open Go Sy
set_option maxRecDepth 100000
set_option maxHeartbeats 4000000
set_option linter.unusedVariables false
set_option linter.unusedSimpArgs false
end Go.Proofs.Ytoiohkjomcbadaa

namespace Go.Proofs.Ytoiohkjomcbadaa
open Go Sy
set_option maxRecDepth 100000
set_option maxHeartbeats 4000000
set_option linter.unusedVariables false
set_option linter.unusedSimpArgs false
def cCr (ls : List Lg) (a b st : Int) : List AV := [aL ls, iv a, iv b, iv st]
def hvB (ls : List Lg) : Bool := (decide (20 < ls.length) || (decide (7 < ls.length) && decide (ls.length ≤ 12))) || ls.any fun x => decide (40 < x.ws.length)
theorem fn32 (ls : List Lg) (hl : ls.length ≤ 140737488355328) : Sy.Fn Try.prog 32 [aL ls] (bv (hvB ls)) := by
  refine Fn_of_W mixed Xt32 rfl ?_
  have hB : hvB ls = ((decide (20 < ls.length) || (decide (7 < ls.length) && decide (ls.length ≤ 12))) || ls.any fun x => decide (40 < x.ws.length)) := rfl
  have hyes := fun i hi => any_yes (l := ls) (q := fun x => decide (40 < x.ws.length)) dLg (i := i) hi
  have hno := any_no (l := ls) (q := fun x => decide (40 < x.ws.length)) dLg
  generalize (ls.any fun x => decide (40 < x.ws.length)) = A at *
  generalize hvB ls = B at *
  repeat' (first | refine w1g ?_ | refine w1l ?_ | refine w1q ?_ | refine w1b ?_ | refine w1p ?_ | ((first | refine w1r ?_ | refine w1k ?_ | refine w1e ?_); (refine sy1 ?_; try exact True.intro)) | refine an2 ?_ | fail)
  by_cases h0 : 20 < ls.length ∨ (7 < ls.length ∧ ls.length ≤ 12)
  · have : B = true := by rw [hB]; simp only [Bool.or_eq_true, Bool.and_eq_true, decide_eq_true_eq]; exact .inl h0
    rw [this]
    refine W_cond (by rfl) (fun _ => ?_) (fun hb => ?_)
    · repeat' (first | refine w1g ?_ | refine w1l ?_ | refine w1q ?_ | refine w1b ?_ | refine w1p ?_ | ((first | refine w1r ?_ | refine w1k ?_ | refine w1e ?_); (refine sy1 ?_; try exact True.intro)) | refine an2 ?_ | fail)
      exact W_ret ⟨[_], ⟨rfl, rfl⟩, rfl⟩
    · simp only [Bool.or_eq_false_iff, Bool.and_eq_false_iff, decide_eq_false_iff_not] at hb
      omega
  have hA : B = A := by rw [hB, show (decide (20 < ls.length) || (decide (7 < ls.length) && decide (ls.length ≤ 12))) = false by rw [← Bool.not_eq_true, Bool.or_eq_true, Bool.and_eq_true, decide_eq_true_eq, decide_eq_true_eq, decide_eq_true_eq]; exact h0]; rfl
  rw [hA]
  refine W_cond (by rfl) (fun hb => ?_) (fun _ => ?_)
  · simp only [Bool.or_eq_true, Bool.and_eq_true, decide_eq_true_eq] at hb
    omega
  repeat' (first | refine w1g ?_ | refine w1l ?_ | refine w1q ?_ | refine w1b ?_ | refine w1p ?_ | ((first | refine w1r ?_ | refine w1k ?_ | refine w1e ?_); (refine sy1 ?_; try exact True.intro)) | refine an2 ?_ | fail)
  refine W_loopU (fun i : Nat => [(3, iv i)]) (fun i => []) (fun i => i ≤ ls.length ∧ ∀ k, k < i → (fun x : Lg => decide (40 < x.ws.length)) (ls.getD k dLg) = false) (fun i => ls.length - i) 0 ⟨by omega, fun k hk => by omega⟩ (by rfl) (by rfl) (fun i hi => ?_)
  obtain ⟨hi, hp⟩ := hi
  (refine sy1 ?_; try exact True.intro)
  repeat' (first | refine w1g ?_ | refine w1l ?_ | refine w1q ?_ | refine w1b ?_ | refine w1p ?_ | ((first | refine w1r ?_ | refine w1k ?_ | refine w1e ?_); (refine sy1 ?_; try exact True.intro)) | refine an2 ?_ | fail)
  refine W_condD (by rfl) (fun h5 => ?_) (fun h5 => ?_)
  · have hil : i < ls.length := by omega
    have hyes := hyes i hil
    have hup := @up_all _ i hp
    obtain ⟨x, hx⟩ : ∃ x, ls.getD i dLg = x := ⟨_, rfl⟩
    rw [hx] at hyes hup
    repeat' (first | refine w1g ?_ | refine w1l ?_ | refine w1q ?_ | refine w1b ?_ | refine w1p ?_ | ((first | refine w1r ?_ | refine w1k ?_ | refine w1e ?_); simp (maxSteps := 400000) (disch := omega) only [push_cast, ↓reduceIte, reduceCtorEq, Nat.reduceAdd, Nat.reduceSub, Nat.reduceEqDiff, Nat.reduceLeDiff, Nat.reduceLT, Nat.reduceBEq, Nat.reduceDiv, Nat.reduceMod, Nat.reducePow, Nat.reduceMul, Int.reduceToNat, Int.reduceLT, Int.reduceLE, hx]) | refine an2 ?_ | fail)
    refine W_condD (by rfl) (fun h6 => ?_) (fun h6 => ?_)
    · rw [hyes (decide_eq_true (by omega))]
      repeat' (first | refine w1g ?_ | refine w1l ?_ | refine w1q ?_ | refine w1b ?_ | refine w1p ?_ | ((first | refine w1r ?_ | refine w1k ?_ | refine w1e ?_); (refine sy1 ?_; try exact True.intro)) | refine an2 ?_ | fail)
      exact W_ret ⟨[_], ⟨rfl, rfl⟩, rfl⟩
    · repeat' (first | refine w1g ?_ | refine w1l ?_ | refine w1q ?_ | refine w1b ?_ | refine w1p ?_ | ((first | refine w1r ?_ | refine w1k ?_ | refine w1e ?_); (refine sy1 ?_; try exact True.intro)) | refine an2 ?_ | fail)
      refine ⟨i + 1, ⟨by omega, hup (decide_eq_false (by omega))⟩, by omega, by rfl, ?_⟩
      (refine syE ?_; try exact True.intro)
  · rw [hno fun k hk => hp k (by omega)]
    repeat' (first | refine w1g ?_ | refine w1l ?_ | refine w1q ?_ | refine w1b ?_ | refine w1p ?_ | ((first | refine w1r ?_ | refine w1k ?_ | refine w1e ?_); (refine sy1 ?_; try exact True.intro)) | refine an2 ?_ | fail)
    exact W_ret ⟨[_], ⟨rfl, rfl⟩, rfl⟩
def wlB (x : Lg) : Bool := decide (32 < x.ws.length)
def lgB (a : Int) (x : Lg) : Bool := !inR x.mi 1 a || !wnB x.ws
def crE (ls : List Lg) (a b st : Int) : Int := if (decide (12 < ls.length) || ls.any wlB) = true then 6 else if (!inR a 1 10080 || !inR b 1 10080 || ls.any (lgB a)) = true then 2 else if inR st 0 1099511627776 = true then 0 else 3
theorem fn116 (x : Lg) : Sy.Fn Try.prog 116 [.agg (cL x)] (bv (wlB x)) := by
  refine Fn_of_W mixed Xt116 rfl ?_
  repeat' (first | refine w1g ?_ | refine w1l ?_ | refine w1q ?_ | refine w1b ?_ | refine w1p ?_ | ((first | refine w1r ?_ | refine w1k ?_ | refine w1e ?_); (refine sy1 ?_; try exact True.intro)) | refine an2 ?_ | fail)
  exact W_ret ⟨[_], ⟨rfl, rfl⟩, by rw [show wlB x = decide ((32 : Int) < (x.ws.length : Int)) from decide_eq_decide.2 (by omega)]; rfl⟩
theorem fn117 (ls : List Lg) (a b st : Int) (x : Lg) (hx : x.ws.length ≤ 140737488355328) : Sy.Fn Try.prog 117 [.agg (cL x), .fp (cCr ls a b st) 0] (bv (lgB a x)) := by
  refine Fn_of_W mixed Xt117 rfl ?_
  have c87 := fn87 x.mi 1 a
  have c88 := fn88 x.ws hx
  have hc : cCr ls a b st = [aL ls, iv a, iv b, iv st] := rfl
  have hB : lgB a x = (!inR x.mi 1 a || !wnB x.ws) := rfl
  generalize lgB a x = B at *
  generalize inR x.mi 1 a = q1 at *
  generalize wnB x.ws = q2 at *
  repeat' (first | refine w1g ?_ | refine w1l ?_ | refine w1q ?_ | refine w1b ?_ | refine w1p ?_ | ((first | refine w1r ?_ | refine w1k ?_ | refine w1e ?_ | refine CallC.now (c87) ?_ | refine CallC.now (c88) ?_); simp (maxSteps := 400000) (disch := omega) only [push_cast, ↓reduceIte, reduceCtorEq, Nat.reduceAdd, Nat.reduceSub, Nat.reduceEqDiff, Nat.reduceLeDiff, Nat.reduceLT, Nat.reduceBEq, Nat.reduceDiv, Nat.reduceMod, Nat.reducePow, Nat.reduceMul, Int.reduceToNat, Int.reduceLT, Int.reduceLE, hc]) | refine an2 ?_ | fail)
  rw [hB]
  exact W_ret ⟨[_], ⟨rfl, rfl⟩, rfl⟩
theorem fn74 (ls : List Lg) (a b st : Int) (hl : ls.length ≤ 140737488355328) (hw : ∀ x ∈ ls, x.ws.length ≤ 140737488355328) : Sy.Fn Try.prog 74 [.agg (cCr ls a b st)] (iv (crE ls a b st)) := by
  refine Fn_of_W mixed Xt74 rfl ?_
  have c116 := fn115 ls hl 116 [] [] wlB fun x _ => fn116 x
  have c117 := fn115 ls hl 117 [] [.fp (cCr ls a b st) 0] (lgB a) fun x hx => fn117 ls a b st x (hw x hx)
  have d1 := fn87 a 1 10080
  have d2 := fn87 b 1 10080
  have d3 := fn87 st 0 1099511627776
  have hc : cCr ls a b st = [aL ls, iv a, iv b, iv st] := rfl
  have hE : crE ls a b st = if (decide (12 < ls.length) || ls.any wlB) = true then 6 else if (!inR a 1 10080 || !inR b 1 10080 || ls.any (lgB a)) = true then 2 else if inR st 0 1099511627776 = true then 0 else 3 := rfl
  rw [hE]
  have hd : decide (12 < ls.length) = decide ((12 : Int) < (ls.length : Int)) := decide_eq_decide.2 (by omega)
  rw [hd]
  generalize ls.any wlB = x1 at *
  generalize ls.any (lgB a) = x2 at *
  generalize inR a 1 10080 = x3 at *
  generalize inR b 1 10080 = x4 at *
  generalize inR st 0 1099511627776 = x5 at *
  rw [hc] at c117 ⊢
  repeat' (first | refine w1g ?_ | refine w1l ?_ | refine w1q ?_ | refine w1b ?_ | refine w1p ?_ | ((first | refine w1r ?_ | refine w1k ?_ | refine w1e ?_ | refine CallC.now (c116) ?_); (refine sy1 ?_; try exact True.intro)) | refine an2 ?_ | fail)
  cases hq : decide ((12 : Int) < (ls.length : Int)) || x1
  rotate_left
  · rw [if_pos rfl]
    refine W_cond (by rfl) (fun _ => ?_) (fun h => by cases h)
    repeat' (first | refine w1g ?_ | refine w1l ?_ | refine w1q ?_ | refine w1b ?_ | refine w1p ?_ | ((first | refine w1r ?_ | refine w1k ?_ | refine w1e ?_); (refine sy1 ?_; try exact True.intro)) | refine an2 ?_ | fail)
    exact W_ret ⟨[_], ⟨rfl, rfl⟩, rfl⟩
  rw [if_neg (by decide)]
  refine W_cond (by rfl) (fun h => by cases h) (fun _ => ?_)
  repeat' (first | refine w1g ?_ | refine w1l ?_ | refine w1q ?_ | refine w1b ?_ | refine w1p ?_ | ((first | refine w1r ?_ | refine w1k ?_ | refine w1e ?_ | refine CallC.now (d1) ?_ | refine CallC.now (d2) ?_ | refine CallC.now (c117) ?_); (refine sy1 ?_; try exact True.intro)) | refine an2 ?_ | fail)
  cases hq2 : !x3 || !x4 || x2
  rotate_left
  · rw [if_pos rfl]
    refine W_cond (by rfl) (fun _ => ?_) (fun h => by cases h)
    repeat' (first | refine w1g ?_ | refine w1l ?_ | refine w1q ?_ | refine w1b ?_ | refine w1p ?_ | ((first | refine w1r ?_ | refine w1k ?_ | refine w1e ?_); (refine sy1 ?_; try exact True.intro)) | refine an2 ?_ | fail)
    exact W_ret ⟨[_], ⟨rfl, rfl⟩, rfl⟩
  rw [if_neg (by decide)]
  refine W_cond (by rfl) (fun h => by cases h) (fun _ => ?_)
  repeat' (first | refine w1g ?_ | refine w1l ?_ | refine w1q ?_ | refine w1b ?_ | refine w1p ?_ | ((first | refine w1r ?_ | refine w1k ?_ | refine w1e ?_ | refine CallC.now (d3) ?_); (refine sy1 ?_; try exact True.intro)) | refine an2 ?_ | fail)
  cases x5
  · refine W_cond (by rfl) (fun _ => ?_) (fun h => by cases h)
    repeat' (first | refine w1g ?_ | refine w1l ?_ | refine w1q ?_ | refine w1b ?_ | refine w1p ?_ | ((first | refine w1r ?_ | refine w1k ?_ | refine w1e ?_); (refine sy1 ?_; try exact True.intro)) | refine an2 ?_ | fail)
    exact W_ret ⟨[_], ⟨rfl, rfl⟩, rfl⟩
  · refine W_cond (by rfl) (fun h => by cases h) (fun _ => ?_)
    repeat' (first | refine w1g ?_ | refine w1l ?_ | refine w1q ?_ | refine w1b ?_ | refine w1p ?_ | ((first | refine w1r ?_ | refine w1k ?_ | refine w1e ?_); (refine sy1 ?_; try exact True.intro)) | refine an2 ?_ | fail)
    exact W_ret ⟨[_], ⟨rfl, rfl⟩, rfl⟩
end Go.Proofs.Ytoiohkjomcbadaa

namespace Go.Proofs.Ytoiohkjomcbadaa
open Go Sy
set_option maxRecDepth 100000
set_option maxHeartbeats 4000000
set_option linter.unusedVariables false
set_option linter.unusedSimpArgs false
abbrev gl (ls : List Lg) (i : Nat) : Lg := ls.getD i dLg
structure OkC (ls : List Lg) (a b st : Int) : Prop where
  n : ls.length ≤ 12
  w : ∀ i, i < ls.length → (gl ls i).ws.length ≤ 32
  ra : 1 ≤ a ∧ a ≤ 10080
  rb : 1 ≤ b ∧ b ≤ 10080
  m : ∀ i, i < ls.length → 1 ≤ (gl ls i).mi ∧ (gl ls i).mi ≤ a
  k : ∀ i, i < ls.length → WnOk 0 (gl ls i).ws
  s : 0 ≤ st ∧ st ≤ 1099511627776
theorem crE_ok {ls : List Lg} {a b st : Int} (h : crE ls a b st = 0) : OkC ls a b st := by
  unfold crE at h
  split at h
  · cases h
  rename_i h1
  split at h
  · cases h
  rename_i h2
  split at h
  rotate_left
  · cases h
  rename_i h3
  simp only [Bool.or_eq_true, decide_eq_true_eq, not_or, Bool.not_eq_true', Bool.not_eq_false] at h1 h2
  obtain ⟨h1, h4⟩ := h1
  obtain ⟨⟨h5, h6⟩, h7⟩ := h2
  have q1 : ∀ i, i < ls.length → ¬ wlB (gl ls i) = true := fun i hi q => h4 (List.any_eq_true.2 ⟨_, getD_mem' dLg ls i hi, q⟩)
  have q2 : ∀ i, i < ls.length → ¬ lgB a (gl ls i) = true := fun i hi q => h7 (List.any_eq_true.2 ⟨_, getD_mem' dLg ls i hi, q⟩)
  have q3 : ∀ i, i < ls.length → inR (gl ls i).mi 1 a = true ∧ wnB (gl ls i).ws = true := fun i hi => by
    have := q2 i hi
    unfold lgB at this
    cases x : inR (gl ls i).mi 1 a <;> cases y : wnB (gl ls i).ws <;> simp_all
  refine ⟨by omega, fun i hi => ?_, inR_iff.1 h5, inR_iff.1 h6, fun i hi => inR_iff.1 (q3 i hi).1, fun i hi => wnB_iff.1 (q3 i hi).2, inR_iff.1 h3⟩
  have := q1 i hi
  unfold wlB at this
  rw [decide_eq_true_eq] at this
  omega
def peC (ls : List Lg) (st : Int) (l : List Int) (i : Nat) : Int := if i = 0 then st else gi l (i - 1) + (gl ls (i - 1)).mi
def b1C (ls : List Lg) (st : Int) (l : List Int) (i : Nat) : Bool := decide (gi l i < peC ls st l i) || !fitB (gl ls i).mi (gi l i) (gl ls i).ws
def dvC (ls : List Lg) (b : Int) (l : List Int) : Nat → Int
  | 0 => 0
  | i + 1 => (if 0 < i ∧ b ≤ gi l i - peC ls 0 l i then 0 else dvC ls b l i) + (gl ls i).mi
def b2C (ls : List Lg) (a b : Int) (l : List Int) (i : Nat) : Bool := decide (a < dvC ls b l (i + 1))
def ckE (ls : List Lg) (a b st : Int) (l : List Int) : Int := if crE ls a b st = 0 then (if l.length = ls.length then (if 0 ≤ fstI (b1C ls st l) ls.length then 21 else if 0 ≤ fstI (b2C ls a b l) ls.length then 12 else 0) else 17) else crE ls a b st
def ckI (ls : List Lg) (a b st : Int) (l : List Int) : Int := if crE ls a b st = 0 then (if l.length = ls.length then (if 0 ≤ fstI (b1C ls st l) ls.length then fstI (b1C ls st l) ls.length else if 0 ≤ fstI (b2C ls a b l) ls.length then fstI (b2C ls a b l) ls.length else 0) else 0) else 0
theorem dvC_rng {ls : List Lg} {a b st : Int} (h : OkC ls a b st) (l : List Int) : ∀ i, i ≤ ls.length → 0 ≤ dvC ls b l i ∧ dvC ls b l i ≤ 10080 * (i : Int)
  | 0, _ => ⟨Int.le_refl 0, Int.le_refl 0⟩
  | i + 1, hi => by
    have ih := dvC_rng h l i (by omega)
    have := h.m i (by omega)
    have := h.ra
    show 0 ≤ (if 0 < i ∧ b ≤ gi l i - peC ls 0 l i then 0 else dvC ls b l i) + (gl ls i).mi ∧ _ + (gl ls i).mi ≤ _
    push_cast
    split <;> omega
theorem fit_rng {mi x : Int} {ws : List Wn} (hw : WnOk 0 ws) (hm : 0 ≤ mi) (h : fitB mi x ws = true) : 0 ≤ x ∧ x ≤ 1099511627776 := by
  obtain ⟨w, hw1, h1, h2⟩ := fitB_iff.1 h
  have := hw.all w hw1
  omega
theorem fn33 (ls : List Lg) (a b st : Int) (l : List Int) (hl : ls.length ≤ 140737488355328) (hw : ∀ x ∈ ls, x.ws.length ≤ 140737488355328) (hll : l.length ≤ 140737488355328) : Sy.Fn Try.prog 33 [aL ls, iv a, iv b, iv st, aI l] (.tup [iv (ckI ls a b st l), iv (ckE ls a b st l)]) := by
  refine Fn_of_W mixed Xt33 rfl ?_
  have c74 := fn74 ls a b st hl hw
  have hcC : cCr ls a b st = [aL ls, iv a, iv b, iv st] := rfl
  rw [hcC] at c74
  have eE : ckE ls a b st l = if crE ls a b st = 0 then (if l.length = ls.length then (if 0 ≤ fstI (b1C ls st l) ls.length then 21 else if 0 ≤ fstI (b2C ls a b l) ls.length then 12 else 0) else 17) else crE ls a b st := rfl
  have eI : ckI ls a b st l = if crE ls a b st = 0 then (if l.length = ls.length then (if 0 ≤ fstI (b1C ls st l) ls.length then fstI (b1C ls st l) ls.length else if 0 ≤ fstI (b2C ls a b l) ls.length then fstI (b2C ls a b l) ls.length else 0) else 0) else 0 := rfl
  rw [eE, eI]
  by_cases h0 : crE ls a b st = 0
  rotate_left
  · rw [if_neg h0, if_neg h0]
    generalize crE ls a b st = E at *
    repeat' (first | refine w1g ?_ | refine w1l ?_ | refine w1q ?_ | refine w1b ?_ | refine w1p ?_ | ((first | refine w1r ?_ | refine w1k ?_ | refine w1e ?_ | refine CallC.now (c74) ?_); (refine sy1 ?_; try exact True.intro)) | refine an2 ?_ | fail)
    refine W_cond (by rfl) (fun _ => ?_) (fun h => absurd (by simpa using h) h0)
    repeat' (first | refine w1g ?_ | refine w1l ?_ | refine w1q ?_ | refine w1b ?_ | refine w1p ?_ | ((first | refine w1r ?_ | refine w1k ?_ | refine w1e ?_); (refine sy1 ?_; try exact True.intro)) | refine an2 ?_ | fail)
    exact W_ret ⟨[_, _], ⟨rfl, rfl, rfl⟩, rfl⟩
  rw [if_pos h0, if_pos h0]
  have hok := crE_ok h0
  rw [h0] at c74
  repeat' (first | refine w1g ?_ | refine w1l ?_ | refine w1q ?_ | refine w1b ?_ | refine w1p ?_ | ((first | refine w1r ?_ | refine w1k ?_ | refine w1e ?_ | refine CallC.now (c74) ?_); (refine sy1 ?_; try exact True.intro)) | refine an2 ?_ | fail)
  refine W_cond (by rfl) (fun h => by cases h) (fun _ => ?_)
  repeat' (first | refine w1g ?_ | refine w1l ?_ | refine w1q ?_ | refine w1b ?_ | refine w1p ?_ | ((first | refine w1r ?_ | refine w1k ?_ | refine w1e ?_); (refine sy1 ?_; try exact True.intro)) | refine an2 ?_ | fail)
  by_cases h2 : l.length = ls.length
  rotate_left
  · rw [if_neg h2, if_neg h2, show ((l.length : Int) != (ls.length : Int)) = true from bne_iff_ne.2 (by omega)]
    refine W_cond (by rfl) (fun _ => ?_) (fun h => by cases h)
    repeat' (first | refine w1g ?_ | refine w1l ?_ | refine w1q ?_ | refine w1b ?_ | refine w1p ?_ | ((first | refine w1r ?_ | refine w1k ?_ | refine w1e ?_); (refine sy1 ?_; try exact True.intro)) | refine an2 ?_ | fail)
    exact W_ret ⟨[_, _], ⟨rfl, rfl, rfl⟩, rfl⟩
  rw [if_pos h2, if_pos h2, show ((l.length : Int) != (ls.length : Int)) = false by rw [h2, bne_self_eq_false]]
  refine W_cond (by rfl) (fun h => by cases h) (fun _ => ?_)
  have hn := hok.n
  have hdr := fun i hi => dvC_rng hok l i hi
  have hat1 := fun i hi hj h => fstI_at (p := b1C ls st l) (n := ls.length) (i := i) hi hj h
  have hno1 := fun h => fstI_none (p := b1C ls st l) (n := ls.length) h
  have hat2 := fun i hi hj h => fstI_at (p := b2C ls a b l) (n := ls.length) (i := i) hi hj h
  have hno2 := fun h => fstI_none (p := b2C ls a b l) (n := ls.length) h
  generalize fstI (b1C ls st l) ls.length = f1 at *
  generalize fstI (b2C ls a b l) ls.length = f2 at *
  repeat' (first | refine w1g ?_ | refine w1l ?_ | refine w1q ?_ | refine w1b ?_ | refine w1p ?_ | ((first | refine w1r ?_ | refine w1k ?_ | refine w1e ?_); (refine sy1 ?_; try exact True.intro)) | refine an2 ?_ | fail)
  refine W_loopU (fun i : Nat => [(14, iv (peC ls st l i)), (38, iv i)]) (fun i => []) (fun i => i ≤ ls.length ∧ ∀ k, k < i → b1C ls st l k = false) (fun i => ls.length - i) 0 ⟨by omega, fun k hk => by omega⟩ (by rfl) (by rfl) (fun i hi => ?_)
  obtain ⟨hi, hp⟩ := hi
  (refine sy1 ?_; try exact True.intro)
  repeat' (first | refine w1g ?_ | refine w1l ?_ | refine w1q ?_ | refine w1b ?_ | refine w1p ?_ | ((first | refine w1r ?_ | refine w1k ?_ | refine w1e ?_); (refine sy1 ?_; try exact True.intro)) | refine an2 ?_ | fail)
  refine W_condD (by rfl) (fun h5 => ?_) (fun h5 => ?_)
  · have hil : i < ls.length := by omega
    have hat := hat1 i hil hp
    have hup := @up_all _ i hp
    have hm := hok.m i hil
    have ha := hok.ra
    have hk := hok.k i hil
    have hw2 := hok.w i hil
    have hb1 : b1C ls st l i = (decide (gi l i < peC ls st l i) || !fitB (gl ls i).mi (gi l i) (gl ls i).ws) := rfl
    have hgl : ls.getD i dLg = gl ls i := rfl
    have hgi : l.getD i 0 = gi l i := rfl
    have c75 := fn75 (gl ls i).ws (gl ls i).mi (gi l i) (by omega) hk ⟨by omega, by omega⟩
    have hfr := fun q => fit_rng (x := gi l i) hk (show 0 ≤ (gl ls i).mi by omega) q
    have hps : peC ls st l (i + 1) = gi l i + (gl ls i).mi := by unfold peC; rw [if_neg (by omega), Nat.add_sub_cancel]
    generalize gl ls i = x at *
    generalize gi l i = y at *
    generalize b1C ls st l i = B at *
    generalize fitB x.mi y x.ws = F at *
    repeat' (first | refine w1g ?_ | refine w1l ?_ | refine w1q ?_ | refine w1b ?_ | refine w1p ?_ | ((first | refine w1r ?_ | refine w1k ?_ | refine w1e ?_ | refine CallC.now (c75) ?_); simp (maxSteps := 400000) (disch := omega) only [push_cast, ↓reduceIte, reduceCtorEq, Nat.reduceAdd, Nat.reduceSub, Nat.reduceEqDiff, Nat.reduceLeDiff, Nat.reduceLT, Nat.reduceBEq, Nat.reduceDiv, Nat.reduceMod, Nat.reducePow, Nat.reduceMul, Int.reduceToNat, Int.reduceLT, Int.reduceLE, hgl, hgi]) | refine an2 ?_ | fail)
    rw [← hb1]
    cases B
    · refine W_cond (by rfl) (fun h => by cases h) (fun _ => ?_)
      have hF : F = true := by
        cases F
        · rw [Bool.not_false, Bool.or_true] at hb1; cases hb1
        · rfl
      have hfr := hfr hF
      repeat' (first | refine w1g ?_ | refine w1l ?_ | refine w1q ?_ | refine w1b ?_ | refine w1p ?_ | ((first | refine w1r ?_ | refine w1k ?_ | refine w1e ?_); simp (maxSteps := 400000) (disch := omega) only [push_cast, ↓reduceIte, reduceCtorEq, Nat.reduceAdd, Nat.reduceSub, Nat.reduceEqDiff, Nat.reduceLeDiff, Nat.reduceLT, Nat.reduceBEq, Nat.reduceDiv, Nat.reduceMod, Nat.reducePow, Nat.reduceMul, Int.reduceToNat, Int.reduceLT, Int.reduceLE, hgl, hgi]) | refine an2 ?_ | fail)
      refine ⟨i + 1, ⟨by omega, hup rfl⟩, by omega, by rfl, ?_⟩
      rw [hps]
      (refine syE ?_; try exact True.intro)
    · have hf := hat rfl
      rw [if_pos (show 0 ≤ f1 by omega), if_pos (show 0 ≤ f1 by omega), hf]
      refine W_cond (by rfl) (fun _ => ?_) (fun h => by cases h)
      repeat' (first | refine w1g ?_ | refine w1l ?_ | refine w1q ?_ | refine w1b ?_ | refine w1p ?_ | ((first | refine w1r ?_ | refine w1k ?_ | refine w1e ?_); (refine sy1 ?_; try exact True.intro)) | refine an2 ?_ | fail)
      exact W_ret ⟨[_, _], ⟨rfl, rfl, rfl⟩, rfl⟩
  obtain rfl : i = ls.length := by omega
  have hf1 := hno1 fun k hk => hp k (by omega)
  rw [if_neg (show ¬ 0 ≤ f1 by omega), if_neg (show ¬ 0 ≤ f1 by omega)]
  have hlr : ∀ i, i < ls.length → 0 ≤ gi l i ∧ gi l i ≤ 1099511627776 := fun i hi => by
    have h1 := hp i hi
    unfold b1C at h1
    rw [Bool.or_eq_false_iff] at h1
    have hm := hok.m i hi
    exact fit_rng (mi := (gl ls i).mi) (hok.k i hi) (by omega) (by simpa using h1.2)
  clear hat1 hno1 hf1 hp
  repeat' (first | refine w1g ?_ | refine w1l ?_ | refine w1q ?_ | refine w1b ?_ | refine w1p ?_ | ((first | refine w1r ?_ | refine w1k ?_ | refine w1e ?_); (refine sy1 ?_; try exact True.intro)) | refine an2 ?_ | fail)
  refine W_loopU (fun i : Nat => [(14, iv (peC ls 0 l i)), (17, iv (dvC ls b l i)), (72, iv i)]) (fun i => []) (fun i => i ≤ ls.length ∧ ∀ k, k < i → b2C ls a b l k = false) (fun i => ls.length - i) 0 ⟨by omega, fun k hk => by omega⟩ (by rfl) (by rfl) (fun i hi => ?_)
  obtain ⟨hi, hp⟩ := hi
  (refine sy1 ?_; try exact True.intro)
  repeat' (first | refine w1g ?_ | refine w1l ?_ | refine w1q ?_ | refine w1b ?_ | refine w1p ?_ | ((first | refine w1r ?_ | refine w1k ?_ | refine w1e ?_); (refine sy1 ?_; try exact True.intro)) | refine an2 ?_ | fail)
  refine W_condD (by rfl) (fun h6 => ?_) (fun h6 => ?_)
  · have hil : i < ls.length := by omega
    have hat := hat2 i hil hp
    have hup := @up_all _ i hp
    have hm := hok.m i hil
    have ha := hok.ra
    have hb := hok.rb
    have hdi := hdr i hi
    have hyi := hlr i hil
    have hpv : 0 < i → (1 ≤ (gl ls (i - 1)).mi ∧ (gl ls (i - 1)).mi ≤ a) ∧ 0 ≤ gi l (i - 1) ∧ gi l (i - 1) ≤ 1099511627776 := fun q => ⟨hok.m (i - 1) (by omega), hlr (i - 1) (by omega)⟩
    have hb2 : b2C ls a b l i = decide (a < dvC ls b l (i + 1)) := rfl
    have hds : dvC ls b l (i + 1) = (if 0 < i ∧ b ≤ gi l i - peC ls 0 l i then 0 else dvC ls b l i) + (gl ls i).mi := rfl
    have hpe : 0 < i → peC ls 0 l i = gi l (i - 1) + (gl ls (i - 1)).mi := fun q => by unfold peC; rw [if_neg (by omega)]
    have hpn : peC ls 0 l (i + 1) = gi l i + (gl ls i).mi := by unfold peC; rw [if_neg (by omega), Nat.add_sub_cancel]
    have hgl : ls.getD i dLg = gl ls i := rfl
    have hgi : l.getD i 0 = gi l i := rfl
    have hgl2 : ls.getD (i - 1) dLg = gl ls (i - 1) := rfl
    have hgi2 : l.getD (i - 1) 0 = gi l (i - 1) := rfl
    have hit : ((i : Int) - 1).toNat = i - 1 := by omega
    have hz : i = 0 → (ls.getD (i - 1) dLg).mi = (gl ls (i - 1)).mi := fun _ => rfl
    generalize peC ls 0 l i = pe at *
    generalize gl ls i = x at *
    generalize gi l i = y at *
    generalize gl ls (i - 1) = x' at *
    generalize gi l (i - 1) = y' at *
    generalize b2C ls a b l i = B at *
    obtain ⟨dv', hdn⟩ : ∃ d, dvC ls b l (i + 1) = d := ⟨_, rfl⟩
    rw [hdn] at hb2 hds
    generalize dvC ls b l i = dv at *
    repeat' (first | refine w1g ?_ | refine w1l ?_ | refine w1q ?_ | refine w1b ?_ | refine w1p ?_ | ((first | refine w1r ?_ | refine w1k ?_ | refine w1e ?_); simp (maxSteps := 400000) (disch := omega) only [push_cast, ↓reduceIte, reduceCtorEq, Nat.reduceAdd, Nat.reduceSub, Nat.reduceEqDiff, Nat.reduceLeDiff, Nat.reduceLT, Nat.reduceBEq, Nat.reduceDiv, Nat.reduceMod, Nat.reducePow, Nat.reduceMul, Int.reduceToNat, Int.reduceLT, Int.reduceLE, hgl, hgi, hit, hgl2, hgi2]) | refine an2 ?_ | fail)
    have hcnd : (decide ((0 : Int) < (i : Int)) && decide (b ≤ IntKind.i64.wrap (y - pe))) = decide (0 < i ∧ b ≤ y - pe) := by
      by_cases q : 0 < i
      · obtain ⟨v1, v2⟩ := hpv q
        have := hpe q
        rw [wrap64 (x := y - pe) ⟨by omega, by omega⟩, decide_eq_true (show (0 : Int) < (i : Int) by omega), Bool.true_and]
        exact decide_eq_decide.2 (by omega)
      · rw [decide_eq_false (show ¬ (0 : Int) < (i : Int) by omega), Bool.false_and]
        exact (decide_eq_false (fun z => q z.1)).symm
    rw [hcnd]
    by_cases hq : 0 < i ∧ b ≤ y - pe
    · rw [if_pos hq] at hds
      rw [decide_eq_true hq]
      refine W_cond (by rfl) (fun _ => ?_) (fun h => by cases h)
      repeat' (first | refine w1g ?_ | refine w1l ?_ | refine w1q ?_ | refine w1b ?_ | refine w1p ?_ | ((first | refine w1r ?_ | refine w1k ?_ | refine w1e ?_); simp (maxSteps := 400000) (disch := omega) only [push_cast, ↓reduceIte, reduceCtorEq, Nat.reduceAdd, Nat.reduceSub, Nat.reduceEqDiff, Nat.reduceLeDiff, Nat.reduceLT, Nat.reduceBEq, Nat.reduceDiv, Nat.reduceMod, Nat.reducePow, Nat.reduceMul, Int.reduceToNat, Int.reduceLT, Int.reduceLE, hgl, hgi]) | refine an2 ?_ | fail)
      cases B
      · refine W_condD (by rfl) (fun h7 => ?_) (fun h7 => ?_)
        · exact absurd (decide_eq_true (show a < dv' by omega)) (by rw [← hb2]; decide)
        · repeat' (first | refine w1g ?_ | refine w1l ?_ | refine w1q ?_ | refine w1b ?_ | refine w1p ?_ | ((first | refine w1r ?_ | refine w1k ?_ | refine w1e ?_); (refine sy1 ?_; try exact True.intro)) | refine an2 ?_ | fail)
          refine ⟨i + 1, ⟨by omega, hup rfl⟩, by omega, by rfl, ?_⟩
          rw [hdn, hpn]
          (refine syE ?_; try exact True.intro)
          first | done | omega
      · have hf := hat rfl
        have h8 : a < dv' := of_decide_eq_true hb2.symm
        rw [if_pos (show 0 ≤ f2 by omega), if_pos (show 0 ≤ f2 by omega), hf]
        refine W_condD (by rfl) (fun h7 => ?_) (fun h7 => ?_)
        · repeat' (first | refine w1g ?_ | refine w1l ?_ | refine w1q ?_ | refine w1b ?_ | refine w1p ?_ | ((first | refine w1r ?_ | refine w1k ?_ | refine w1e ?_); (refine sy1 ?_; try exact True.intro)) | refine an2 ?_ | fail)
          exact W_ret ⟨[_, _], ⟨rfl, rfl, rfl⟩, rfl⟩
        · omega
    · rw [if_neg hq] at hds
      rw [decide_eq_false hq]
      refine W_cond (by rfl) (fun h => by cases h) (fun _ => ?_)
      repeat' (first | refine w1g ?_ | refine w1l ?_ | refine w1q ?_ | refine w1b ?_ | refine w1p ?_ | ((first | refine w1r ?_ | refine w1k ?_ | refine w1e ?_); simp (maxSteps := 400000) (disch := omega) only [push_cast, ↓reduceIte, reduceCtorEq, Nat.reduceAdd, Nat.reduceSub, Nat.reduceEqDiff, Nat.reduceLeDiff, Nat.reduceLT, Nat.reduceBEq, Nat.reduceDiv, Nat.reduceMod, Nat.reducePow, Nat.reduceMul, Int.reduceToNat, Int.reduceLT, Int.reduceLE, hgl, hgi]) | refine an2 ?_ | fail)
      cases B
      · refine W_condD (by rfl) (fun h7 => ?_) (fun h7 => ?_)
        · exact absurd (decide_eq_true (show a < dv' by omega)) (by rw [← hb2]; decide)
        · repeat' (first | refine w1g ?_ | refine w1l ?_ | refine w1q ?_ | refine w1b ?_ | refine w1p ?_ | ((first | refine w1r ?_ | refine w1k ?_ | refine w1e ?_); (refine sy1 ?_; try exact True.intro)) | refine an2 ?_ | fail)
          refine ⟨i + 1, ⟨by omega, hup rfl⟩, by omega, by rfl, ?_⟩
          rw [hdn, hpn]
          (refine syE ?_; try exact True.intro)
          first | done | omega
      · have hf := hat rfl
        have h8 : a < dv' := of_decide_eq_true hb2.symm
        rw [if_pos (show 0 ≤ f2 by omega), if_pos (show 0 ≤ f2 by omega), hf]
        refine W_condD (by rfl) (fun h7 => ?_) (fun h7 => ?_)
        · repeat' (first | refine w1g ?_ | refine w1l ?_ | refine w1q ?_ | refine w1b ?_ | refine w1p ?_ | ((first | refine w1r ?_ | refine w1k ?_ | refine w1e ?_); (refine sy1 ?_; try exact True.intro)) | refine an2 ?_ | fail)
          exact W_ret ⟨[_, _], ⟨rfl, rfl, rfl⟩, rfl⟩
        · omega
  · obtain rfl : i = ls.length := by omega
    have hf2 := hno2 fun k hk => hp k (by omega)
    rw [if_neg (show ¬ 0 ≤ f2 by omega), if_neg (show ¬ 0 ≤ f2 by omega)]
    repeat' (first | refine w1g ?_ | refine w1l ?_ | refine w1q ?_ | refine w1b ?_ | refine w1p ?_ | ((first | refine w1r ?_ | refine w1k ?_ | refine w1e ?_); (refine sy1 ?_; try exact True.intro)) | refine an2 ?_ | fail)
    exact W_ret ⟨[_, _], ⟨rfl, rfl, rfl⟩, rfl⟩
end Go.Proofs.Ytoiohkjomcbadaa

namespace Go.Proofs.Ytoiohkjomcbadaa
open Go Sy
set_option maxRecDepth 100000
set_option maxHeartbeats 4000000
set_option linter.unusedVariables false
set_option linter.unusedSimpArgs false
def lxC : List Int → List Int → Int
  | [], [] => 0
  | [], _ => -1
  | _ :: _, [] => 1
  | x :: l, y :: m => if cmI x y = 0 then lxC l m else cmI x y
theorem lx_at {l m : List Int} (hl : l.length = m.length) : ∀ i, i ≤ l.length → (∀ k, k < i → gi l k = gi m k) → lxC l m = lxC (l.drop i) (m.drop i) := by
  intro i
  induction i with
  | zero => intro _ _; rfl
  | succ i ih =>
    intro hi hk
    rw [ih (by omega) (fun k h => hk k (by omega))]
    have h1 : i < l.length := by omega
    have h2 : i < m.length := by omega
    rw [List.drop_eq_getElem_cons h1, List.drop_eq_getElem_cons h2]
    have h3 := hk i (by omega)
    have e1 : gi l i = l[i] := by show l.getD i 0 = _; rw [List.getD_eq_getElem?_getD, List.getElem?_eq_getElem h1]; rfl
    have e2 : gi m i = m[i] := by show m.getD i 0 = _; rw [List.getD_eq_getElem?_getD, List.getElem?_eq_getElem h2]; rfl
    show (if cmI l[i] m[i] = 0 then _ else _) = _
    rw [if_pos (by rw [cm_eq]; omega)]
theorem lx_eq {l m : List Int} (hl : l.length = m.length) (h : ∀ k, k < l.length → gi l k = gi m k) : lxC l m = 0 := by
  rw [lx_at hl l.length (Nat.le_refl _) h, List.drop_length, hl, List.drop_length]
  rfl
theorem lx_ne {l m : List Int} (hl : l.length = m.length) {i : Nat} (hi : i < l.length) (h : ∀ k, k < i → gi l k = gi m k) (hn : gi l i ≠ gi m i) : lxC l m = cmI (gi l i) (gi m i) := by
  rw [lx_at hl i (by omega) h]
  have h1 : i < l.length := by omega
  have h2 : i < m.length := by omega
  rw [List.drop_eq_getElem_cons h1, List.drop_eq_getElem_cons h2]
  have e1 : gi l i = l[i] := by show l.getD i 0 = _; rw [List.getD_eq_getElem?_getD, List.getElem?_eq_getElem h1]; rfl
  have e2 : gi m i = m[i] := by show m.getD i 0 = _; rw [List.getD_eq_getElem?_getD, List.getElem?_eq_getElem h2]; rfl
  show (if cmI l[i] m[i] = 0 then _ else cmI l[i] m[i]) = _
  rw [if_neg (by rw [cm_eq]; omega), e1, e2]
theorem fn120 (l m : List Int) (hl : l.length = m.length) (hb : l.length ≤ 1000000) : Sy.Fn Try.prog 120 [aI l, aI m] (iv (lxC l m)) := by
  refine Fn_of_W mixed Xt120 rfl ?_
  have hne := fun i hi h hn => lx_ne hl (i := i) hi h hn
  have heq := lx_eq hl
  generalize lxC l m = V at *
  repeat' (first | refine w1g ?_ | refine w1l ?_ | refine w1q ?_ | refine w1b ?_ | refine w1p ?_ | ((first | refine w1r ?_ | refine w1k ?_ | refine w1e ?_); (refine sy1 ?_; try exact True.intro)) | refine an2 ?_ | fail)
  refine W_loopU (fun i : Nat => [(11, iv i)]) (fun i => []) (fun i => i ≤ l.length ∧ ∀ k, k < i → gi l k = gi m k) (fun i => l.length - i) 0 ⟨by omega, fun k hk => by omega⟩ (by rfl) (by rfl) (fun i hi => ?_)
  obtain ⟨hi, hp⟩ := hi
  (refine sy1 ?_; try exact True.intro)
  repeat' (first | refine w1g ?_ | refine w1l ?_ | refine w1q ?_ | refine w1b ?_ | refine w1p ?_ | ((first | refine w1r ?_ | refine w1k ?_ | refine w1e ?_); (refine sy1 ?_; try exact True.intro)) | refine an2 ?_ | fail)
  refine W_condD (by rfl) (fun h5 => ?_) (fun h5 => ?_)
  · have hil : i < l.length := by omega
    have hne := hne i hil hp
    have hup := @up_all _ i hp
    have c100 := fn100 (gi l i) (gi m i)
    have g1 : l.getD i 0 = gi l i := rfl
    have g2 : m.getD i 0 = gi m i := rfl
    have hce := cm_eq (gi l i) (gi m i)
    generalize gi l i = x at *
    generalize gi m i = y at *
    generalize cmI x y = z at *
    repeat' (first | refine w1g ?_ | refine w1l ?_ | refine w1q ?_ | refine w1b ?_ | refine w1p ?_ | ((first | refine w1r ?_ | refine w1k ?_ | refine w1e ?_); simp (maxSteps := 400000) (disch := omega) only [push_cast, ↓reduceIte, reduceCtorEq, Nat.reduceAdd, Nat.reduceSub, Nat.reduceEqDiff, Nat.reduceLeDiff, Nat.reduceLT, Nat.reduceBEq, Nat.reduceDiv, Nat.reduceMod, Nat.reducePow, Nat.reduceMul, Int.reduceToNat, Int.reduceLT, Int.reduceLE, g1, g2]) | refine an2 ?_ | fail)
    refine W_condD (by rfl) (fun h6 => absurd h6 (by omega)) (fun h6 => ?_)
    repeat' (first | refine w1g ?_ | refine w1l ?_ | refine w1q ?_ | refine w1b ?_ | refine w1p ?_ | ((first | refine w1r ?_ | refine w1k ?_ | refine w1e ?_ | refine CallC.now (c100) ?_); simp (maxSteps := 400000) (disch := omega) only [push_cast, ↓reduceIte, reduceCtorEq, Nat.reduceAdd, Nat.reduceSub, Nat.reduceEqDiff, Nat.reduceLeDiff, Nat.reduceLT, Nat.reduceBEq, Nat.reduceDiv, Nat.reduceMod, Nat.reducePow, Nat.reduceMul, Int.reduceToNat, Int.reduceLT, Int.reduceLE, g1, g2]) | refine an2 ?_ | fail)
    by_cases q : x = y
    · rw [show (z != 0) = false by rw [hce.2 q]; rfl]
      refine W_cond (by rfl) (fun h => by cases h) (fun _ => ?_)
      repeat' (first | refine w1g ?_ | refine w1l ?_ | refine w1q ?_ | refine w1b ?_ | refine w1p ?_ | ((first | refine w1r ?_ | refine w1k ?_ | refine w1e ?_); (refine sy1 ?_; try exact True.intro)) | refine an2 ?_ | fail)
      refine ⟨i + 1, ⟨by omega, hup q⟩, by omega, by rfl, ?_⟩
      (refine syE ?_; try exact True.intro)
    · rw [show (z != 0) = true from bne_iff_ne.2 fun w => q (hce.1 w), hne q]
      refine W_cond (by rfl) (fun _ => ?_) (fun h => by cases h)
      repeat' (first | refine w1g ?_ | refine w1l ?_ | refine w1q ?_ | refine w1b ?_ | refine w1p ?_ | ((first | refine w1r ?_ | refine w1k ?_ | refine w1e ?_); (refine sy1 ?_; try exact True.intro)) | refine an2 ?_ | fail)
      exact W_ret ⟨[_], ⟨rfl, rfl⟩, rfl⟩
  · rw [heq fun k hk => hp k (by omega)]
    repeat' (first | refine w1g ?_ | refine w1l ?_ | refine w1q ?_ | refine w1b ?_ | refine w1p ?_ | ((first | refine w1r ?_ | refine w1k ?_ | refine w1e ?_); (refine sy1 ?_; try exact True.intro)) | refine an2 ?_ | fail)
    refine W_condD (by rfl) (fun h6 => absurd h6 (by omega)) (fun h6 => ?_)
    repeat' (first | refine w1g ?_ | refine w1l ?_ | refine w1q ?_ | refine w1b ?_ | refine w1p ?_ | ((first | refine w1r ?_ | refine w1k ?_ | refine w1e ?_); (refine sy1 ?_; try exact True.intro)) | refine an2 ?_ | fail)
    exact W_ret ⟨[_], ⟨rfl, rfl⟩, rfl⟩
def bfC (l m : List Int) : Int := if cmI (gi l (l.length - 1)) (gi m (l.length - 1)) = 0 then lxC l m else cmI (gi l (l.length - 1)) (gi m (l.length - 1))
theorem fn79 (l m : List Int) (hl : l.length = m.length) (h0 : 0 < l.length) (hb : l.length ≤ 1000000) : Sy.Fn Try.prog 79 [aI l, aI m] (bv (decide (bfC l m < 0))) := by
  refine Fn_of_W mixed Xt79 rfl ?_
  have c120 := fn120 l m hl hb
  have c100 := fn100 (gi l (l.length - 1)) (gi m (l.length - 1))
  have c99 := fn99 (cmI (gi l (l.length - 1)) (gi m (l.length - 1))) (lxC l m)
  have hB : bfC l m = if cmI (gi l (l.length - 1)) (gi m (l.length - 1)) = 0 then lxC l m else cmI (gi l (l.length - 1)) (gi m (l.length - 1)) := rfl
  rw [← hB] at c99
  have hli : ((l.length : Int) - 1).toNat = l.length - 1 := by omega
  have g1 : l.getD (l.length - 1) 0 = gi l (l.length - 1) := rfl
  have g2 : m.getD (l.length - 1) 0 = gi m (l.length - 1) := rfl
  have hml : l.length - 1 < m.length := by omega
  generalize bfC l m = V at *
  generalize lxC l m = V2 at *
  generalize cmI (gi l (l.length - 1)) (gi m (l.length - 1)) = V3 at *
  repeat' (first | refine w1g ?_ | refine w1l ?_ | refine w1q ?_ | refine w1b ?_ | refine w1p ?_ | ((first | refine w1r ?_ | refine w1k ?_ | refine w1e ?_ | refine CallC.now (c100) ?_ | refine CallC.now (c120) ?_); simp (maxSteps := 400000) (disch := omega) only [push_cast, ↓reduceIte, reduceCtorEq, Nat.reduceAdd, Nat.reduceSub, Nat.reduceEqDiff, Nat.reduceLeDiff, Nat.reduceLT, Nat.reduceBEq, Nat.reduceDiv, Nat.reduceMod, Nat.reducePow, Nat.reduceMul, Int.reduceToNat, Int.reduceLT, Int.reduceLE, hli, g1, g2]) | refine an2 ?_ | fail)
  refine ⟨rfl, trivial, Int, 0, cI, [V3, V2], rfl, by omega, fun x _ => ⟨rfl, rfl⟩, rfl, ?_⟩
  (refine sy1 ?_; try exact True.intro)
  repeat' (first | refine w1g ?_ | refine w1l ?_ | refine w1q ?_ | refine w1b ?_ | refine w1p ?_ | ((first | refine w1r ?_ | refine w1k ?_ | refine w1e ?_ | refine CallC.go _ (fun _ => ⟨trivial, c99⟩) rfl ?_); (refine sy1 ?_; try exact True.intro)) | refine an2 ?_ | fail)
  exact W_ret ⟨[_], ⟨rfl, rfl⟩, rfl⟩
end Go.Proofs.Ytoiohkjomcbadaa

namespace Go.Proofs.Ytoiohkjomcbadaa
open Go Sy
set_option maxRecDepth 100000
set_option maxHeartbeats 4000000
set_option linter.unusedVariables false
set_option linter.unusedSimpArgs false
def stC (ls : List Lg) (b : Int) (c : Nat → Bool) (i : Nat) (t : Int) : Int := fstW (gl ls i).mi (if 0 < i ∧ c i = true then t + b else t) (gl ls i).ws
def frC (ls : List Lg) (b st : Int) (c : Nat → Bool) : Nat → Int
  | 0 => st
  | i + 1 => stC ls b c i (frC ls b st c i) + (gl ls i).mi
def atC (ls : List Lg) (b st : Int) (c : Nat → Bool) (i : Nat) : Int := stC ls b c i (frC ls b st c i)
def msC (m i : Nat) : Bool := decide (m / 2 ^ i % 2 = 1)
def liC (ls : List Lg) (b st : Int) (c : Nat → Bool) : Bool := (List.range ls.length).all fun i => decide (0 ≤ atC ls b st c i)
def tmL (ls : List Lg) (b st : Int) (c : Nat → Bool) : List Int := if liC ls b st c = true then lsF ls.length (atC ls b st c) else []
def tmO (ls : List Lg) (a b st : Int) (c : Nat → Bool) : Bool := liC ls b st c && decide (ckE ls a b st (lsF ls.length (atC ls b st c)) = 0)
end Go.Proofs.Ytoiohkjomcbadaa

namespace Go.Proofs.Ytoiohkjomcbadaa
open Go Sy
set_option maxRecDepth 100000
set_option maxHeartbeats 4000000
set_option linter.unusedVariables false
set_option linter.unusedSimpArgs false
def bsC (ls : List Lg) (a b st : Int) : Nat → List Int
  | 0 => []
  | k + 1 => if tmO ls a b st (msC k) = true ∧ (bsC ls a b st k = [] ∨ bfC (tmL ls b st (msC k)) (bsC ls a b st k) < 0) then tmL ls b st (msC k) else bsC ls a b st k
def slN (l : List Int) : AV := if l = [] then .v (.slice none 0 0) else aI l
theorem tmL_len {ls : List Lg} {a b st : Int} {c : Nat → Bool} (h : tmO ls a b st c = true) : (tmL ls b st c).length = ls.length := by
  unfold tmO at h
  rw [Bool.and_eq_true] at h
  unfold tmL
  rw [if_pos h.1, lsF_len]
theorem bsC_len (ls : List Lg) (a b st : Int) : ∀ k, bsC ls a b st k = [] ∨ (bsC ls a b st k).length = ls.length
  | 0 => .inl rfl
  | k + 1 => by
    show (if _ then _ else _) = [] ∨ (if _ then _ else _ : List Int).length = _
    split
    · rename_i h; exact .inr (tmL_len h.1)
    · exact bsC_len ls a b st k
def crL (ls : List Lg) (a b st : Int) : List Int := if crE ls a b st = 0 ∧ ls.length ≠ 0 then bsC ls a b st (2 ^ ls.length) else []
def crF (ls : List Lg) (a b st : Int) : Int := if crE ls a b st = 0 then (if ls.length = 0 then 0 else if bsC ls a b st (2 ^ ls.length) = [] then 15 else 0) else crE ls a b st
end Go.Proofs.Ytoiohkjomcbadaa

namespace Go.Proofs.Ytoiohkjomcbadaa
open Go Sy
set_option linter.unusedVariables false
theorem cm_gt (x y : Int) : 0 < cmI x y ↔ y < x := by unfold cmI; repeat' split <;> omega
theorem lx_zero : ∀ {l m : List Int}, l.length = m.length → lxC l m = 0 → l = m
  | [], [], _, _ => rfl
  | [], y :: m, h, _ => by simp at h
  | x :: l, [], h, _ => by simp at h
  | x :: l, y :: m, h, hz => by
    have hz : (if cmI x y = 0 then lxC l m else cmI x y) = 0 := hz
    split at hz
    · rename_i q
      rw [cm_eq] at q
      rw [q, lx_zero (by simpa using h) hz]
    · rename_i q; exact absurd hz q
theorem lx_self : ∀ (l : List Int), lxC l l = 0
  | [] => rfl
  | x :: l => by
    show (if cmI x x = 0 then lxC l l else cmI x x) = 0
    rw [if_pos ((cm_eq x x).2 rfl)]
    exact lx_self l
theorem lx_anti : ∀ {l m : List Int}, l.length = m.length → (lxC l m < 0 ↔ 0 < lxC m l)
  | [], [], _ => by show (0 : Int) < 0 ↔ (0 : Int) < 0; omega
  | [], y :: m, h => by simp at h
  | x :: l, [], h => by simp at h
  | x :: l, y :: m, h => by
    show (if cmI x y = 0 then lxC l m else cmI x y) < 0 ↔ 0 < (if cmI y x = 0 then lxC m l else cmI y x)
    have e1 := cm_eq x y
    have e2 := cm_eq y x
    have e3 := cm_lt x y
    have e4 := cm_gt y x
    have ih := lx_anti (l := l) (m := m) (by simpa using h)
    by_cases q : x = y
    · rw [if_pos (e1.2 q), if_pos (e2.2 q.symm)]; exact ih
    · rw [if_neg (fun z => q (e1.1 z)), if_neg (fun z => q (e2.1 z).symm), e3, e4]
theorem lx_trans : ∀ {l m k : List Int}, l.length = m.length → m.length = k.length → lxC l m < 0 → lxC m k < 0 → lxC l k < 0
  | [], [], _, _, _, h, _ => absurd (show (0 : Int) < 0 from h) (by decide)
  | [], y :: m, _, h, _, _, _ => by simp at h
  | x :: l, [], _, h, _, _, _ => by simp at h
  | x :: l, y :: m, [], _, h, _, _ => by simp at h
  | x :: l, y :: m, z :: k, h1, h2, h3, h4 => by
    have h3 : (if cmI x y = 0 then lxC l m else cmI x y) < 0 := h3
    have h4 : (if cmI y z = 0 then lxC m k else cmI y z) < 0 := h4
    show (if cmI x z = 0 then lxC l k else cmI x z) < 0
    have a1 := cm_eq x y
    have a2 := cm_eq y z
    have a3 := cm_eq x z
    have b1 := cm_lt x y
    have b2 := cm_lt y z
    have b3 := cm_lt x z
    by_cases q1 : x = y
    · rw [if_pos (a1.2 q1)] at h3
      by_cases q2 : y = z
      · rw [if_pos (a2.2 q2)] at h4
        rw [if_pos (a3.2 (q1.trans q2))]
        exact lx_trans (by simpa using h1) (by simpa using h2) h3 h4
      · rw [if_neg (fun w => q2 (a2.1 w)), b2] at h4
        rw [if_neg (fun w => q2 (q1 ▸ a3.1 w)), b3]
        omega
    · rw [if_neg (fun w => q1 (a1.1 w)), b1] at h3
      have h5 : y ≤ z := by
        by_cases q2 : y = z
        · omega
        · rw [if_neg (fun w => q2 (a2.1 w)), b2] at h4; omega
      rw [if_neg (fun w => by have := a3.1 w; omega), b3]
      omega
theorem bf_zero {l m : List Int} (hl : l.length = m.length) (h : bfC l m = 0) : l = m := by
  unfold bfC at h
  split at h
  · exact lx_zero hl h
  · rename_i q; exact absurd h q
theorem bf_self (l : List Int) : bfC l l = 0 := by
  unfold bfC
  rw [if_pos ((cm_eq _ _).2 rfl)]
  exact lx_self l
theorem bf_anti {l m : List Int} (hl : l.length = m.length) : bfC l m < 0 ↔ 0 < bfC m l := by
  unfold bfC
  rw [← hl]
  have e1 := cm_eq (gi l (l.length - 1)) (gi m (l.length - 1))
  have e2 := cm_eq (gi m (l.length - 1)) (gi l (l.length - 1))
  have e3 := cm_lt (gi l (l.length - 1)) (gi m (l.length - 1))
  have e4 := cm_gt (gi m (l.length - 1)) (gi l (l.length - 1))
  by_cases q : gi l (l.length - 1) = gi m (l.length - 1)
  · rw [if_pos (e1.2 q), if_pos (e2.2 q.symm)]; exact lx_anti hl
  · rw [if_neg (fun z => q (e1.1 z)), if_neg (fun z => q (e2.1 z).symm), e3, e4]
theorem bf_trans {l m k : List Int} (h1 : l.length = m.length) (h2 : m.length = k.length) (h3 : bfC l m < 0) (h4 : bfC m k < 0) : bfC l k < 0 := by
  unfold bfC at h3 h4 ⊢
  rw [← h1] at h4
  have a1 := cm_eq (gi l (l.length - 1)) (gi m (l.length - 1))
  have a2 := cm_eq (gi m (l.length - 1)) (gi k (l.length - 1))
  have a3 := cm_eq (gi l (l.length - 1)) (gi k (l.length - 1))
  have b1 := cm_lt (gi l (l.length - 1)) (gi m (l.length - 1))
  have b2 := cm_lt (gi m (l.length - 1)) (gi k (l.length - 1))
  have b3 := cm_lt (gi l (l.length - 1)) (gi k (l.length - 1))
  have ht := lx_trans (k := k) h1 h2
  generalize gi l (l.length - 1) = x at *
  generalize gi m (l.length - 1) = y at *
  generalize gi k (l.length - 1) = z at *
  by_cases q1 : x = y
  · rw [if_pos (a1.2 q1)] at h3
    by_cases q2 : y = z
    · rw [if_pos (a2.2 q2)] at h4
      rw [if_pos (a3.2 (q1.trans q2))]
      exact ht h3 h4
    · rw [if_neg (fun w => q2 (a2.1 w)), b2] at h4
      rw [if_neg (fun w => q2 (q1 ▸ a3.1 w)), b3]
      omega
  · rw [if_neg (fun w => q1 (a1.1 w)), b1] at h3
    have h5 : y ≤ z := by
      by_cases q2 : y = z
      · omega
      · rw [if_neg (fun w => q2 (a2.1 w)), b2] at h4; omega
    rw [if_neg (fun w => by have := a3.1 w; omega), b3]
    omega
structure Bst (S : List Int → Prop) (r : List Int) : Prop where
  mem : r = [] ∨ S r
  le : ∀ s, S s → r ≠ [] ∧ ¬ bfC s r < 0
theorem bst_uniq {S : List Int → Prop} {n : Nat} (hS : ∀ s, S s → s.length = n) (h0 : 0 < n) {r t : List Int} (hr : Bst S r) (ht : Bst S t) : r = t := by
  rcases hr.mem with q | q
  · rcases ht.mem with z | z
    · rw [q, z]
    · exact absurd q (hr.le t z).1
  · rcases ht.mem with z | z
    · exact absurd z (ht.le r q).1
    · have e1 := (hr.le t z).2
      have e2 := (ht.le r q).2
      have hl : r.length = t.length := by rw [hS r q, hS t z]
      have e3 := bf_anti hl.symm
      have e4 : bfC t r = 0 := by
        have := bf_anti hl
        omega
      exact (bf_zero hl.symm e4).symm
theorem bst_step {S : List Int → Prop} {n : Nat} (hS : ∀ s, S s → s.length = n) (h0 : 0 < n) {r x : List Int} (hr : Bst S r) (hx : x.length = n) : Bst (fun s => S s ∨ s = x) (if r = [] ∨ bfC x r < 0 then x else r) := by
  have hxn : x ≠ [] := fun q => by rw [q] at hx; simp at hx; omega
  by_cases q : r = [] ∨ bfC x r < 0
  · rw [if_pos q]
    refine ⟨.inr (.inr rfl), fun s hs => ⟨hxn, ?_⟩⟩
    rcases hs with hs | rfl
    · rcases q with q | q
      · exact absurd q (hr.le s hs).1
      · intro z
        rcases hr.mem with w | w
        · exact (hr.le s hs).1 w
        · exact (hr.le s hs).2 (bf_trans (by rw [hS s hs, hx]) (by rw [hx, hS r w]) z q)
    · rw [bf_self]; exact Int.lt_irrefl _
  · rw [if_neg q]
    have q1 : r ≠ [] := fun z => q (.inl z)
    have q2 : ¬ bfC x r < 0 := fun z => q (.inr z)
    refine ⟨hr.mem.imp id .inl, fun s hs => ⟨q1, ?_⟩⟩
    rcases hs with hs | rfl
    · exact (hr.le s hs).2
    · exact q2
theorem bst_congr {S T : List Int → Prop} {r : List Int} (h : ∀ s, S s ↔ T s) (hr : Bst S r) : Bst T r := ⟨hr.mem.imp id (h r).1, fun s hs => hr.le s ((h s).2 hs)⟩
theorem bsC_best {ls : List Lg} {a b st : Int} (h0 : 0 < ls.length) : ∀ k, Bst (fun s => ∃ m, m < k ∧ tmO ls a b st (msC m) = true ∧ s = tmL ls b st (msC m)) (bsC ls a b st k)
  | 0 => ⟨.inl rfl, fun s ⟨m, hm, _⟩ => absurd hm (Nat.not_lt_zero m)⟩
  | k + 1 => by
    have ih := bsC_best (ls := ls) (a := a) (b := b) (st := st) h0 k
    have hl : ∀ s, (∃ m, m < k ∧ tmO ls a b st (msC m) = true ∧ s = tmL ls b st (msC m)) → s.length = ls.length := fun s ⟨m, _, h1, h2⟩ => by rw [h2]; exact tmL_len h1
    show Bst _ (if tmO ls a b st (msC k) = true ∧ (bsC ls a b st k = [] ∨ bfC (tmL ls b st (msC k)) (bsC ls a b st k) < 0) then tmL ls b st (msC k) else bsC ls a b st k)
    by_cases ht : tmO ls a b st (msC k) = true
    · have := bst_step hl h0 ih (tmL_len ht)
      have e : (if tmO ls a b st (msC k) = true ∧ (bsC ls a b st k = [] ∨ bfC (tmL ls b st (msC k)) (bsC ls a b st k) < 0) then tmL ls b st (msC k) else bsC ls a b st k) = (if bsC ls a b st k = [] ∨ bfC (tmL ls b st (msC k)) (bsC ls a b st k) < 0 then tmL ls b st (msC k) else bsC ls a b st k) := by
        by_cases q : bsC ls a b st k = [] ∨ bfC (tmL ls b st (msC k)) (bsC ls a b st k) < 0
        · rw [if_pos ⟨ht, q⟩, if_pos q]
        · rw [if_neg (fun z => q z.2), if_neg q]
      rw [e]
      refine bst_congr (fun s => ?_) this
      constructor
      · rintro (⟨m, h1, h2, h3⟩ | rfl)
        · exact ⟨m, by omega, h2, h3⟩
        · exact ⟨k, by omega, ht, rfl⟩
      · rintro ⟨m, h1, h2, h3⟩
        rcases Nat.lt_or_ge m k with q | q
        · exact .inl ⟨m, q, h2, h3⟩
        · obtain rfl : m = k := by omega
          exact .inr h3
    · rw [if_neg (fun q => ht q.1)]
      refine bst_congr (fun s => ?_) ih
      constructor
      · rintro ⟨m, h1, h2, h3⟩
        exact ⟨m, by omega, h2, h3⟩
      · rintro ⟨m, h1, h2, h3⟩
        rcases Nat.lt_or_ge m k with q | q
        · exact ⟨m, q, h2, h3⟩
        · obtain rfl : m = k := by omega
          exact absurd h2 ht
end Go.Proofs.Ytoiohkjomcbadaa

namespace Go.Proofs.Ytoiohkjomcbadaa
open Go Sy
set_option linter.unusedVariables false
def dvI (ls : List Lg) (b st : Int) (c : Nat → Bool) : Nat → Int
  | 0 => 0
  | i + 1 => (if 0 < i ∧ b ≤ atC ls b st c i - frC ls b st c i then 0 else dvI ls b st c i) + (gl ls i).mi
section
variable {ls : List Lg} {a b st : Int} {c : Nat → Bool}
theorem pe_fr (z : Int) {i : Nat} (hi : i < ls.length) (h : 0 < i) : peC ls z (lsF ls.length (atC ls b st c)) i = frC ls b st c i := by
  obtain ⟨k, rfl⟩ : ∃ k, i = k + 1 := ⟨i - 1, by omega⟩
  unfold peC
  rw [if_neg (by omega), Nat.add_sub_cancel, lsF_get (by omega)]
  rfl
theorem dv_eq : ∀ i, i ≤ ls.length → dvC ls b (lsF ls.length (atC ls b st c)) i = dvI ls b st c i
  | 0, _ => rfl
  | i + 1, hi => by
    have ih := dv_eq i (by omega)
    show (if 0 < i ∧ b ≤ gi (lsF ls.length (atC ls b st c)) i - peC ls 0 (lsF ls.length (atC ls b st c)) i then 0 else dvC ls b (lsF ls.length (atC ls b st c)) i) + (gl ls i).mi = (if 0 < i ∧ b ≤ atC ls b st c i - frC ls b st c i then 0 else dvI ls b st c i) + (gl ls i).mi
    rw [ih, lsF_get (show i < ls.length by omega)]
    by_cases h : 0 < i
    · rw [pe_fr 0 (by omega) h]
    · rw [if_neg (fun q => h q.1), if_neg (fun q => h q.1)]
theorem at_ok (h : OkC ls a b st) {i : Nat} (hi : i < ls.length) (h0 : 0 ≤ atC ls b st c i) : frC ls b st c i ≤ atC ls b st c i ∧ fitW (gl ls i).mi (atC ls b st c i) (gl ls i).ws := by
  have hm := h.m i hi
  have hb := h.rb
  have e : atC ls b st c i = fstW (gl ls i).mi (if 0 < i ∧ c i = true then frC ls b st c i + b else frC ls b st c i) (gl ls i).ws := rfl
  rcases fst_fit (mi := (gl ls i).mi) (fr := if 0 < i ∧ c i = true then frC ls b st c i + b else frC ls b st c i) (h.k i hi) (Int.le_refl 0) (by omega) with q | ⟨q1, q2, q3⟩
  · rw [e, q] at h0; exact absurd h0 (by decide)
  · rw [← e] at q2 q3
    refine ⟨?_, q3⟩
    split at q2 <;> omega
theorem li_iff : liC ls b st c = true ↔ ∀ i, i < ls.length → 0 ≤ atC ls b st c i := by
  unfold liC
  rw [List.all_eq_true]
  exact ⟨fun h i hi => of_decide_eq_true (h i (List.mem_range.2 hi)), fun h i hi => decide_eq_true (h i (List.mem_range.1 hi))⟩
theorem fst_neg {p : Nat → Bool} {n : Nat} : ¬ 0 ≤ fstI p n ↔ ∀ i, i < n → p i = false := by
  constructor
  · intro h
    rcases fstI_cases p n with ⟨_, q⟩ | ⟨i, hi, q, _⟩
    · exact q
    · omega
  · intro h
    rw [fstI_none h]; decide
theorem tmO_iff (h0 : crE ls a b st = 0) : tmO ls a b st c = true ↔ (∀ i, i < ls.length → 0 ≤ atC ls b st c i) ∧ ∀ i, i < ls.length → dvI ls b st c (i + 1) ≤ a := by
  have h := crE_ok h0
  have hlen := lsF_len ls.length (atC ls b st c)
  unfold tmO
  rw [Bool.and_eq_true, li_iff, decide_eq_true_eq]
  have key : (∀ i, i < ls.length → 0 ≤ atC ls b st c i) → (ckE ls a b st (lsF ls.length (atC ls b st c)) = 0 ↔ ∀ i, i < ls.length → dvI ls b st c (i + 1) ≤ a) := fun hp => by
    have hb1 : ∀ i, i < ls.length → b1C ls st (lsF ls.length (atC ls b st c)) i = false := fun i hi => by
      obtain ⟨q1, q2⟩ := at_ok h hi (hp i hi)
      unfold b1C
      rw [lsF_get hi, fitB_iff.2 q2, Bool.not_true, Bool.or_false, decide_eq_false_iff_not]
      rcases Nat.eq_zero_or_pos i with z | z
      · subst z; show ¬ atC ls b st c 0 < st; have : frC ls b st c 0 = st := rfl; omega
      · rw [pe_fr st hi z]; omega
    unfold ckE
    rw [if_pos h0, if_pos hlen, if_neg (fst_neg.2 hb1)]
    constructor
    · intro q i hi
      have h2 : ¬ 0 ≤ fstI (b2C ls a b (lsF ls.length (atC ls b st c))) ls.length := fun z => by rw [if_pos z] at q; cases q
      have h3 := fst_neg.1 h2 i hi
      unfold b2C at h3
      rw [decide_eq_false_iff_not, dv_eq (i + 1) (by omega)] at h3
      omega
    · intro q
      rw [if_neg (fst_neg.2 fun i hi => ?_)]
      unfold b2C
      rw [decide_eq_false_iff_not, dv_eq (i + 1) (by omega)]
      have := q i hi
      omega
  constructor
  · rintro ⟨h1, h2⟩; exact ⟨h1, (key h1).1 h2⟩
  · rintro ⟨h1, h2⟩; exact ⟨h1, (key h1).2 h2⟩
end
theorem fr_congr {ls : List Lg} {b st : Int} {c d : Nat → Bool} : ∀ n, (∀ i, 0 < i → i < n → c i = d i) → (frC ls b st c n = frC ls b st d n ∧ ∀ i, i < n → atC ls b st c i = atC ls b st d i)
  | 0, _ => ⟨rfl, fun i hi => absurd hi (Nat.not_lt_zero i)⟩
  | n + 1, h => by
    obtain ⟨h1, h2⟩ := fr_congr (ls := ls) (b := b) (st := st) n fun i h0 hi => h i h0 (by omega)
    have e : atC ls b st c n = atC ls b st d n := by
      show stC ls b c n (frC ls b st c n) = stC ls b d n (frC ls b st d n)
      unfold stC
      rw [h1]
      by_cases q : 0 < n
      · rw [h n q (by omega)]
      · rw [if_neg (fun z => q z.1), if_neg (fun z => q z.1)]
    refine ⟨?_, fun i hi => ?_⟩
    · show atC ls b st c n + (gl ls n).mi = atC ls b st d n + (gl ls n).mi
      rw [e]
    · rcases Nat.lt_or_ge i n with q | q
      · exact h2 i q
      · obtain rfl : i = n := by omega
        exact e
theorem ms_ex (c : Nat → Bool) : ∀ n, ∃ m, m < 2 ^ n ∧ ∀ i, i < n → msC m i = c i
  | 0 => ⟨0, by decide, fun i hi => absurd hi (Nat.not_lt_zero i)⟩
  | n + 1 => by
    obtain ⟨m, h1, h2⟩ := ms_ex c n
    refine ⟨m + (if c n = true then 2 ^ n else 0), ?_, fun i hi => ?_⟩
    · rw [Nat.pow_succ]; split <;> omega
    · have hp : 0 < 2 ^ n := Nat.pow_pos (by omega)
      rcases Nat.lt_or_ge i n with q | q
      · rw [← h2 i q]
        unfold msC
        obtain ⟨k, hk⟩ : ∃ k, 2 ^ n = 2 ^ i * (2 * k) := ⟨2 ^ (n - i - 1), by
          rw [← Nat.pow_succ', ← Nat.pow_add]; congr 1; omega⟩
        have hpi : 0 < 2 ^ i := Nat.pow_pos (by omega)
        congr 1
        split
        · rw [hk, Nat.add_mul_div_left _ _ hpi, Nat.add_mul_mod_self_left]
        · rw [Nat.add_zero]
      · obtain rfl : i = n := by omega
        unfold msC
        cases hc : c i
        · rw [if_neg (by decide), Nat.add_zero, Nat.div_eq_of_lt h1]; rfl
        · rw [if_pos rfl, Nat.add_div_right _ hp, Nat.div_eq_of_lt h1]; rfl
end Go.Proofs.Ytoiohkjomcbadaa

namespace Go.Proofs.Ytoiohkjomcbadaa
open Go Sy
set_option linter.unusedVariables false
def AlwC (ls : List Lg) (a b st : Int) (s : List Int) : Prop := ∃ c, (∀ i, i < ls.length → 0 ≤ atC ls b st c i) ∧ (∀ i, i < ls.length → dvI ls b st c (i + 1) ≤ a) ∧ s = lsF ls.length (atC ls b st c)
theorem alw_len {ls : List Lg} {a b st : Int} {s : List Int} (h : AlwC ls a b st s) : s.length = ls.length := by
  obtain ⟨c, _, _, rfl⟩ := h
  exact lsF_len _ _
theorem dvI_congr {ls : List Lg} {b st : Int} {c d : Nat → Bool} (h : ∀ i, 0 < i → i < ls.length → c i = d i) : ∀ i, i ≤ ls.length → dvI ls b st c i = dvI ls b st d i
  | 0, _ => rfl
  | i + 1, hi => by
    have ih := dvI_congr (ls := ls) (b := b) (st := st) h i (by omega)
    have h1 := (fr_congr (ls := ls) (b := b) (st := st) i fun k h0 hk => h k h0 (by omega)).1
    have h2 := (fr_congr (ls := ls) (b := b) (st := st) (i + 1) fun k h0 hk => h k h0 (by omega)).2 i (by omega)
    show (if 0 < i ∧ b ≤ atC ls b st c i - frC ls b st c i then 0 else dvI ls b st c i) + (gl ls i).mi = (if 0 < i ∧ b ≤ atC ls b st d i - frC ls b st d i then 0 else dvI ls b st d i) + (gl ls i).mi
    rw [ih, h1, h2]
theorem crL_best {ls : List Lg} {a b st : Int} (h0 : crE ls a b st = 0) (hn : 0 < ls.length) : Bst (AlwC ls a b st) (crL ls a b st) := by
  have h1 := bsC_best (ls := ls) (a := a) (b := b) (st := st) hn (2 ^ ls.length)
  have e : crL ls a b st = bsC ls a b st (2 ^ ls.length) := by unfold crL; rw [if_pos ⟨h0, by omega⟩]
  rw [e]
  refine bst_congr (fun s => ?_) h1
  constructor
  · rintro ⟨m, hm, ho, rfl⟩
    obtain ⟨q1, q2⟩ := (tmO_iff h0).1 ho
    exact ⟨msC m, q1, q2, by unfold tmL; rw [if_pos (li_iff.2 q1)]⟩
  · rintro ⟨c, q1, q2, rfl⟩
    obtain ⟨m, hm, hc⟩ := ms_ex c ls.length
    have hcc : ∀ i, 0 < i → i < ls.length → msC m i = c i := fun i _ hi => hc i hi
    have hat := (fr_congr (ls := ls) (b := b) (st := st) ls.length hcc).2
    have q3 : ∀ i, i < ls.length → 0 ≤ atC ls b st (msC m) i := fun i hi => by rw [hat i hi]; exact q1 i hi
    refine ⟨m, hm, (tmO_iff h0).2 ⟨q3, fun i hi => by rw [dvI_congr hcc (i + 1) (by omega)]; exact q2 i hi⟩, ?_⟩
    unfold tmL
    rw [if_pos (li_iff.2 q3)]
    exact (lsF_congr fun i hi => hat i hi).symm
theorem crF_iff {ls : List Lg} {a b st : Int} (h0 : crE ls a b st = 0) (hn : 0 < ls.length) : crF ls a b st = if crL ls a b st = [] then 15 else 0 := by
  have e : crL ls a b st = bsC ls a b st (2 ^ ls.length) := by unfold crL; rw [if_pos ⟨h0, by omega⟩]
  rw [e]
  unfold crF
  rw [if_pos h0, if_neg (by omega)]
end Go.Proofs.Ytoiohkjomcbadaa

namespace Go.Proofs.Ytoiohkjomcbadaa
open Go Sy
set_option linter.unusedVariables false
def nwC (ls : List Lg) (b : Int) (i : Nat) (t d x : Int) : Int := (if 0 < i ∧ b ≤ x - t then 0 else d) + (gl ls i).mi
def tryC (ls : List Lg) (a b : Int) (rec : List Int → List Int → Int → Int → List Int) (B ts : List Int) (t d fr : Int) : List Int :=
  if 0 ≤ fstW (gl ls ts.length).mi fr (gl ls ts.length).ws ∧ nwC ls b ts.length t d (fstW (gl ls ts.length).mi fr (gl ls ts.length).ws) ≤ a then rec B (ts ++ [fstW (gl ls ts.length).mi fr (gl ls ts.length).ws]) (fstW (gl ls ts.length).mi fr (gl ls ts.length).ws + (gl ls ts.length).mi) (nwC ls b ts.length t d (fstW (gl ls ts.length).mi fr (gl ls ts.length).ws)) else B
def goC (ls : List Lg) (a b : Int) : Nat → List Int → List Int → Int → Int → List Int
  | 0, B, ts, _, _ => if B = [] ∨ bfC ts B < 0 then ts else B
  | k + 1, B, ts, t, d => if 0 < ts.length then tryC ls a b (goC ls a b k) (tryC ls a b (goC ls a b k) B ts t d t) ts t d (t + b) else tryC ls a b (goC ls a b k) B ts t d t
def Cnt (ls : List Lg) (a b : Int) : Nat → List Int → Int → Int → List Int → Prop
  | 0, ts, _, _, s => s = ts
  | k + 1, ts, t, d, s => ∃ x, ((x = fstW (gl ls ts.length).mi t (gl ls ts.length).ws) ∨ (0 < ts.length ∧ x = fstW (gl ls ts.length).mi (t + b) (gl ls ts.length).ws)) ∧ 0 ≤ x ∧ nwC ls b ts.length t d x ≤ a ∧ Cnt ls a b k (ts ++ [x]) (x + (gl ls ts.length).mi) (nwC ls b ts.length t d x) s
theorem cnt_len {ls : List Lg} {a b : Int} : ∀ (k : Nat) (ts : List Int) (t d : Int) (s : List Int), Cnt ls a b k ts t d s → s.length = ts.length + k
  | 0, ts, t, d, s, h => by have h : s = ts := h; rw [h]; rfl
  | k + 1, ts, t, d, s, ⟨x, _, _, _, h⟩ => by rw [cnt_len k _ _ _ _ h, List.length_append, List.length_singleton]; omega
theorem goC_best {ls : List Lg} {a b : Int} (h0 : 0 < ls.length) : ∀ (k : Nat) (B ts : List Int) (t d : Int) (S : List Int → Prop), ts.length + k = ls.length → (∀ s, S s → s.length = ls.length) → Bst S B → Bst (fun s => S s ∨ Cnt ls a b k ts t d s) (goC ls a b k B ts t d)
  | 0, B, ts, t, d, S, hl, hS, hB => bst_step hS h0 hB (by omega)
  | k + 1, B, ts, t, d, S, hl, hS, hB => by
    have key : ∀ (fr : Int) (B : List Int) (S : List Int → Prop), (∀ s, S s → s.length = ls.length) → Bst S B →
        Bst (fun s => S s ∨ (0 ≤ fstW (gl ls ts.length).mi fr (gl ls ts.length).ws ∧ nwC ls b ts.length t d (fstW (gl ls ts.length).mi fr (gl ls ts.length).ws) ≤ a ∧ Cnt ls a b k (ts ++ [fstW (gl ls ts.length).mi fr (gl ls ts.length).ws]) (fstW (gl ls ts.length).mi fr (gl ls ts.length).ws + (gl ls ts.length).mi) (nwC ls b ts.length t d (fstW (gl ls ts.length).mi fr (gl ls ts.length).ws)) s)) (tryC ls a b (goC ls a b k) B ts t d fr) := fun fr B S hS hB => by
      unfold tryC
      generalize fstW (gl ls ts.length).mi fr (gl ls ts.length).ws = x
      by_cases q : 0 ≤ x ∧ nwC ls b ts.length t d x ≤ a
      · rw [if_pos q]
        refine bst_congr (fun s => ?_) (goC_best h0 k B (ts ++ [x]) (x + (gl ls ts.length).mi) (nwC ls b ts.length t d x) S (by rw [List.length_append, List.length_singleton]; omega) hS hB)
        exact ⟨fun z => z.imp id fun w => ⟨q.1, q.2, w⟩, fun z => z.imp id fun w => w.2.2⟩
      · rw [if_neg q]
        refine bst_congr (fun s => ⟨.inl, fun z => z.elim id fun w => absurd ⟨w.1, w.2.1⟩ q⟩) hB
    have h1 := key t B S hS hB
    have hS1 : ∀ s, (S s ∨ (0 ≤ fstW (gl ls ts.length).mi t (gl ls ts.length).ws ∧ nwC ls b ts.length t d (fstW (gl ls ts.length).mi t (gl ls ts.length).ws) ≤ a ∧ Cnt ls a b k (ts ++ [fstW (gl ls ts.length).mi t (gl ls ts.length).ws]) (fstW (gl ls ts.length).mi t (gl ls ts.length).ws + (gl ls ts.length).mi) (nwC ls b ts.length t d (fstW (gl ls ts.length).mi t (gl ls ts.length).ws)) s)) → s.length = ls.length := fun s hs => by
      rcases hs with hs | ⟨_, _, hs⟩
      · exact hS s hs
      · rw [cnt_len _ _ _ _ _ hs, List.length_append, List.length_singleton]; omega
    show Bst _ (if 0 < ts.length then _ else _)
    by_cases q : 0 < ts.length
    · rw [if_pos q]
      refine bst_congr (fun s => ?_) (key (t + b) _ _ hS1 h1)
      constructor
      · rintro ((hs | ⟨h1, h2, h3⟩) | ⟨h1, h2, h3⟩)
        · exact .inl hs
        · exact .inr ⟨_, .inl rfl, h1, h2, h3⟩
        · exact .inr ⟨_, .inr ⟨q, rfl⟩, h1, h2, h3⟩
      · rintro (hs | ⟨x, rfl | ⟨_, rfl⟩, h1, h2, h3⟩)
        · exact .inl (.inl hs)
        · exact .inl (.inr ⟨h1, h2, h3⟩)
        · exact .inr ⟨h1, h2, h3⟩
    · rw [if_neg q]
      refine bst_congr (fun s => ?_) h1
      constructor
      · rintro (hs | ⟨h1, h2, h3⟩)
        · exact .inl hs
        · exact .inr ⟨_, .inl rfl, h1, h2, h3⟩
      · rintro (hs | ⟨x, rfl | ⟨q2, rfl⟩, h1, h2, h3⟩)
        · exact .inl hs
        · exact .inr ⟨h1, h2, h3⟩
        · exact absurd q2 q
theorem lsF_succ (n : Nat) (f : Nat → Int) : lsF (n + 1) f = lsF n f ++ [f n] := by unfold lsF; rw [List.range_succ, List.map_append]; rfl
theorem cnt_alw {ls : List Lg} {a b st : Int} : ∀ (k i : Nat), i + k = ls.length → ∀ (c : Nat → Bool) (s : List Int), Cnt ls a b k (lsF i (atC ls b st c)) (frC ls b st c i) (dvI ls b st c i) s → (∀ j, j < i → 0 ≤ atC ls b st c j) → (∀ j, j < i → dvI ls b st c (j + 1) ≤ a) → AlwC ls a b st s
  | 0, i, hi, c, s, hs, h1, h2 => by
    have hs : s = lsF i (atC ls b st c) := hs
    obtain rfl : i = ls.length := by omega
    exact ⟨c, h1, h2, hs⟩
  | k + 1, i, hi, c, s, ⟨x, hx, h0, hn, hs⟩, h1, h2 => by
    rw [lsF_len] at hx hn hs
    obtain ⟨r, hr, hxr⟩ : ∃ r : Bool, (r = true → 0 < i) ∧ x = fstW (gl ls i).mi (if r = true then frC ls b st c i + b else frC ls b st c i) (gl ls i).ws := by
      rcases hx with hx | ⟨q, hx⟩
      · exact ⟨false, fun q => (by cases q), hx⟩
      · exact ⟨true, fun _ => q, hx⟩
    obtain ⟨c1, hc1⟩ : ∃ c1 : Nat → Bool, c1 = fun j => if j = i then r else c j := ⟨_, rfl⟩
    have hcc : ∀ j, 0 < j → j < i → c j = c1 j := fun j _ hj => by rw [hc1]; exact (if_neg (by omega)).symm
    have hci : c1 i = r := by rw [hc1]; exact if_pos rfl
    obtain ⟨f1, f2⟩ := fr_congr (ls := ls) (b := b) (st := st) i hcc
    have hx1 : atC ls b st c1 i = x := by
      show stC ls b c1 i (frC ls b st c1 i) = x
      unfold stC
      rw [← f1, hci, hxr]
      cases r
      · rw [if_neg (fun q => by cases q.2), if_neg (by decide)]
      · rw [if_pos ⟨hr rfl, rfl⟩, if_pos rfl]
    have hd : ∀ j, j ≤ i → dvI ls b st c j = dvI ls b st c1 j := fun j => by
      induction j with
      | zero => intro _; rfl
      | succ j ih =>
        intro hj
        have g1 := (fr_congr (ls := ls) (b := b) (st := st) j fun k h0 hk => hcc k h0 (by omega)).1
        show (if 0 < j ∧ b ≤ atC ls b st c j - frC ls b st c j then 0 else dvI ls b st c j) + (gl ls j).mi = (if 0 < j ∧ b ≤ atC ls b st c1 j - frC ls b st c1 j then 0 else dvI ls b st c1 j) + (gl ls j).mi
        rw [ih (by omega), g1, f2 j (by omega)]
    have hd1 : dvI ls b st c1 (i + 1) = nwC ls b i (frC ls b st c i) (dvI ls b st c i) x := by
      show (if 0 < i ∧ b ≤ atC ls b st c1 i - frC ls b st c1 i then 0 else dvI ls b st c1 i) + (gl ls i).mi = _
      rw [hx1, ← f1, ← hd i (Nat.le_refl _)]
      rfl
    refine cnt_alw k (i + 1) (by omega) c1 s ?_ (fun j hj => ?_) (fun j hj => ?_)
    · rw [hd1, lsF_succ, hx1, ← lsF_congr (f := atC ls b st c) fun j hj => f2 j hj]
      have e : frC ls b st c1 (i + 1) = x + (gl ls i).mi := by
        show atC ls b st c1 i + (gl ls i).mi = _
        rw [hx1]
      rw [e]
      exact hs
    · rcases Nat.lt_or_ge j i with q | q
      · rw [← f2 j q]; exact h1 j q
      · obtain rfl : j = i := by omega
        rw [hx1]; exact h0
    · rcases Nat.lt_or_ge j i with q | q
      · rw [← hd (j + 1) (by omega)]; exact h2 j q
      · obtain rfl : j = i := by omega
        rw [hd1]; exact hn
theorem alw_cnt {ls : List Lg} {a b st : Int} {c : Nat → Bool} (h1 : ∀ j, j < ls.length → 0 ≤ atC ls b st c j) (h2 : ∀ j, j < ls.length → dvI ls b st c (j + 1) ≤ a) : ∀ (k i : Nat), i + k = ls.length → Cnt ls a b k (lsF i (atC ls b st c)) (frC ls b st c i) (dvI ls b st c i) (lsF ls.length (atC ls b st c))
  | 0, i, hi => by
    obtain rfl : i = ls.length := by omega
    rfl
  | k + 1, i, hi => by
    refine ⟨atC ls b st c i, ?_, h1 i (by omega), ?_, ?_⟩
    · rw [lsF_len]
      by_cases q : 0 < i ∧ c i = true
      · refine .inr ⟨q.1, ?_⟩
        show stC ls b c i (frC ls b st c i) = _
        unfold stC
        rw [if_pos q]
      · refine .inl ?_
        show stC ls b c i (frC ls b st c i) = _
        unfold stC
        rw [if_neg q]
    · rw [lsF_len]; exact h2 i (by omega)
    · rw [lsF_len, ← lsF_succ]
      exact alw_cnt h1 h2 k (i + 1) (by omega)
theorem goC_crL {ls : List Lg} {a b st : Int} (h0 : crE ls a b st = 0) (hn : 0 < ls.length) : goC ls a b ls.length [] [] st 0 = crL ls a b st := by
  have hb : Bst (fun _ => False) [] := ⟨.inl rfl, fun s hs => hs.elim⟩
  have h1 := goC_best (a := a) (b := b) hn ls.length [] [] st 0 (fun _ => False) (by simp) (fun s hs => hs.elim) hb
  have h2 : Bst (AlwC ls a b st) (goC ls a b ls.length [] [] st 0) := by
    refine bst_congr (fun s => ⟨fun hs => ?_, fun hs => ?_⟩) h1
    · rcases hs with hs | hs
      · exact hs.elim
      · exact cnt_alw ls.length 0 (by omega) (fun _ => false) s hs (fun j hj => absurd hj (Nat.not_lt_zero j)) (fun j hj => absurd hj (Nat.not_lt_zero j))
    · obtain ⟨c, q1, q2, rfl⟩ := hs
      exact .inr (alw_cnt q1 q2 ls.length 0 (by omega))
  exact bst_uniq (fun s hs => alw_len hs) hn h2 (crL_best h0 hn)
theorem goC_len {ls : List Lg} {a b : Int} : ∀ (k : Nat) (B ts : List Int) (t d : Int), ts.length + k = ls.length → (B = [] ∨ B.length = ls.length) → goC ls a b k B ts t d = [] ∨ (goC ls a b k B ts t d).length = ls.length
  | 0, B, ts, t, d, hl, hB => by
    show (if _ then ts else B) = [] ∨ (if _ then ts else B).length = _
    split
    · exact .inr (by omega)
    · exact hB
  | k + 1, B, ts, t, d, hl, hB => by
    have key : ∀ (fr : Int) (B : List Int), (B = [] ∨ B.length = ls.length) → tryC ls a b (goC ls a b k) B ts t d fr = [] ∨ (tryC ls a b (goC ls a b k) B ts t d fr).length = ls.length := fun fr B hB => by
      unfold tryC
      split
      · exact goC_len k _ _ _ _ (by rw [List.length_append, List.length_singleton]; omega) hB
      · exact hB
    rw [show goC ls a b (k + 1) B ts t d = if 0 < ts.length then tryC ls a b (goC ls a b k) (tryC ls a b (goC ls a b k) B ts t d t) ts t d (t + b) else tryC ls a b (goC ls a b k) B ts t d t from rfl]
    split
    · exact key _ _ (key _ _ hB)
    · exact key _ _ hB
end Go.Proofs.Ytoiohkjomcbadaa

namespace Go.Proofs.Ytoiohkjomcbadaa
open Go Sy
set_option maxRecDepth 100000
set_option maxHeartbeats 4000000
set_option linter.unusedVariables false
set_option linter.unusedSimpArgs false
theorem bq_l {k s : Nat} (h : k < s) : (k == s) = false := beq_eq_false_iff_ne.2 (by omega)
theorem bq_r {k s : Nat} (h : s < k) : (k == s) = false := beq_eq_false_iff_ne.2 (by omega)
theorem ls_l {k s : Nat} {m : Mem} {b : Blk} (h : k < s) : lm (setm m s b) k = lm m k := lm_set_other _ _ (by omega)
theorem ls_r {k s : Nat} {m : Mem} {b : Blk} (h : s < k) : lm (setm m s b) k = lm m k := lm_set_other _ _ (by omega)
theorem finN_of_finO {rv : List RV} {T n : Nat} {α : Type} {d : α} {F : α → List AV} {l : List α} (hp : ∀ x ∈ l, pureAll (F x) = true) : ∀ e s, FinO rv T n d F l e s → FinN rv (.sl n d F l) e s := fun e s q => by
  have key : ∀ k st, lm s.mem k = some (.row st T n d F l) → pack ([AV.row k st].map (view (lm s.mem) 4)) = .sl n d F l ∧ newL (lm s.mem) [AV.row k st] := fun k st h => by
    refine ⟨by simp only [List.map_cons, List.map_nil, view, h, if_true, pack], ⟨?_, trivial⟩⟩
    simp only [newB, h]
    exact hp
  cases e with
  | e id => exact q.elim
  | n => obtain ⟨k, st, h1, h2⟩ := q; exact ⟨_, h1, key k st h2⟩
  | r => obtain ⟨k, st, h1, h2⟩ := q; exact ⟨_, h1, key k st h2⟩
theorem w80 (l : List Int) (hl : l.length ≤ 1000000) : W Try.prog 8 Xn80_0 (init [aI l]) (FinO [.t 2] 2 1 0 cI l) := by
  repeat (first | refine WK_go ?_ | refine W_seqL ?_ | refine W_seq ?_ | refine W_block ?_)
  refine W_regL ?_
  (refine sy1 ?_; try exact True.intro)
  repeat (first | refine WK_go ?_ | refine W_seqL ?_ | refine W_seq ?_ | refine W_block ?_)
  refine W_regX [1] ?_
  simp (maxSteps := 400000) (disch := omega) only [push_cast, ↓reduceIte, reduceCtorEq, Nat.reduceAdd, Nat.reduceSub, Nat.reduceEqDiff, Nat.reduceLeDiff, Nat.reduceLT, Nat.reduceBEq, Nat.reduceDiv, Nat.reduceMod, Nat.reducePow, Nat.reduceMul, Int.reduceToNat, Int.reduceLT, Int.reduceLE, chainX, SpM, List.take_succ_cons, List.take_zero, List.drop_succ_cons, List.drop_zero]
  refine ⟨[], rfl, 1, Int, 0, cI, l, rfl, fun b hb => ?_⟩
  (refine sy1 ?_; try exact True.intro)
  cases b
  · refine W_cond (by rfl) (fun h => by cases h) (fun _ => ?_)
    repeat' (first | refine w1g ?_ | refine w1l ?_ | refine w1q ?_ | refine w1b ?_ | refine w1p ?_ | ((first | refine w1r ?_ | refine w1k ?_ | refine w1e ?_); (refine sy1 ?_; try exact True.intro)) | refine an2 ?_ | fail)
    refine ⟨rfl, trivial, Int, 0, cI, [], rfl, by omega, fun x _ => ⟨rfl, rfl⟩, rfl, ?_⟩
    (refine sy1 ?_; try exact True.intro)
    refine ⟨rfl, ⟨Nat.le_of_ble_eq_true rfl, rfl⟩, trivial, l, rfl, by first | omega | (simp; omega), by first | omega | (simp; omega), ?_⟩
    (refine sy1 ?_; try exact True.intro)
    exact W_ret ⟨_, _, ⟨rfl, rfl⟩, rfl⟩
  · refine W_cond (by rfl) (fun _ => ?_) (fun h => by cases h)
    have e : l = [] := by
      cases l with
      | nil => rfl
      | cons x r => have := hb (by simp); cases this
    subst e
    repeat' (first | refine w1g ?_ | refine w1l ?_ | refine w1q ?_ | refine w1b ?_ | refine w1p ?_ | ((first | refine w1r ?_ | refine w1k ?_ | refine w1e ?_); (refine sy1 ?_; try exact True.intro)) | refine an2 ?_ | fail)
    refine W_le (le_adopt 2 2 1 0 cI (by omega) rfl) ?_
    (refine sy1 ?_; try exact True.intro)
    exact W_ret ⟨_, _, ⟨rfl, rfl⟩, rfl⟩
theorem fw80 (l : List Int) (hl : l.length ≤ 1000000) : FnN Try.prog 80 [aI l] (aI l) :=
  FnN_of_W mixed Xt80 rfl (W_mono' (w80 l hl) (finN_of_finO fun x _ => rfl))
def mG (ls : List Lg) (a b st : Int) (B : List Int) : Mem := [(10, .cells [aL ls, iv a, iv b, iv st]), (20, .cells [slN B]), (21, .cells [.cq 78 [] [.fp [aL ls] 0, .own 20 0, .fp [iv b] 0, .fp [iv a] 0, .own 21 0]])]
theorem mG_bas (ls : List Lg) (a b st : Int) (B : List Int) : Bas 60 (mG ls a b st B) := bas_of rfl
abbrev i78P (ls : List Lg) (a b st : Int) (k : Nat) : Prop := ∀ (ts : List Int) (t d : Int) (B : List Int), ts.length + k = ls.length → (B = [] ∨ B.length = ls.length) → (0 ≤ t ∧ t ≤ 1099511648000) → (0 ≤ d ∧ d ≤ 10080) →
  ∀ (tm : List (Nat × AV)) (R : Mem) (nx kt st1 : Nat), Opq 60 R nx → 60 ≤ kt → kt < nx → lm R kt = some (.row st1 2 1 0 cI ts) → Inl Try.prog 78 [.row kt st1, iv t, iv d, .fp [aL ls] 0, .own 20 0, .fp [iv b] 0, .fp [iv a] 0, .own 21 0] ⟨tm, mG ls a b st B ++ R, nx⟩ (MidX 60 tm nx R fun r B' => r = pack [] ∧ B' = mG ls a b st (goC ls a b k B ts t d))
theorem i81 {ls : List Lg} {a b st : Int} (h : OkC ls a b st) {k : Nat} (ih : i78P ls a b st k) (ts : List Int) (t d fr : Int) (B : List Int) (hl : ts.length + (k + 1) = ls.length) (hB : B = [] ∨ B.length = ls.length) (ht : 0 ≤ t ∧ t ≤ 1099511648000) (hd : 0 ≤ d ∧ d ≤ 10080) (hf : 0 ≤ fr ∧ fr ≤ 1099511698000)
    {tm : List (Nat × AV)} {R : Mem} {nx ki kt st1 : Nat} (hR : Opq 60 R nx) (hk : ki < nx) (hki : lm R ki = some (.cells [iv ts.length])) (hk0 : 60 ≤ ki) (hk2 : 60 ≤ kt) (hkt : kt < nx) (hkr1 : lm R kt = some (.row st1 2 1 0 cI ts)) :
    Inl Try.prog 81 [iv fr, .fp [aL ls] 0, .own ki 0, .fp [iv d] 0, .fp [iv t] 0, .fp [iv b] 0, .fp [iv a] 0, .own 21 0, .fq [.row kt st1] 0] ⟨tm, mG ls a b st B ++ R, nx⟩ (MidX 60 tm nx R fun r B' => r = pack [] ∧ B' = mG ls a b st (tryC ls a b (goC ls a b k) B ts t d fr)) := by
  refine Inl_opqE mixed Xt81 rfl hR (mG_bas ls a b st B) (fun R' nx' hR' hlt hE => ?_)
  have hkt' : lm R' kt = some (.row st1 2 1 0 cI ts) := (hE kt hkt).trans hkr1
  have hN := hR'.n
  have hkr : lm R' ki = some (.cells [iv ts.length]) := (hE ki hk).trans hki
  have hi : ts.length < ls.length := by omega
  have hm := h.m _ hi
  have hw := h.w _ hi
  have hn := h.n
  have hra := h.ra
  have hrb := h.rb
  have c64 := fn64 (gl ls ts.length).ws (gl ls ts.length).mi fr (by omega) (h.k _ hi) ⟨by omega, by omega⟩ ⟨by omega, by omega⟩
  have hgl : ls.getD ts.length dLg = gl ls ts.length := rfl
  have hV : fstV (gl ls ts.length).mi fr (gl ls ts.length).ws = if 0 ≤ fstW (gl ls ts.length).mi fr (gl ls ts.length).ws then fstW (gl ls ts.length).mi fr (gl ls ts.length).ws else 0 := rfl
  have hX : fstW (gl ls ts.length).mi fr (gl ls ts.length).ws = -1 ∨ (0 ≤ fstW (gl ls ts.length).mi fr (gl ls ts.length).ws ∧ fstW (gl ls ts.length).mi fr (gl ls ts.length).ws ≤ 1099511627776) := by
    rcases fst_fit (mi := (gl ls ts.length).mi) (fr := fr) (h.k _ hi) (Int.le_refl 0) (by omega) with q | q
    · exact .inl q
    · exact .inr (fit_rng (h.k _ hi) (by omega) (fitB_iff.2 q.2.2))
  have hT : tryC ls a b (goC ls a b k) B ts t d fr = if 0 ≤ fstW (gl ls ts.length).mi fr (gl ls ts.length).ws ∧ nwC ls b ts.length t d (fstW (gl ls ts.length).mi fr (gl ls ts.length).ws) ≤ a then goC ls a b k B (ts ++ [fstW (gl ls ts.length).mi fr (gl ls ts.length).ws]) (fstW (gl ls ts.length).mi fr (gl ls ts.length).ws + (gl ls ts.length).mi) (nwC ls b ts.length t d (fstW (gl ls ts.length).mi fr (gl ls ts.length).ws)) else B := rfl
  have hnw : ∀ x, nwC ls b ts.length t d x = (if 0 < ts.length ∧ b ≤ x - t then 0 else d) + (gl ls ts.length).mi := fun x => rfl
  rw [hT]
  clear hT
  generalize hG : goC ls a b k = GO at *
  rw [hV] at c64
  generalize fstW (gl ls ts.length).mi fr (gl ls ts.length).ws = x at *
  obtain ⟨nw, hnx⟩ : ∃ nw, nw = nwC ls b ts.length t d x := ⟨_, rfl⟩
  have hnw := hnw x
  rw [← hnx] at hnw ⊢
  have hnr : 0 ≤ nw ∧ nw ≤ 20160 := by rw [hnw]; split <;> omega
  generalize (gl ls ts.length) = g at *
  obtain ⟨y, hy⟩ : ∃ y, y = if 0 ≤ x then x else 0 := ⟨_, rfl⟩
  rw [← hy] at c64
  have hyr : 0 ≤ y ∧ y ≤ 1099511627776 := by rw [hy]; split <;> omega
  obtain ⟨KK, hKK⟩ : ∃ KK : AV → Mem → Prop, KK = fun r B' => r = pack [] ∧ B' = mG ls a b st (if 0 ≤ x ∧ nw ≤ a then GO B (ts ++ [x]) (x + g.mi) nw else B) := ⟨_, rfl⟩
  rw [← hKK]
  simp (maxSteps := 400000) (disch := omega) only [push_cast, ↓reduceIte, reduceCtorEq, Nat.reduceAdd, Nat.reduceSub, Nat.reduceEqDiff, Nat.reduceLeDiff, Nat.reduceLT, Nat.reduceBEq, Nat.reduceDiv, Nat.reduceMod, Nat.reducePow, Nat.reduceMul, Int.reduceToNat, Int.reduceLT, Int.reduceLE, initT, mG, List.cons_append, List.nil_append]
  repeat' (first | refine w1g ?_ | refine w1l ?_ | refine w1q ?_ | refine w1b ?_ | refine w1p ?_ | ((first | refine w1r ?_ | refine w1k ?_ | refine w1e ?_ | refine CallC.now (c64) ?_); simp (maxSteps := 400000) (disch := omega) only [push_cast, ↓reduceIte, reduceCtorEq, Nat.reduceAdd, Nat.reduceSub, Nat.reduceEqDiff, Nat.reduceLeDiff, Nat.reduceLT, Nat.reduceBEq, Nat.reduceDiv, Nat.reduceMod, Nat.reducePow, Nat.reduceMul, Int.reduceToNat, Int.reduceLT, Int.reduceLE, ne_l, ne_r, bq_l, bq_r, ls_l, ls_r, lm_set_same, hkr, hgl]) | refine an2 ?_ | fail)
  obtain ⟨c, hc⟩ : ∃ c : Bool, (decide (b ≤ y - t) && decide (0 < (ts.length : Int))) = c := ⟨_, rfl⟩
  rw [hc]
  obtain ⟨d0, hd0⟩ : ∃ d0, d0 = if c = true then 0 else d := ⟨_, rfl⟩
  have hd1 : 0 ≤ d0 ∧ d0 ≤ 10080 := by rw [hd0]; split <;> omega
  have hdn : 0 ≤ x → d0 + g.mi = nw := fun q => by
    rw [if_pos q] at hy
    rw [hd0, hnw, ← hc, hy]
    congr 1
    by_cases z : 0 < ts.length ∧ b ≤ x - t
    · rw [if_pos z, if_pos (by rw [Bool.and_eq_true, decide_eq_true_eq, decide_eq_true_eq]; omega)]
    · rw [if_neg z, if_neg (by rw [Bool.and_eq_true, decide_eq_true_eq, decide_eq_true_eq]; omega)]
  have hcn : (decide (0 ≤ x) && decide (d0 + g.mi ≤ a)) = decide (0 ≤ x ∧ nw ≤ a) := by
    by_cases z : 0 ≤ x
    · rw [hdn z, Bool.eq_iff_iff, Bool.and_eq_true, decide_eq_true_eq, decide_eq_true_eq, decide_eq_true_eq]
    · rw [decide_eq_false z, Bool.false_and]; exact (decide_eq_false (fun q => z q.1)).symm
  clear hnw hc
  cases c
  · refine W_cond (by rfl) (fun h => by cases h) (fun _ => ?_)
    obtain rfl : d0 = d := hd0
    repeat' (first | refine w1g ?_ | refine w1l ?_ | refine w1q ?_ | refine w1b ?_ | refine w1p ?_ | ((first | refine w1r ?_ | refine w1k ?_ | refine w1e ?_); simp (maxSteps := 400000) (disch := omega) only [push_cast, ↓reduceIte, reduceCtorEq, Nat.reduceAdd, Nat.reduceSub, Nat.reduceEqDiff, Nat.reduceLeDiff, Nat.reduceLT, Nat.reduceBEq, Nat.reduceDiv, Nat.reduceMod, Nat.reducePow, Nat.reduceMul, Int.reduceToNat, Int.reduceLT, Int.reduceLE, ne_l, ne_r, bq_l, bq_r, ls_l, ls_r, lm_set_same, hkr, hgl]) | refine an2 ?_ | fail)
    rw [hcn]
    by_cases hok : 0 ≤ x ∧ nw ≤ a
    · rw [decide_eq_true hok]
      refine W_cond (by rfl) (fun _ => ?_) (fun h => by cases h)
      rw [if_pos hok.1] at hy
      subst hy
      rw [hdn hok.1]
      rw [if_pos hok] at hKK
      repeat' (first | refine w1g ?_ | refine w1l ?_ | refine w1q ?_ | refine w1b ?_ | refine w1p ?_ | ((first | refine W_regS 14 (by decide) (by decide) ?_ | refine w1r ?_ | refine w1k ?_ | refine w1e ?_); simp (maxSteps := 400000) (disch := omega) only [push_cast, ↓reduceIte, reduceCtorEq, Nat.reduceAdd, Nat.reduceSub, Nat.reduceEqDiff, Nat.reduceLeDiff, Nat.reduceLT, Nat.reduceBEq, Nat.reduceDiv, Nat.reduceMod, Nat.reducePow, Nat.reduceMul, Int.reduceToNat, Int.reduceLT, Int.reduceLE, ne_l, ne_r, bq_l, bq_r, ls_l, ls_r, lm_set_same, hkr, hgl, hkt']) | refine an2 ?_ | fail)
      refine CallC.row (fo80 ts (by omega)) ?_
      simp (maxSteps := 400000) (disch := omega) only [push_cast, ↓reduceIte, reduceCtorEq, Nat.reduceAdd, Nat.reduceSub, Nat.reduceEqDiff, Nat.reduceLeDiff, Nat.reduceLT, Nat.reduceBEq, Nat.reduceDiv, Nat.reduceMod, Nat.reducePow, Nat.reduceMul, Int.reduceToNat, Int.reduceLT, Int.reduceLE, ne_l, ne_r, bq_l, bq_r, ls_l, ls_r, lm_set_same, hkr, hgl, hkt']
      refine ⟨rfl, trivial, Int, 0, cI, [y], rfl, by omega, fun x _ => ⟨rfl, rfl⟩, rfl, ?_⟩
      simp (maxSteps := 400000) (disch := omega) only [push_cast, ↓reduceIte, reduceCtorEq, Nat.reduceAdd, Nat.reduceSub, Nat.reduceEqDiff, Nat.reduceLeDiff, Nat.reduceLT, Nat.reduceBEq, Nat.reduceDiv, Nat.reduceMod, Nat.reducePow, Nat.reduceMul, Int.reduceToNat, Int.reduceLT, Int.reduceLE, ne_l, ne_r, bq_l, bq_r, ls_l, ls_r, lm_set_same, hkr, hgl, hkt']
      refine ⟨rfl, ⟨by dsimp only; omega, (hasM_iff _ _).2 (by simp (disch := omega) [lm, ne_l, ne_r, ls_l, ls_r, lm_set_same])⟩, trivial, [y], rfl, by first | omega | (simp; omega), by first | omega | (simp; omega), ?_⟩
      simp (maxSteps := 400000) (disch := omega) only [push_cast, ↓reduceIte, reduceCtorEq, Nat.reduceAdd, Nat.reduceSub, Nat.reduceEqDiff, Nat.reduceLeDiff, Nat.reduceLT, Nat.reduceBEq, Nat.reduceDiv, Nat.reduceMod, Nat.reducePow, Nat.reduceMul, Int.reduceToNat, Int.reduceLT, Int.reduceLE, ne_l, ne_r, bq_l, bq_r, ls_l, ls_r, lm_set_same, hkr, hgl, hkt']
      refine ⟨⟨by omega, by omega⟩, ?_⟩
      have hX2 := fun (k1 k2 N2 : Nat) (g1 g2 g3 : Blk) (q1 : nx' ≤ k1) (q2 : nx' ≤ k2) (q3 : k1 < N2) (q4 : k2 < N2) => ((((Ext.refl hR').put (g := g1) q1 q3 (by omega)).put (g := g2) q2 q4 (Nat.le_refl _)).put (g := g3) q1 q3 (Nat.le_refl _))
      refine CallC.inl (Inl_le' (ih (ts ++ [y]) (y + g.mi) nw B (by rw [List.length_append, List.length_singleton]; omega) hB ⟨by omega, by omega⟩ ⟨by omega, by omega⟩ _ _ _ _ _ (Ext.opq (hX2 _ _ _ _ _ _ (by omega) (by omega) (by omega) (by omega)) hR') (by omega) (by omega) (lm_set_same _ _ _)) (fun r s' hs2 => ?_))
      obtain ⟨B', R3, nx3, hB', hX3, ⟨rfl, rfl⟩, hl⟩ := hs2
      refine ⟨_, ?_, hl⟩
      rw [hG]
      (refine sy1 ?_; try exact True.intro)
      exact ⟨[], _, R3, rfl, sameM.refl _, mG_bas _ _ _ _ _, ((hX2 _ _ _ _ _ _ (by omega) (by omega) (by omega) (by omega)).trans hX3).up (by first | omega | (dsimp only; omega)), by rw [hKK]; exact ⟨rfl, rfl⟩⟩
    · rw [decide_eq_false hok]
      refine W_cond (by rfl) (fun h => by cases h) (fun _ => ?_)
      rw [if_neg hok] at hKK
      refine W_skip ?_
      exact ⟨[], _, R', rfl, sameM.refl _, mG_bas ls a b st B, (Ext.refl hR').up (by first | omega | (dsimp only; omega)), by rw [hKK]; exact ⟨rfl, rfl⟩⟩
  · refine W_cond (by rfl) (fun _ => ?_) (fun h => by cases h)
    obtain rfl : d0 = 0 := hd0
    repeat' (first | refine w1g ?_ | refine w1l ?_ | refine w1q ?_ | refine w1b ?_ | refine w1p ?_ | ((first | refine w1r ?_ | refine w1k ?_ | refine w1e ?_); simp (maxSteps := 400000) (disch := omega) only [push_cast, ↓reduceIte, reduceCtorEq, Nat.reduceAdd, Nat.reduceSub, Nat.reduceEqDiff, Nat.reduceLeDiff, Nat.reduceLT, Nat.reduceBEq, Nat.reduceDiv, Nat.reduceMod, Nat.reducePow, Nat.reduceMul, Int.reduceToNat, Int.reduceLT, Int.reduceLE, ne_l, ne_r, bq_l, bq_r, ls_l, ls_r, lm_set_same, hkr, hgl]) | refine an2 ?_ | fail)
    rw [hcn]
    by_cases hok : 0 ≤ x ∧ nw ≤ a
    · rw [decide_eq_true hok]
      refine W_cond (by rfl) (fun _ => ?_) (fun h => by cases h)
      rw [if_pos hok.1] at hy
      subst hy
      rw [hdn hok.1]
      rw [if_pos hok] at hKK
      repeat' (first | refine w1g ?_ | refine w1l ?_ | refine w1q ?_ | refine w1b ?_ | refine w1p ?_ | ((first | refine W_regS 14 (by decide) (by decide) ?_ | refine w1r ?_ | refine w1k ?_ | refine w1e ?_); simp (maxSteps := 400000) (disch := omega) only [push_cast, ↓reduceIte, reduceCtorEq, Nat.reduceAdd, Nat.reduceSub, Nat.reduceEqDiff, Nat.reduceLeDiff, Nat.reduceLT, Nat.reduceBEq, Nat.reduceDiv, Nat.reduceMod, Nat.reducePow, Nat.reduceMul, Int.reduceToNat, Int.reduceLT, Int.reduceLE, ne_l, ne_r, bq_l, bq_r, ls_l, ls_r, lm_set_same, hkr, hgl, hkt']) | refine an2 ?_ | fail)
      refine CallC.row (fo80 ts (by omega)) ?_
      simp (maxSteps := 400000) (disch := omega) only [push_cast, ↓reduceIte, reduceCtorEq, Nat.reduceAdd, Nat.reduceSub, Nat.reduceEqDiff, Nat.reduceLeDiff, Nat.reduceLT, Nat.reduceBEq, Nat.reduceDiv, Nat.reduceMod, Nat.reducePow, Nat.reduceMul, Int.reduceToNat, Int.reduceLT, Int.reduceLE, ne_l, ne_r, bq_l, bq_r, ls_l, ls_r, lm_set_same, hkr, hgl, hkt']
      refine ⟨rfl, trivial, Int, 0, cI, [y], rfl, by omega, fun x _ => ⟨rfl, rfl⟩, rfl, ?_⟩
      simp (maxSteps := 400000) (disch := omega) only [push_cast, ↓reduceIte, reduceCtorEq, Nat.reduceAdd, Nat.reduceSub, Nat.reduceEqDiff, Nat.reduceLeDiff, Nat.reduceLT, Nat.reduceBEq, Nat.reduceDiv, Nat.reduceMod, Nat.reducePow, Nat.reduceMul, Int.reduceToNat, Int.reduceLT, Int.reduceLE, ne_l, ne_r, bq_l, bq_r, ls_l, ls_r, lm_set_same, hkr, hgl, hkt']
      refine ⟨rfl, ⟨by dsimp only; omega, (hasM_iff _ _).2 (by simp (disch := omega) [lm, ne_l, ne_r, ls_l, ls_r, lm_set_same])⟩, trivial, [y], rfl, by first | omega | (simp; omega), by first | omega | (simp; omega), ?_⟩
      simp (maxSteps := 400000) (disch := omega) only [push_cast, ↓reduceIte, reduceCtorEq, Nat.reduceAdd, Nat.reduceSub, Nat.reduceEqDiff, Nat.reduceLeDiff, Nat.reduceLT, Nat.reduceBEq, Nat.reduceDiv, Nat.reduceMod, Nat.reducePow, Nat.reduceMul, Int.reduceToNat, Int.reduceLT, Int.reduceLE, ne_l, ne_r, bq_l, bq_r, ls_l, ls_r, lm_set_same, hkr, hgl, hkt']
      refine ⟨⟨by omega, by omega⟩, ?_⟩
      have hX2 := fun (k1 k2 N2 : Nat) (g1 g2 g3 : Blk) (q1 : nx' ≤ k1) (q2 : nx' ≤ k2) (q3 : k1 < N2) (q4 : k2 < N2) => ((((Ext.refl hR').put (g := g1) q1 q3 (by omega)).put (g := g2) q2 q4 (Nat.le_refl _)).put (g := g3) q1 q3 (Nat.le_refl _))
      refine CallC.inl (Inl_le' (ih (ts ++ [y]) (y + g.mi) nw B (by rw [List.length_append, List.length_singleton]; omega) hB ⟨by omega, by omega⟩ ⟨by omega, by omega⟩ _ _ _ _ _ (Ext.opq (hX2 _ _ _ _ _ _ (by omega) (by omega) (by omega) (by omega)) hR') (by omega) (by omega) (lm_set_same _ _ _)) (fun r s' hs2 => ?_))
      obtain ⟨B', R3, nx3, hB', hX3, ⟨rfl, rfl⟩, hl⟩ := hs2
      refine ⟨_, ?_, hl⟩
      rw [hG]
      (refine sy1 ?_; try exact True.intro)
      exact ⟨[], _, R3, rfl, sameM.refl _, mG_bas _ _ _ _ _, ((hX2 _ _ _ _ _ _ (by omega) (by omega) (by omega) (by omega)).trans hX3).up (by first | omega | (dsimp only; omega)), by rw [hKK]; exact ⟨rfl, rfl⟩⟩
    · rw [decide_eq_false hok]
      refine W_cond (by rfl) (fun h => by cases h) (fun _ => ?_)
      rw [if_neg hok] at hKK
      refine W_skip ?_
      exact ⟨[], _, R', rfl, sameM.refl _, mG_bas ls a b st B, (Ext.refl hR').up (by first | omega | (dsimp only; omega)), by rw [hKK]; exact ⟨rfl, rfl⟩⟩
theorem i78 {ls : List Lg} {a b st : Int} (h : OkC ls a b st) (hn0 : 0 < ls.length) : ∀ k, i78P ls a b st k := by
  intro k
  induction k with
  | zero =>
    intro ts t d B hl hB ht hd tm R nx kt st1 hR hk2 hkt hkr1
    refine Inl_opqE mixed Xt78 rfl hR (mG_bas ls a b st B) (fun R' nx' hR' hlt hE => ?_)
    have hkt' : lm R' kt = some (.row st1 2 1 0 cI ts) := (hE kt hkt).trans hkr1
    have hN := hR'.n
    have hn := h.n
    have hts : ts ≠ [] := fun q => by rw [q] at hl; simp at hl; omega
    have hG : goC ls a b 0 B ts t d = if B = [] ∨ bfC ts B < 0 then ts else B := rfl
    obtain ⟨KK, hKK⟩ : ∃ KK : AV → Mem → Prop, KK = fun r B' => r = pack [] ∧ B' = mG ls a b st (goC ls a b 0 B ts t d) := ⟨_, rfl⟩
    rw [← hKK]
    rw [hG] at hKK
    have e : (((ts.length : Int)) == (ls.length : Int)) = true := by rw [beq_iff_eq]; omega
    have hslt : slN ts = aI ts := by unfold slN; rw [if_neg hts]
    have cN := fw80 ts (by omega)
    simp (maxSteps := 400000) (disch := omega) only [push_cast, ↓reduceIte, reduceCtorEq, Nat.reduceAdd, Nat.reduceSub, Nat.reduceEqDiff, Nat.reduceLeDiff, Nat.reduceLT, Nat.reduceBEq, Nat.reduceDiv, Nat.reduceMod, Nat.reducePow, Nat.reduceMul, Int.reduceToNat, Int.reduceLT, Int.reduceLE, initT, mG, List.cons_append, List.nil_append]
    repeat' (first | refine w1g ?_ | refine w1l ?_ | refine w1q ?_ | refine w1b ?_ | refine w1p ?_ | ((first | refine w1r ?_ | refine w1k ?_ | refine w1e ?_); simp (maxSteps := 400000) (disch := omega) only [push_cast, ↓reduceIte, reduceCtorEq, Nat.reduceAdd, Nat.reduceSub, Nat.reduceEqDiff, Nat.reduceLeDiff, Nat.reduceLT, Nat.reduceBEq, Nat.reduceDiv, Nat.reduceMod, Nat.reducePow, Nat.reduceMul, Int.reduceToNat, Int.reduceLT, Int.reduceLE, ne_l, ne_r, bq_l, bq_r, ls_l, ls_r, lm_set_same, hkt', e]) | refine an2 ?_ | fail)
    refine W_cond (by rfl) (fun _ => ?_) (fun h => by cases h)
    by_cases hB0 : B = []
    · subst hB0
      rw [if_pos (.inl rfl)] at hKK
      rw [show slN [] = .v (.slice none 0 0) from rfl]
      repeat' (first | refine w1g ?_ | refine w1l ?_ | refine w1q ?_ | refine w1b ?_ | refine w1p ?_ | ((first | refine w1r ?_ | refine w1k ?_ | refine w1e ?_); simp (maxSteps := 400000) (disch := omega) only [push_cast, ↓reduceIte, reduceCtorEq, Nat.reduceAdd, Nat.reduceSub, Nat.reduceEqDiff, Nat.reduceLeDiff, Nat.reduceLT, Nat.reduceBEq, Nat.reduceDiv, Nat.reduceMod, Nat.reducePow, Nat.reduceMul, Int.reduceToNat, Int.reduceLT, Int.reduceLE, ne_l, ne_r, bq_l, bq_r, ls_l, ls_r, lm_set_same, hkt']) | refine an2 ?_ | fail)
      refine CallC.go (bv false) (fun hpc => absurd hpc (by simp [pc])) rfl ?_
      simp (maxSteps := 400000) (disch := omega) only [push_cast, ↓reduceIte, reduceCtorEq, Nat.reduceAdd, Nat.reduceSub, Nat.reduceEqDiff, Nat.reduceLeDiff, Nat.reduceLT, Nat.reduceBEq, Nat.reduceDiv, Nat.reduceMod, Nat.reducePow, Nat.reduceMul, Int.reduceToNat, Int.reduceLT, Int.reduceLE, ne_l, ne_r, bq_l, bq_r, ls_l, ls_r, lm_set_same, hkt']
      repeat' (first | refine w1g ?_ | refine w1l ?_ | refine w1q ?_ | refine w1b ?_ | refine w1p ?_ | ((first | refine w1r ?_ | refine w1k ?_ | refine w1e ?_); simp (maxSteps := 400000) (disch := omega) only [push_cast, ↓reduceIte, reduceCtorEq, Nat.reduceAdd, Nat.reduceSub, Nat.reduceEqDiff, Nat.reduceLeDiff, Nat.reduceLT, Nat.reduceBEq, Nat.reduceDiv, Nat.reduceMod, Nat.reducePow, Nat.reduceMul, Int.reduceToNat, Int.reduceLT, Int.reduceLE, ne_l, ne_r, bq_l, bq_r, ls_l, ls_r, lm_set_same, hkt']) | refine an2 ?_ | fail)
      refine W_cond (by rfl) (fun _ => ?_) (fun h => by cases h)
      repeat' (first | refine w1g ?_ | refine w1l ?_ | refine w1q ?_ | refine w1b ?_ | refine w1p ?_ | ((first | refine w1r ?_ | refine w1k ?_ | refine w1e ?_); simp (maxSteps := 400000) (disch := omega) only [push_cast, ↓reduceIte, reduceCtorEq, Nat.reduceAdd, Nat.reduceSub, Nat.reduceEqDiff, Nat.reduceLeDiff, Nat.reduceLT, Nat.reduceBEq, Nat.reduceDiv, Nat.reduceMod, Nat.reducePow, Nat.reduceMul, Int.reduceToNat, Int.reduceLT, Int.reduceLE, ne_l, ne_r, bq_l, bq_r, ls_l, ls_r, lm_set_same, hkt']) | refine an2 ?_ | fail)
      refine CallC.new _ (fun _ => ⟨trivial, cN⟩) ?_
      simp (maxSteps := 400000) (disch := omega) only [push_cast, ↓reduceIte, reduceCtorEq, Nat.reduceAdd, Nat.reduceSub, Nat.reduceEqDiff, Nat.reduceLeDiff, Nat.reduceLT, Nat.reduceBEq, Nat.reduceDiv, Nat.reduceMod, Nat.reducePow, Nat.reduceMul, Int.reduceToNat, Int.reduceLT, Int.reduceLE, ne_l, ne_r, bq_l, bq_r, ls_l, ls_r, lm_set_same, hkt']
      repeat' (first | refine w1g ?_ | refine w1l ?_ | refine w1q ?_ | refine w1b ?_ | refine w1p ?_ | ((first | refine w1r ?_ | refine w1k ?_ | refine w1e ?_); simp (maxSteps := 400000) (disch := omega) only [push_cast, ↓reduceIte, reduceCtorEq, Nat.reduceAdd, Nat.reduceSub, Nat.reduceEqDiff, Nat.reduceLeDiff, Nat.reduceLT, Nat.reduceBEq, Nat.reduceDiv, Nat.reduceMod, Nat.reducePow, Nat.reduceMul, Int.reduceToNat, Int.reduceLT, Int.reduceLE, ne_l, ne_r, bq_l, bq_r, ls_l, ls_r, lm_set_same, hkt']) | refine an2 ?_ | fail)
      refine W_ret ?_
      exact ⟨[], mG ls a b st ts, _, rfl, (by unfold mG; rw [hslt]; exact sameM.refl _), mG_bas ls a b st ts, (((Ext.refl hR').put (nx2 := nx' + 8) (by omega) (by omega) (by omega)).up (by first | omega | (dsimp only; omega))), by rw [hKK]; exact ⟨rfl, rfl⟩⟩
    · have hBl : B.length = ls.length := hB.resolve_left hB0
      have c79 := fn79 ts B (by omega) (by omega) (by omega)
      have hslB : slN B = aI B := by unfold slN; rw [if_neg hB0]
      rw [hslB]
      repeat (first | refine WK_go ?_ | refine W_seqL ?_ | refine W_seq ?_ | refine W_block ?_)
      refine W_regX [1] ?_
      simp (maxSteps := 400000) (disch := omega) only [push_cast, ↓reduceIte, reduceCtorEq, Nat.reduceAdd, Nat.reduceSub, Nat.reduceEqDiff, Nat.reduceLeDiff, Nat.reduceLT, Nat.reduceBEq, Nat.reduceDiv, Nat.reduceMod, Nat.reducePow, Nat.reduceMul, Int.reduceToNat, Int.reduceLT, Int.reduceLE, chainX, SpM, List.take_succ_cons, List.take_zero, List.drop_succ_cons, List.drop_zero]
      refine ⟨[], rfl, 1, Int, 0, cI, B, rfl, fun b0 hb0 => ?_⟩
      obtain rfl : b0 = false := hb0 (List.length_pos_iff.2 hB0)
      simp (maxSteps := 400000) (disch := omega) only [push_cast, ↓reduceIte, reduceCtorEq, Nat.reduceAdd, Nat.reduceSub, Nat.reduceEqDiff, Nat.reduceLeDiff, Nat.reduceLT, Nat.reduceBEq, Nat.reduceDiv, Nat.reduceMod, Nat.reducePow, Nat.reduceMul, Int.reduceToNat, Int.reduceLT, Int.reduceLE, ne_l, ne_r, bq_l, bq_r, ls_l, ls_r, lm_set_same, hkt']
      refine CallC.go (bv (decide (bfC ts B < 0))) (fun _ => ⟨trivial, c79⟩) rfl ?_
      simp (maxSteps := 400000) (disch := omega) only [push_cast, ↓reduceIte, reduceCtorEq, Nat.reduceAdd, Nat.reduceSub, Nat.reduceEqDiff, Nat.reduceLeDiff, Nat.reduceLT, Nat.reduceBEq, Nat.reduceDiv, Nat.reduceMod, Nat.reducePow, Nat.reduceMul, Int.reduceToNat, Int.reduceLT, Int.reduceLE, ne_l, ne_r, bq_l, bq_r, ls_l, ls_r, lm_set_same, hkt']
      by_cases hbf : bfC ts B < 0
      · rw [if_pos (.inr hbf)] at hKK
        rw [decide_eq_true hbf]
        refine W_cond (by rfl) (fun _ => ?_) (fun h => by cases h)
        repeat' (first | refine w1g ?_ | refine w1l ?_ | refine w1q ?_ | refine w1b ?_ | refine w1p ?_ | ((first | refine w1r ?_ | refine w1k ?_ | refine w1e ?_); simp (maxSteps := 400000) (disch := omega) only [push_cast, ↓reduceIte, reduceCtorEq, Nat.reduceAdd, Nat.reduceSub, Nat.reduceEqDiff, Nat.reduceLeDiff, Nat.reduceLT, Nat.reduceBEq, Nat.reduceDiv, Nat.reduceMod, Nat.reducePow, Nat.reduceMul, Int.reduceToNat, Int.reduceLT, Int.reduceLE, ne_l, ne_r, bq_l, bq_r, ls_l, ls_r, lm_set_same, hkt']) | refine an2 ?_ | fail)
        refine CallC.new _ (fun _ => ⟨trivial, cN⟩) ?_
        simp (maxSteps := 400000) (disch := omega) only [push_cast, ↓reduceIte, reduceCtorEq, Nat.reduceAdd, Nat.reduceSub, Nat.reduceEqDiff, Nat.reduceLeDiff, Nat.reduceLT, Nat.reduceBEq, Nat.reduceDiv, Nat.reduceMod, Nat.reducePow, Nat.reduceMul, Int.reduceToNat, Int.reduceLT, Int.reduceLE, ne_l, ne_r, bq_l, bq_r, ls_l, ls_r, lm_set_same, hkt']
        repeat' (first | refine w1g ?_ | refine w1l ?_ | refine w1q ?_ | refine w1b ?_ | refine w1p ?_ | ((first | refine w1r ?_ | refine w1k ?_ | refine w1e ?_); simp (maxSteps := 400000) (disch := omega) only [push_cast, ↓reduceIte, reduceCtorEq, Nat.reduceAdd, Nat.reduceSub, Nat.reduceEqDiff, Nat.reduceLeDiff, Nat.reduceLT, Nat.reduceBEq, Nat.reduceDiv, Nat.reduceMod, Nat.reducePow, Nat.reduceMul, Int.reduceToNat, Int.reduceLT, Int.reduceLE, ne_l, ne_r, bq_l, bq_r, ls_l, ls_r, lm_set_same, hkt']) | refine an2 ?_ | fail)
        refine W_ret ?_
        exact ⟨[], mG ls a b st ts, _, rfl, (by unfold mG; rw [hslt]; exact sameM.refl _), mG_bas ls a b st ts, (((Ext.refl hR').put (nx2 := nx' + 8) (by omega) (by omega) (by omega)).up (by first | omega | (dsimp only; omega))), by rw [hKK]; exact ⟨rfl, rfl⟩⟩
      · rw [if_neg (fun q => q.elim hB0 hbf)] at hKK
        rw [decide_eq_false hbf]
        refine W_cond (by rfl) (fun h => by cases h) (fun _ => ?_)
        repeat' (first | refine w1g ?_ | refine w1l ?_ | refine w1q ?_ | refine w1b ?_ | refine w1p ?_ | ((first | refine w1r ?_ | refine w1k ?_ | refine w1e ?_); simp (maxSteps := 400000) (disch := omega) only [push_cast, ↓reduceIte, reduceCtorEq, Nat.reduceAdd, Nat.reduceSub, Nat.reduceEqDiff, Nat.reduceLeDiff, Nat.reduceLT, Nat.reduceBEq, Nat.reduceDiv, Nat.reduceMod, Nat.reducePow, Nat.reduceMul, Int.reduceToNat, Int.reduceLT, Int.reduceLE, ne_l, ne_r, bq_l, bq_r, ls_l, ls_r, lm_set_same, hkt']) | refine an2 ?_ | fail)
        refine W_ret ?_
        exact ⟨[], mG ls a b st B, _, rfl, (by unfold mG; rw [hslB]; exact sameM.refl _), mG_bas ls a b st B, (((Ext.refl hR').put (nx2 := nx' + 8) (by omega) (by omega) (by omega)).up (by first | omega | (dsimp only; omega))), by rw [hKK]; exact ⟨rfl, rfl⟩⟩
  | succ k ih =>
    intro ts t d B hl hB ht hd tm R nx kt st1 hR hk2 hkt hkr1
    refine Inl_opqE mixed Xt78 rfl hR (mG_bas ls a b st B) (fun R' nx' hR' hlt hE => ?_)
    have hkt' : lm R' kt = some (.row st1 2 1 0 cI ts) := (hE kt hkt).trans hkr1
    have hN := hR'.n
    have hn := h.n
    have hrb := h.rb
    have hG : goC ls a b (k + 1) B ts t d = if 0 < ts.length then tryC ls a b (goC ls a b k) (tryC ls a b (goC ls a b k) B ts t d t) ts t d (t + b) else tryC ls a b (goC ls a b k) B ts t d t := rfl
    obtain ⟨KK, hKK⟩ : ∃ KK : AV → Mem → Prop, KK = fun r B' => r = pack [] ∧ B' = mG ls a b st (goC ls a b (k + 1) B ts t d) := ⟨_, rfl⟩
    rw [← hKK]
    rw [hG] at hKK
    have e : (((ts.length : Int)) == (ls.length : Int)) = false := by rw [beq_eq_false_iff_ne]; omega
    have hl1 : tryC ls a b (goC ls a b k) B ts t d t = [] ∨ (tryC ls a b (goC ls a b k) B ts t d t).length = ls.length := by
      unfold tryC
      split
      · exact goC_len k _ _ _ _ (by rw [List.length_append, List.length_singleton]; omega) hB
      · exact hB
    have I1 := fun tm R nx ki hR hk hki hk0 hkt2 hkr => i81 h ih ts t d t B (by omega) hB ht hd ⟨by omega, by omega⟩ (tm := tm) (R := R) (nx := nx) (ki := ki) (kt := kt) (st1 := st1) hR hk hki hk0 hk2 hkt2 hkr
    have I2 := fun tm R nx ki hR hk hki hk0 hkt2 hkr => i81 h ih ts t d (t + b) (tryC ls a b (goC ls a b k) B ts t d t) (by omega) hl1 ht hd ⟨by omega, by omega⟩ (tm := tm) (R := R) (nx := nx) (ki := ki) (kt := kt) (st1 := st1) hR hk hki hk0 hk2 hkt2 hkr
    generalize hB1 : tryC ls a b (goC ls a b k) B ts t d t = B1 at *
    generalize hB2 : tryC ls a b (goC ls a b k) B1 ts t d (t + b) = B2 at *
    simp (maxSteps := 400000) (disch := omega) only [push_cast, ↓reduceIte, reduceCtorEq, Nat.reduceAdd, Nat.reduceSub, Nat.reduceEqDiff, Nat.reduceLeDiff, Nat.reduceLT, Nat.reduceBEq, Nat.reduceDiv, Nat.reduceMod, Nat.reducePow, Nat.reduceMul, Int.reduceToNat, Int.reduceLT, Int.reduceLE, initT, mG, List.cons_append, List.nil_append]
    repeat' (first | refine w1g ?_ | refine w1l ?_ | refine w1q ?_ | refine w1b ?_ | refine w1p ?_ | ((first | refine w1r ?_ | refine w1k ?_ | refine w1e ?_); simp (maxSteps := 400000) (disch := omega) only [push_cast, ↓reduceIte, reduceCtorEq, Nat.reduceAdd, Nat.reduceSub, Nat.reduceEqDiff, Nat.reduceLeDiff, Nat.reduceLT, Nat.reduceBEq, Nat.reduceDiv, Nat.reduceMod, Nat.reducePow, Nat.reduceMul, Int.reduceToNat, Int.reduceLT, Int.reduceLE, ne_l, ne_r, bq_l, bq_r, ls_l, ls_r, lm_set_same, hkt', e]) | refine an2 ?_ | fail)
    refine W_cond (by rfl) (fun h => by cases h) (fun _ => ?_)
    repeat' (first | refine w1g ?_ | refine w1l ?_ | refine w1q ?_ | refine w1b ?_ | refine w1p ?_ | ((first | refine w1r ?_ | refine w1k ?_ | refine w1e ?_); simp (maxSteps := 400000) (disch := omega) only [push_cast, ↓reduceIte, reduceCtorEq, Nat.reduceAdd, Nat.reduceSub, Nat.reduceEqDiff, Nat.reduceLeDiff, Nat.reduceLT, Nat.reduceBEq, Nat.reduceDiv, Nat.reduceMod, Nat.reducePow, Nat.reduceMul, Int.reduceToNat, Int.reduceLT, Int.reduceLE, ne_l, ne_r, bq_l, bq_r, ls_l, ls_r, lm_set_same, hkt', e]) | refine an2 ?_ | fail)
    have hX1 := fun (k1 N2 : Nat) (g1 : Blk) (q1 : nx' ≤ k1) (q3 : k1 < N2) => (Ext.refl hR').put (g := g1) q1 q3 (by omega)
    refine CallC.inl (Inl_le' (I1 _ _ _ _ (Ext.opq (hX1 _ _ _ (by omega) (by omega)) hR') (by omega) (lm_set_same _ _ _) (by omega) (by omega) (by rw [lm_set_other _ _ (by omega)]; exact hkt')) (fun r s' hs2 => ?_))
    obtain ⟨B', R3, nx3, hB', hX3, ⟨rfl, rfl⟩, hl⟩ := hs2
    refine ⟨_, ?_, hl⟩
    have hki3 : lm R3 (nx' + 1 + 1 + 1 + 1 + 1) = some (.cells [iv ts.length]) := (hX3.eq _ (by omega)).trans (lm_set_same _ _ _)
    have hkt3 : lm R3 kt = some (.row st1 2 1 0 cI ts) := (hX3.eq _ (by omega)).trans ((lm_set_other _ _ (by omega)).trans hkt')
    have hX4 := (hX1 _ _ _ (by omega) (by omega)).trans hX3
    have hn3 := hX3.n
    clear hX3 hl
    simp (maxSteps := 400000) (disch := omega) only [push_cast, ↓reduceIte, reduceCtorEq, Nat.reduceAdd, Nat.reduceSub, Nat.reduceEqDiff, Nat.reduceLeDiff, Nat.reduceLT, Nat.reduceBEq, Nat.reduceDiv, Nat.reduceMod, Nat.reducePow, Nat.reduceMul, Int.reduceToNat, Int.reduceLT, Int.reduceLE, mG, List.cons_append, List.nil_append]
    repeat' (first | refine w1g ?_ | refine w1l ?_ | refine w1q ?_ | refine w1b ?_ | refine w1p ?_ | ((first | refine w1r ?_ | refine w1k ?_ | refine w1e ?_); simp (maxSteps := 400000) (disch := omega) only [push_cast, ↓reduceIte, reduceCtorEq, Nat.reduceAdd, Nat.reduceSub, Nat.reduceEqDiff, Nat.reduceLeDiff, Nat.reduceLT, Nat.reduceBEq, Nat.reduceDiv, Nat.reduceMod, Nat.reducePow, Nat.reduceMul, Int.reduceToNat, Int.reduceLT, Int.reduceLE, ne_l, ne_r, bq_l, bq_r, ls_l, ls_r, lm_set_same, hki3, hkt3]) | refine an2 ?_ | fail)
    by_cases h0 : 0 < ts.length
    · rw [if_pos h0] at hKK
      rw [show decide (0 < (ts.length : Int)) = true from decide_eq_true (by omega)]
      refine W_cond (by rfl) (fun _ => ?_) (fun h => by cases h)
      repeat' (first | refine w1g ?_ | refine w1l ?_ | refine w1q ?_ | refine w1b ?_ | refine w1p ?_ | ((first | refine w1r ?_ | refine w1k ?_ | refine w1e ?_); simp (maxSteps := 400000) (disch := omega) only [push_cast, ↓reduceIte, reduceCtorEq, Nat.reduceAdd, Nat.reduceSub, Nat.reduceEqDiff, Nat.reduceLeDiff, Nat.reduceLT, Nat.reduceBEq, Nat.reduceDiv, Nat.reduceMod, Nat.reducePow, Nat.reduceMul, Int.reduceToNat, Int.reduceLT, Int.reduceLE, ne_l, ne_r, bq_l, bq_r, ls_l, ls_r, lm_set_same, hki3, hkt3]) | refine an2 ?_ | fail)
      refine CallC.inl (Inl_le' (I2 _ _ _ _ (Ext.opq (hX4.up ?_) hR') (by omega) hki3 (by omega) (by omega) hkt3) (fun r s' hs2 => ?_))
      rotate_left
      · obtain ⟨B', R5, nx5, hB', hX5, ⟨rfl, rfl⟩, hl⟩ := hs2
        refine ⟨_, ?_, hl⟩
        (refine sy1 ?_; try exact True.intro)
        exact ⟨[], _, R5, rfl, sameM.refl _, mG_bas ls a b st B2, ((hX4.up (by omega)).trans hX5).up (by first | omega | (dsimp only; omega)), by rw [hKK]; exact ⟨rfl, rfl⟩⟩
      · omega
    · rw [if_neg h0] at hKK
      rw [show decide (0 < (ts.length : Int)) = false from decide_eq_false (by omega)]
      refine W_cond (by rfl) (fun h => by cases h) (fun _ => ?_)
      refine W_skip ?_
      exact ⟨[], mG ls a b st B1, R3, rfl, (by unfold mG; exact sameM.refl _), mG_bas ls a b st B1, hX4.up (by first | omega | (dsimp only; omega)), by rw [hKK]; exact ⟨rfl, rfl⟩⟩
end Go.Proofs.Ytoiohkjomcbadaa

namespace Go.Proofs.Ytoiohkjomcbadaa
open Go Sy
set_option maxRecDepth 100000
set_option maxHeartbeats 4000000
set_option linter.unusedVariables false
set_option linter.unusedSimpArgs false
theorem fn35 (ls : List Lg) (a b st : Int) (hl : ls.length ≤ 140737488355328) (hw : ∀ x ∈ ls, x.ws.length ≤ 140737488355328) : Sy.Fn Try.prog 35 [aL ls, iv a, iv b, iv st] (.tup [aI (crL ls a b st), iv (crF ls a b st)]) := by
  refine Fn_of_W mixed Xt35 rfl ?_
  have c74 := fn74 ls a b st hl hw
  have eL : crL ls a b st = if crE ls a b st = 0 ∧ ls.length ≠ 0 then bsC ls a b st (2 ^ ls.length) else [] := rfl
  have eF : crF ls a b st = if crE ls a b st = 0 then (if ls.length = 0 then 0 else if bsC ls a b st (2 ^ ls.length) = [] then 15 else 0) else crE ls a b st := rfl
  by_cases h0 : crE ls a b st = 0
  rotate_left
  · rw [eL, eF, if_neg (fun q => h0 q.1), if_neg h0]
    generalize crE ls a b st = E at *
    repeat' (first | refine w1g ?_ | refine w1l ?_ | refine w1q ?_ | refine w1b ?_ | refine w1p ?_ | ((first | refine w1r ?_ | refine w1k ?_ | refine w1e ?_ | refine CallC.now (c74) ?_); (refine sy1 ?_; try exact True.intro)) | refine an2 ?_ | fail)
    refine W_cond (by rfl) (fun _ => ?_) (fun h => absurd (by simpa using h) h0)
    repeat' (first | refine w1g ?_ | refine w1l ?_ | refine w1q ?_ | refine w1b ?_ | refine w1p ?_ | ((first | refine w1r ?_ | refine w1k ?_ | refine w1e ?_); (refine sy1 ?_; try exact True.intro)) | refine an2 ?_ | fail)
    refine W_le (le_nil 8 1 0 cI rfl) ?_
    exact W_ret ⟨[_, _], ⟨rfl, rfl, rfl⟩, rfl⟩
  have h := crE_ok h0
  rw [h0] at c74
  repeat' (first | refine w1g ?_ | refine w1l ?_ | refine w1q ?_ | refine w1b ?_ | refine w1p ?_ | ((first | refine w1r ?_ | refine w1k ?_ | refine w1e ?_ | refine CallC.now (c74) ?_); (refine sy1 ?_; try exact True.intro)) | refine an2 ?_ | fail)
  refine W_cond (by rfl) (fun h => by cases h) (fun _ => ?_)
  repeat' (first | refine w1g ?_ | refine w1l ?_ | refine w1q ?_ | refine w1b ?_ | refine w1p ?_ | ((first | refine w1r ?_ | refine w1k ?_ | refine w1e ?_); (refine sy1 ?_; try exact True.intro)) | refine an2 ?_ | fail)
  by_cases hz : ls.length = 0
  · rw [eL, eF, if_neg (fun q => q.2 hz), if_pos h0, if_pos hz, show ((ls.length : Int) == 0) = true by rw [hz]; rfl]
    refine W_cond (by rfl) (fun _ => ?_) (fun h => by cases h)
    repeat' (first | refine w1g ?_ | refine w1l ?_ | refine w1q ?_ | refine w1b ?_ | refine w1p ?_ | ((first | refine w1r ?_ | refine w1k ?_ | refine w1e ?_); (refine sy1 ?_; try exact True.intro)) | refine an2 ?_ | fail)
    refine W_le (le_nil 8 1 0 cI rfl) ?_
    exact W_ret ⟨[_, _], ⟨rfl, rfl, rfl⟩, rfl⟩
  rw [show ((ls.length : Int) == 0) = false from beq_eq_false_iff_ne.2 (by omega)]
  have hn0 : 0 < ls.length := by omega
  have hs := h.s
  have hI := i78 h hn0 ls.length [] st 0 [] (by simp) (.inl rfl) ⟨by omega, by omega⟩ ⟨by omega, by omega⟩
  rw [goC_crL h0 hn0] at hI
  have hF := crF_iff h0 hn0
  generalize hX : crL ls a b st = X at *
  generalize hY : crF ls a b st = Y at *
  clear eL eF hX hY
  refine W_cond (by rfl) (fun h => by cases h) (fun _ => ?_)
  repeat' (first | refine w1g ?_ | refine w1l ?_ | refine w1q ?_ | refine w1b ?_ | refine w1p ?_ | ((first | refine w1r ?_ | refine w1k ?_ | refine w1e ?_); (refine sy1 ?_; try exact True.intro)) | refine an2 ?_ | fail)
  refine CallC.inl (Inl_sameM (mG ls a b st []) 60 (sameM.refl _) (mG_bas ls a b st []) (Inl_adopt 2 1 0 cI (by omega) (Inl_sameM (mG ls a b st [] ++ [(60, .row 0 2 1 0 cI [])]) 61 (fun k => (by have := sm_push (R := []) (g := .row 0 2 1 0 cI ([] : List Int)) (mG_bas ls a b st []) (Nat.le_refl 60) k; rw [List.append_nil] at this; exact this.symm)) (((opq_nil 60).push _).mem (mG_bas ls a b st [])) (Inl_le' (hI _ _ _ _ _ ((opq_nil 60).push _) (Nat.le_refl 60) (Nat.lt_succ_self 60) rfl) (fun r s' hs2 => ?_)))))
  obtain ⟨B', R3, nx3, hB', hX3, ⟨rfl, rfl⟩, hl2⟩ := hs2
  refine ⟨_, ?_, hl2⟩
  clear hl2 hI
  by_cases hX0 : X = []
  · subst hX0
    rw [if_pos rfl] at hF
    subst hF
    have hsl0 : slN [] = .v (.slice none 0 0) := rfl
    simp (maxSteps := 400000) (disch := omega) only [push_cast, ↓reduceIte, reduceCtorEq, Nat.reduceAdd, Nat.reduceSub, Nat.reduceEqDiff, Nat.reduceLeDiff, Nat.reduceLT, Nat.reduceBEq, Nat.reduceDiv, Nat.reduceMod, Nat.reducePow, Nat.reduceMul, Int.reduceToNat, Int.reduceLT, Int.reduceLE, mG, List.cons_append, List.nil_append, hsl0]
    repeat' (first | refine w1g ?_ | refine w1l ?_ | refine w1q ?_ | refine w1b ?_ | refine w1p ?_ | ((first | refine w1r ?_ | refine w1k ?_ | refine w1e ?_); simp (maxSteps := 400000) (disch := omega) only [push_cast, ↓reduceIte, reduceCtorEq, Nat.reduceAdd, Nat.reduceSub, Nat.reduceEqDiff, Nat.reduceLeDiff, Nat.reduceLT, Nat.reduceBEq, Nat.reduceDiv, Nat.reduceMod, Nat.reducePow, Nat.reduceMul, Int.reduceToNat, Int.reduceLT, Int.reduceLE, hsl0]) | refine an2 ?_ | fail)
    refine W_cond (by rfl) (fun _ => ?_) (fun h => by cases h)
    repeat' (first | refine w1g ?_ | refine w1l ?_ | refine w1q ?_ | refine w1b ?_ | refine w1p ?_ | ((first | refine w1r ?_ | refine w1k ?_ | refine w1e ?_); (refine sy1 ?_; try exact True.intro)) | refine an2 ?_ | fail)
    refine W_le (le_nil 8 1 0 cI rfl) ?_
    exact W_ret ⟨[_, _], ⟨rfl, rfl, rfl⟩, rfl⟩
  · rw [if_neg hX0] at hF
    subst hF
    have hslX : slN X = aI X := by unfold slN; rw [if_neg hX0]
    simp (maxSteps := 400000) (disch := omega) only [push_cast, ↓reduceIte, reduceCtorEq, Nat.reduceAdd, Nat.reduceSub, Nat.reduceEqDiff, Nat.reduceLeDiff, Nat.reduceLT, Nat.reduceBEq, Nat.reduceDiv, Nat.reduceMod, Nat.reducePow, Nat.reduceMul, Int.reduceToNat, Int.reduceLT, Int.reduceLE, mG, List.cons_append, List.nil_append, hslX]
    repeat (first | refine WK_go ?_ | refine W_seqL ?_ | refine W_seq ?_ | refine W_block ?_)
    refine W_regX [1] ?_
    simp (maxSteps := 400000) (disch := omega) only [push_cast, ↓reduceIte, reduceCtorEq, Nat.reduceAdd, Nat.reduceSub, Nat.reduceEqDiff, Nat.reduceLeDiff, Nat.reduceLT, Nat.reduceBEq, Nat.reduceDiv, Nat.reduceMod, Nat.reducePow, Nat.reduceMul, Int.reduceToNat, Int.reduceLT, Int.reduceLE, chainX, SpM, List.take_succ_cons, List.take_zero, List.drop_succ_cons, List.drop_zero]
    refine ⟨[], rfl, 1, Int, 0, cI, X, rfl, fun b0 hb0 => ?_⟩
    obtain rfl : b0 = false := hb0 (List.length_pos_iff.2 hX0)
    (refine sy1 ?_; try exact True.intro)
    refine W_cond (by rfl) (fun h => by cases h) (fun _ => ?_)
    repeat' (first | refine w1g ?_ | refine w1l ?_ | refine w1q ?_ | refine w1b ?_ | refine w1p ?_ | ((first | refine w1r ?_ | refine w1k ?_ | refine w1e ?_); (refine sy1 ?_; try exact True.intro)) | refine an2 ?_ | fail)
    exact W_ret ⟨[_, _], ⟨rfl, rfl, rfl⟩, rfl⟩
end Go.Proofs.Ytoiohkjomcbadaa

namespace Go.Proofs.Ytoiohkjomcbadaa
open Go Sy
set_option linter.unusedVariables false
theorem ck_len {ls : List Lg} {a b st : Int} {l : List Int} (h : ckE ls a b st l = 0) : crE ls a b st = 0 ∧ l.length = ls.length := by
  unfold ckE at h
  by_cases q : crE ls a b st = 0
  · rw [if_pos q] at h
    by_cases z : l.length = ls.length
    · exact ⟨q, z⟩
    · rw [if_neg z] at h; cases h
  · rw [if_neg q] at h; exact absurd h q
theorem ck_zero {ls : List Lg} {a b st : Int} {l : List Int} (h0 : crE ls a b st = 0) (hl : l.length = ls.length) : ckE ls a b st l = 0 ↔ (∀ i, i < ls.length → peC ls st l i ≤ gi l i ∧ fitW (gl ls i).mi (gi l i) (gl ls i).ws) ∧ ∀ i, i < ls.length → dvC ls b l (i + 1) ≤ a := by
  unfold ckE
  rw [if_pos h0, if_pos hl]
  have e1 : (∀ i, i < ls.length → b1C ls st l i = false) ↔ (∀ i, i < ls.length → peC ls st l i ≤ gi l i ∧ fitW (gl ls i).mi (gi l i) (gl ls i).ws) := by
    refine forall_congr' fun i => forall_congr' fun hi => ?_
    unfold b1C
    rw [Bool.or_eq_false_iff, decide_eq_false_iff_not, Bool.not_eq_false', fitB_iff]
    exact ⟨fun q => ⟨by omega, q.2⟩, fun q => ⟨by omega, q.2⟩⟩
  have e2 : (∀ i, i < ls.length → b2C ls a b l i = false) ↔ ∀ i, i < ls.length → dvC ls b l (i + 1) ≤ a := by
    refine forall_congr' fun i => forall_congr' fun hi => ?_
    unfold b2C
    rw [decide_eq_false_iff_not]
    omega
  rw [← e1, ← e2, ← fst_neg, ← fst_neg]
  by_cases q1 : 0 ≤ fstI (b1C ls st l) ls.length
  · rw [if_pos q1]
    exact ⟨fun z => (by cases z), fun z => absurd q1 z.1⟩
  · rw [if_neg q1]
    by_cases q2 : 0 ≤ fstI (b2C ls a b l) ls.length
    · rw [if_pos q2]
      exact ⟨fun z => (by cases z), fun z => absurd q2 z.2⟩
    · rw [if_neg q2]
      exact ⟨fun _ => ⟨q1, q2⟩, fun _ => rfl⟩
theorem pe_up {ls : List Lg} {st st' : Int} (h : st' ≤ st) (l : List Int) (i : Nat) : peC ls st' l i ≤ peC ls st l i := by
  unfold peC
  split
  · exact h
  · exact Int.le_refl _
theorem pe_pos {ls : List Lg} (st st' : Int) (l : List Int) {i : Nat} (h : 0 < i) : peC ls st' l i = peC ls st l i := by
  unfold peC
  rw [if_neg (by omega), if_neg (by omega)]
theorem ck_dom {ls : List Lg} {a b st : Int} {l : List Int} (h : ckE ls a b st l = 0) : ∃ s, AlwC ls a b st s ∧ ∀ i, i < ls.length → gi s i ≤ gi l i := by
  obtain ⟨h0, hl⟩ := ck_len h
  obtain ⟨h1, h2⟩ := (ck_zero h0 hl).1 h
  have hok := crE_ok h0
  have hrb := hok.rb
  obtain ⟨c, hc⟩ : ∃ c : Nat → Bool, c = fun i => decide (b ≤ gi l i - peC ls 0 l i) := ⟨_, rfl⟩
  have key : ∀ i, i ≤ ls.length → (∀ j, j < i → 0 ≤ atC ls b st c j ∧ atC ls b st c j ≤ gi l j) ∧ frC ls b st c i ≤ peC ls st l i ∧ dvI ls b st c i ≤ dvC ls b l i := fun i => by
    induction i with
    | zero =>
      intro _
      exact ⟨fun j hj => absurd hj (Nat.not_lt_zero j), Int.le_refl _, Int.le_refl _⟩
    | succ i ih =>
      intro hi
      obtain ⟨k1, k2, k3⟩ := ih (by omega)
      obtain ⟨p1, p2⟩ := h1 i (by omega)
      have hm := hok.m i (by omega)
      have hle : (if 0 < i ∧ c i = true then frC ls b st c i + b else frC ls b st c i) ≤ gi l i := by
        split
        · rename_i q
          have q2 := q.2
          rw [hc] at q2
          have q2 := of_decide_eq_true q2
          rw [pe_pos st 0 l q.1] at q2
          omega
        · omega
      obtain ⟨f1, f2⟩ := fst_least (mi := (gl ls i).mi) (hok.k i (by omega)) (Int.le_refl 0) (by omega) hle p2
      have f3 := fst_fit (mi := (gl ls i).mi) (fr := (if 0 < i ∧ c i = true then frC ls b st c i + b else frC ls b st c i)) (hok.k i (by omega)) (Int.le_refl 0) (by omega)
      have e : atC ls b st c i = fstW (gl ls i).mi (if 0 < i ∧ c i = true then frC ls b st c i + b else frC ls b st c i) (gl ls i).ws := rfl
      rw [← e] at f1 f2 f3
      refine ⟨fun j hj => ?_, ?_, ?_⟩
      · rcases Nat.lt_or_ge j i with q | q
        · exact k1 j q
        · obtain rfl : j = i := by omega
          exact ⟨f1, f2⟩
      · show atC ls b st c i + (gl ls i).mi ≤ peC ls st l (i + 1)
        unfold peC
        rw [if_neg (by omega), Nat.add_sub_cancel]
        omega
      · show (if 0 < i ∧ b ≤ atC ls b st c i - frC ls b st c i then 0 else dvI ls b st c i) + (gl ls i).mi ≤ (if 0 < i ∧ b ≤ gi l i - peC ls 0 l i then 0 else dvC ls b l i) + (gl ls i).mi
        have hd := (dvC_rng hok l i (by omega)).1
        by_cases q : 0 < i ∧ b ≤ gi l i - peC ls 0 l i
        · have hci : c i = true := by rw [hc]; exact decide_eq_true q.2
          rw [if_pos ⟨q.1, hci⟩] at f3
          rw [if_pos q, if_pos ⟨q.1, by omega⟩]
          exact Int.le_refl _
        · rw [if_neg q]
          split <;> omega
  obtain ⟨k1, _, _⟩ := key ls.length (Nat.le_refl _)
  refine ⟨lsF ls.length (atC ls b st c), ⟨c, fun i hi => (k1 i hi).1, fun i hi => ?_, rfl⟩, fun i hi => ?_⟩
  · have := (key (i + 1) (by omega)).2.2
    have := h2 i hi
    omega
  · rw [lsF_get hi]; exact (k1 i hi).2
theorem lx_lt : ∀ {l m : List Int} {i : Nat}, l.length = m.length → i < l.length → (∀ k, k < i → gi l k ≤ gi m k) → gi l i < gi m i → lxC l m < 0
  | [], _, i, _, h, _, _ => by simp at h
  | x :: l, [], i, h, _, _, _ => by simp at h
  | x :: l, y :: m, 0, hl, hi, hk, h => by
    have h : x < y := h
    show (if cmI x y = 0 then lxC l m else cmI x y) < 0
    have e1 := cm_eq x y
    have e2 := cm_lt x y
    rw [if_neg (fun q => by have := e1.1 q; omega), e2]
    exact h
  | x :: l, y :: m, i + 1, hl, hi, hk, h => by
    have h : gi l i < gi m i := h
    have hx : x ≤ y := hk 0 (by omega)
    show (if cmI x y = 0 then lxC l m else cmI x y) < 0
    have e1 := cm_eq x y
    have e2 := cm_lt x y
    by_cases q : x = y
    · rw [if_pos (e1.2 q)]
      exact lx_lt (by simpa using hl) (by simpa using hi) (fun k z => hk (k + 1) (by omega)) h
    · rw [if_neg (fun z => q (e1.1 z)), e2]
      omega
theorem ck_best {ls : List Lg} {a b st : Int} {l : List Int} (hn : 0 < ls.length) (h : ckE ls a b st l = 0) : crL ls a b st ≠ [] ∧ gi (crL ls a b st) (ls.length - 1) ≤ gi l (ls.length - 1) ∧
    (gi (crL ls a b st) (ls.length - 1) = gi l (ls.length - 1) → ∀ i, i < ls.length → (∀ k, k < i → gi (crL ls a b st) k = gi l k) → gi (crL ls a b st) i ≤ gi l i) := by
  obtain ⟨h0, hl⟩ := ck_len h
  obtain ⟨s, hs, hd⟩ := ck_dom h
  have hb := crL_best h0 hn
  obtain ⟨b1, b2⟩ := hb.le s hs
  have hml : (crL ls a b st).length = ls.length := by
    rcases hb.mem with q | q
    · exact absurd q b1
    · exact alw_len q
  have hsl := alw_len hs
  generalize crL ls a b st = m at *
  unfold bfC at b2
  rw [hsl] at b2
  have e1 := cm_eq (gi s (ls.length - 1)) (gi m (ls.length - 1))
  have e2 := cm_lt (gi s (ls.length - 1)) (gi m (ls.length - 1))
  have d1 := hd (ls.length - 1) (by omega)
  refine ⟨b1, ?_, fun he i hi hk => ?_⟩
  · by_cases q : gi s (ls.length - 1) = gi m (ls.length - 1)
    · omega
    · rw [if_neg (fun z => q (e1.1 z))] at b2
      omega
  · by_cases q : gi s (ls.length - 1) = gi m (ls.length - 1)
    · rw [if_pos (e1.2 q)] at b2
      refine Int.not_lt.1 fun z => b2 (lx_lt (i := i) (by omega) (by omega) (fun k w => ?_) ?_)
      · rw [hk k w]; exact hd k (by omega)
      · have := hd i hi; omega
    · rw [if_neg (fun z => q (e1.1 z)), e2] at b2
      omega
theorem cr_ok {ls : List Lg} {a b st : Int} (hn : 0 < ls.length) (h0 : crE ls a b st = 0) (h : crL ls a b st ≠ []) : ckE ls a b st (crL ls a b st) = 0 := by
  rcases (crL_best h0 hn).mem with q | ⟨c, q1, q2, q3⟩
  · exact absurd q h
  · have := (tmO_iff (c := c) h0).2 ⟨q1, q2⟩
    unfold tmO at this
    rw [Bool.and_eq_true, decide_eq_true_eq] at this
    rw [q3]
    exact this.2
theorem cr_len {ls : List Lg} {a b st : Int} (h : crL ls a b st ≠ []) : (crL ls a b st).length = ls.length := by
  unfold crL at h ⊢
  split at h
  · rename_i q
    rw [if_pos q]
    exact (bsC_len ls a b st (2 ^ ls.length)).resolve_left h
  · exact absurd rfl h
theorem cr_mono {ls : List Lg} {a b st a' b' st' : Int} (h0 : crE ls a b st = 0) (ha : a ≤ a' ∧ a' ≤ 10080) (hb : 1 ≤ b' ∧ b' ≤ b) (hs : 0 ≤ st' ∧ st' ≤ st) : crE ls a' b' st' = 0 := by
  have h := crE_ok h0
  unfold crE at h0 ⊢
  by_cases q1 : (decide (12 < ls.length) || ls.any wlB) = true
  · rw [if_pos q1] at h0; cases h0
  rw [if_neg q1] at h0 ⊢
  by_cases q2 : (!inR a 1 10080 || !inR b 1 10080 || ls.any (lgB a)) = true
  · rw [if_pos q2] at h0; cases h0
  have q3 : ¬ (!inR a' 1 10080 || !inR b' 1 10080 || ls.any (lgB a')) = true := by
    rw [Bool.not_eq_true, Bool.or_eq_false_iff, Bool.or_eq_false_iff] at q2 ⊢
    obtain ⟨⟨z1, z2⟩, z3⟩ := q2
    have ra := h.ra
    have rb := h.rb
    have hin : ∀ x lo hi : Int, inR x lo hi = true ↔ lo ≤ x ∧ x ≤ hi := fun x lo hi => by unfold inR; rw [Bool.and_eq_true, decide_eq_true_eq, decide_eq_true_eq]
    refine ⟨⟨?_, ?_⟩, ?_⟩
    · rw [Bool.not_eq_false', hin]; omega
    · rw [Bool.not_eq_false', hin]; omega
    · rw [List.any_eq_false] at z3 ⊢
      intro x hx
      have := z3 x hx
      unfold lgB at this ⊢
      rw [Bool.not_eq_true, Bool.or_eq_false_iff, Bool.not_eq_false', hin] at this
      rw [Bool.not_eq_true, Bool.or_eq_false_iff, Bool.not_eq_false', hin]
      exact ⟨by omega, this.2⟩
  have hin : inR st' 0 1099511627776 = true := by
    have := h.s
    unfold inR
    rw [Bool.and_eq_true, decide_eq_true_eq, decide_eq_true_eq]
    omega
  rw [if_neg q3, if_pos hin]
theorem ck_mono {ls : List Lg} {a b st a' b' st' : Int} {l : List Int} (h : ckE ls a b st l = 0) (ha : a ≤ a' ∧ a' ≤ 10080) (hb : 1 ≤ b' ∧ b' ≤ b) (hs : 0 ≤ st' ∧ st' ≤ st) : ckE ls a' b' st' l = 0 := by
  obtain ⟨h0, hl⟩ := ck_len h
  have h0' := cr_mono h0 ha hb hs
  have hok := crE_ok h0
  obtain ⟨h1, h2⟩ := (ck_zero h0 hl).1 h
  refine (ck_zero h0' hl).2 ⟨fun i hi => ?_, fun i hi => ?_⟩
  · have := h1 i hi
    have := pe_up (ls := ls) hs.2 l i
    exact ⟨by omega, (h1 i hi).2⟩
  · have key : ∀ i, i ≤ ls.length → dvC ls b' l i ≤ dvC ls b l i := fun i => by
      induction i with
      | zero => intro _; exact Int.le_refl _
      | succ i ih =>
        intro hi
        have ih := ih (by omega)
        have hd := (dvC_rng hok l i (by omega)).1
        show (if 0 < i ∧ b' ≤ gi l i - peC ls 0 l i then 0 else dvC ls b' l i) + (gl ls i).mi ≤ (if 0 < i ∧ b ≤ gi l i - peC ls 0 l i then 0 else dvC ls b l i) + (gl ls i).mi
        split <;> split <;> omega
    have := key (i + 1) (by omega)
    have := h2 i hi
    omega
end Go.Proofs.Ytoiohkjomcbadaa

namespace Go.Proofs.Ytoiohkjomcbadaa
open Go Sy
set_option maxRecDepth 100000
set_option maxHeartbeats 4000000
set_option linter.unusedVariables false
set_option linter.unusedSimpArgs false
end Go.Proofs.Ytoiohkjomcbadaa

namespace Go.Proofs.Ytoiohkjomcbadaa
open Go Sy
set_option maxRecDepth 100000
set_option maxHeartbeats 4000000
set_option linter.unusedVariables false
set_option linter.unusedSimpArgs false
theorem hv_ok {ls : List Lg} (h : hvB ls = false) : ls.length ≤ 20 ∧ ∀ x ∈ ls, x.ws.length ≤ 40 := by
  unfold hvB at h
  rw [Bool.or_eq_false_iff, Bool.or_eq_false_iff, decide_eq_false_iff_not, List.any_eq_false] at h
  refine ⟨by omega, fun x hx => ?_⟩
  have := h.2 x hx
  rw [decide_eq_true_eq] at this
  omega
end Go.Proofs.Ytoiohkjomcbadaa

