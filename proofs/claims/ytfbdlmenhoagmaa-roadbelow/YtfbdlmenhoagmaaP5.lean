/- Whatever proof is accepted, no route that is possible costs less than it proves; the even proof is accepted, and proves just the cost of the cheapest route if no work helps twice; maps of at most 12 places, 30 roads and 5 works; at most 60 shares. -/
import Derived.Test.YtfbdlmenhoagmaaP4
import Derived.Test.YtfbdlmenhoagmaaRows
import Derived.ShutString
namespace Go.Proofs.Ytfbdlmenhoagmaa
open Go Sy
set_option maxRecDepth 100000
set_option maxHeartbeats 8000000
set_option linter.unusedVariables false
set_option linter.unusedSimpArgs false
theorem fn39 (m : Mp) (f : Nat → Int) (fr to : Int) (hm : Gm m) : Sy.Fn Try.prog 39 [aM m, .agg (c6 f), iv fr, iv to] (.tup [.agg (bnV m f fr to), iv (chE m f fr to)]) := by
  refine Fn_of_W mixed Xt39 rfl ?_
  have c15 := fn15 m f fr to hm
  have hz : chE m f fr to = 0 → ∃ p, chV m f fr to = some p ∧ opE m f = 0 ∧ plB m.n fr = true ∧ plB m.n to = true := fun q => by
    unfold chE at q
    by_cases h0 : opE m f = 0
    · rw [if_pos h0] at q
      by_cases hp : plB m.n fr = true ∧ plB m.n to = true
      · rw [if_pos hp] at q
        have e1 : chV m f fr to = bestS m f fr to := by unfold chV; rw [if_pos h0, if_pos hp]
        rcases hb : bestS m f fr to with _ | p
        · rw [hb] at q; cases q
        · exact ⟨p, by rw [e1, hb], h0, hp.1, hp.2⟩
      · rw [if_neg hp] at q; cases q
    · rw [if_neg h0] at q; exact absurd q h0
  by_cases hE : chE m f fr to = 0
  rotate_left
  · have e1 : bnV m f fr to = [.v (.slice none 0 0), .v (.slice none 0 0)] := by unfold bnV; rw [if_neg hE]
    rw [e1]
    rcases hv : chV m f fr to with _ | ⟨s, n⟩
    · rw [hv] at c15
      have c15 : Sy.Fn Try.prog 15 [aM m, .agg (c6 f), iv fr, iv to] (.tup [.agg zRt, iv (chE m f fr to)]) := c15
      unfold zRt at c15
      generalize chE m f fr to = e at *
      repeat' (first | refine w1g ?_ | refine w1l ?_ | refine w1q ?_ | refine w1b ?_ | refine w1p ?_ | ((first | refine w1r ?_ | refine w1k ?_ | refine w1e ?_ | refine CallC.now (c15) ?_); (refine sy1 ?_; try exact True.intro)) | refine an2 ?_ | fail)
      refine W_cond (by rfl) (fun h => ?_) (fun h => ?_)
      · repeat' (first | refine w1g ?_ | refine w1l ?_ | refine w1q ?_ | refine w1b ?_ | refine w1p ?_ | ((first | refine w1r ?_ | refine w1k ?_ | refine w1e ?_); (refine sy1 ?_; try exact True.intro)) | refine an2 ?_ | fail)
        exact W_ret ⟨[_, _], ⟨⟨by simp, rfl⟩, rfl, rfl⟩, rfl⟩
      · exact absurd (by simpa using h) hE
    · exfalso
      unfold chV at hv
      unfold chE at hE
      by_cases h0 : opE m f = 0
      · rw [if_pos h0] at hv hE
        by_cases hp : plB m.n fr = true ∧ plB m.n to = true
        · rw [if_pos hp] at hv hE
          rw [hv] at hE
          exact hE rfl
        · rw [if_neg hp] at hv; cases hv
      · rw [if_neg h0] at hv; cases hv
  obtain ⟨⟨s, n⟩, hv, h0, hp1, hp2⟩ := hz hE
  have e1 : bnV m f fr to = cBd (evA m f m.ws.length) (bnH m f fr to) := by unfold bnV; rw [if_pos hE]
  rw [e1, hE]
  rw [hv, hE] at c15
  have c15 : Sy.Fn Try.prog 15 [aM m, .agg (c6 f), iv fr, iv to] (.tup [.agg (cRt (wayS m f fr to s) s n (minL m (wayS m f fr to s))), iv 0]) := c15
  unfold cRt at c15
  have hchk : chkM m = 0 ∧ szE f = 0 := by
    unfold opE at h0
    by_cases q : chkM m = 0
    · rw [if_pos q] at h0; exact ⟨q, h0⟩
    · rw [if_neg q] at h0; exact absurd h0 q
  have hok := chkM_ok hchk.1
  have hmn := hok.n
  have hnw := hok.nw
  have hnr := hok.nr
  have hpr : (0 ≤ fr ∧ fr < m.n) ∧ (0 ≤ to ∧ to < m.n) := by
    unfold plB at hp1 hp2
    simp only [Bool.and_eq_true, decide_eq_true_eq] at hp1 hp2
    omega
  have hv0 := evA_v (f := f) hok
  have hPl := Nat.le_trans (evA_len m f m.ws.length) (Nat.mul_le_mul (Nat.mul_le_mul (Nat.le_refl 6) hnr) hnw)
  unfold cBd
  generalize wayS m f fr to s = WS at *
  repeat' (first | refine w1g ?_ | refine w1l ?_ | refine w1q ?_ | refine w1b ?_ | refine w1p ?_ | ((first | refine w1r ?_ | refine w1k ?_ | refine w1e ?_ | refine CallC.now (c15) ?_); (refine sy1 ?_; try exact True.intro)) | refine an2 ?_ | fail)
  refine W_cond (by rfl) (fun h => by cases h) (fun _ => ?_)
  refine W_skip ?_
  try (refine sy1 ?_; try exact True.intro)
  repeat (first | refine WK_go ?_ | refine W_seqL ?_ | refine W_seq ?_ | refine W_block ?_)
  refine W_regL ?_
  (refine sy1 ?_; try exact True.intro)
  refine ⟨rfl, ?_⟩
  have hbl : List.take 3 (cM m ++ [.v (.int .i64 0), .v (.int .i64 0), .v (.int .i64 0), .v (.int .i64 0), .v (.int .i64 0), .v (.int .i64 0)]) ++ c6 f ++ List.drop 9 (cM m ++ [.v (.int .i64 0), .v (.int .i64 0), .v (.int .i64 0), .v (.int .i64 0), .v (.int .i64 0), .v (.int .i64 0)]) = cAt m f := rfl
  rw [hbl]
  repeat (first | refine WK_go ?_ | refine W_seqL ?_ | refine W_seq ?_ | refine W_block ?_)
  refine W_regL ?_
  (refine sy1 ?_; try exact True.intro)
  repeat (first | refine WK_go ?_ | refine W_seqL ?_ | refine W_seq ?_ | refine W_block ?_)
  refine W_regX [0] ?_
  simp (maxSteps := 400000) (disch := omega) only [push_cast, ↓reduceIte, reduceCtorEq, Nat.reduceAdd, Nat.reduceSub, Nat.reduceEqDiff, Nat.reduceLeDiff, Nat.reduceLT, Nat.reduceBEq, Nat.reduceDiv, Nat.reduceMod, Nat.reducePow, Nat.reduceMul, Int.reduceToNat, Int.reduceLT, Int.reduceLE, chainX, SpM, List.take_succ_cons, List.take_zero, List.drop_succ_cons, List.drop_zero]
  refine ⟨[], rfl, rfl, fun b => ?_⟩
  try (refine sy1 ?_; try exact True.intro)
  repeat' (first | refine w1g ?_ | refine w1l ?_ | refine w1q ?_ | refine w1b ?_ | refine w1p ?_ | ((first | refine w1r ?_ | refine w1k ?_ | refine w1e ?_); (refine sy1 ?_; try exact True.intro)) | refine an2 ?_ | fail)
  refine W_le (le_adoptC 23 0 77 4 dP cP (by omega) _ rfl rfl (by simp)) ?_
  (refine sy1 ?_; try exact True.intro)
  refine W_loopU (fun w : Nat => [(45, iv w)]) (fun w => [(23, .cells [.row 31 (evA m f w).length, .v (.slice none 0 0)]), (31, .row (evA m f w).length 77 4 dP cP (evA m f w)), (25, .oth (.mp b 3 (gP (evA m f w))))]) (fun w => w ≤ m.ws.length) (fun w => m.ws.length - w) 0 (by omega) (by rfl) (by rfl) (fun w hwl => ?_)
  have hel := evA_len m f w
  have hes := evA_succ m f w
  have hel2 : (evA m f w).length ≤ 1536 * 10 := Nat.le_trans hel (Nat.mul_le_mul (by omega) (by omega))
  (refine sy1 ?_; try exact True.intro)
  repeat' (first | refine w1g ?_ | refine w1l ?_ | refine w1q ?_ | refine w1b ?_ | refine w1p ?_ | ((first | refine w1r ?_ | refine w1k ?_ | refine w1e ?_); (refine sy1 ?_; try exact True.intro)) | refine an2 ?_ | fail)
  refine W_condD (by rfl) (fun h5 => ?_) (fun h5 => ?_)
  · have hw : w < m.ws.length := by omega
    generalize evA m f w = A at *
    repeat' (first | refine w1g ?_ | refine w1l ?_ | refine w1q ?_ | refine w1b ?_ | refine w1p ?_ | ((first | refine w1r ?_ | refine w1k ?_ | refine w1e ?_); (refine sy1 ?_; try exact True.intro)) | refine an2 ?_ | fail)
    refine W_le (le_adoptC 36 0 138 2 dLd cLd (by omega) _ rfl rfl (by simp)) ?_
    (refine sy1 ?_; try exact True.intro)
    refine W_loopU (fun r : Nat => [(51, iv r)]) (fun r => [(36, .cells [.row 41 (hlW m f w r).length]), (41, .row (hlW m f w r).length 138 2 dLd cLd (hlW m f w r))]) (fun r => r ≤ m.rs.length) (fun r => m.rs.length - r) 0 (by omega) (by rfl) (by rfl) (fun r hrl => ?_)
    have hll := hlW_len m f w r
    have hls := hlW_succ m f w r
    (refine sy1 ?_; try exact True.intro)
    repeat' (first | refine w1g ?_ | refine w1l ?_ | refine w1q ?_ | refine w1b ?_ | refine w1p ?_ | ((first | refine w1r ?_ | refine w1k ?_ | refine w1e ?_); (refine sy1 ?_; try exact True.intro)) | refine an2 ?_ | fail)
    refine W_condD (by rfl) (fun h6 => ?_) (fun h6 => ?_)
    · have hr : r < m.rs.length := by omega
      generalize hlW m f w r = Y at *
      have c77 := fn77 m f hnw
      have c64 := fn64 m f (evL m.ws.length) (msk (evL m.ws.length)) r hok (setW_msk (ev_srt _)) hr
      have hld : ∀ k, ldsB m f r k = (usB m f (evL m.ws.length) r && decide ((gr m r).lim k < f k)) := fun _ => rfl
      generalize usB m f (evL m.ws.length) r = U at *
      generalize msk (evL m.ws.length) = E at *
      repeat' (first | refine w1g ?_ | refine w1l ?_ | refine w1q ?_ | refine w1b ?_ | refine w1p ?_ | ((first | refine w1r ?_ | refine w1k ?_ | refine w1e ?_ | refine CallC.now (fn97 m f r) ?_); (refine sy1 ?_; try exact True.intro)) | refine an2 ?_ | fail)
      refine W_rfnT (.inl rfl) (fun lp R T hT hR => Inl_of_W mixed Xt128 rfl (fun vs => ?_))
      (refine sy1 ?_; try exact True.intro)
      
      repeat' (first | refine w1g ?_ | refine w1l ?_ | refine w1q ?_ | refine w1b ?_ | refine w1p ?_ | ((first | refine w1r ?_ | refine w1k ?_ | refine w1e ?_ | refine CallC.now (c77) ?_ | refine CallC.now (c64) ?_); (refine sy1 ?_; try exact True.intro)) | refine an2 ?_ | fail)
      cases U
      · refine W_cond (by rfl) (fun _ => ?_) (fun h => by cases h)
        have e : hlR m f w r 6 = [] := by
          unfold hlR
          rw [List.flatMap_eq_nil_iff]
          intro k _
          unfold hl1
          rw [if_neg (by rw [hld]; simp)]
        rw [e, List.append_nil] at hls
        refine W_ret ?_
        refine ⟨_, _, rfl, rfl, ⟨_, _, rfl, by rw [hR.st]; simp, ?_⟩⟩
        rw [hR.pe, hT]
        simp (maxSteps := 400000) (disch := omega) only [push_cast, ↓reduceIte, reduceCtorEq, Nat.reduceAdd, Nat.reduceSub, Nat.reduceEqDiff, Nat.reduceLeDiff, Nat.reduceLT, Nat.reduceBEq, Nat.reduceDiv, Nat.reduceMod, Nat.reducePow, Nat.reduceMul, Int.reduceToNat, Int.reduceLT, Int.reduceLE, EndP]
        repeat' (first | refine w1g ?_ | refine w1l ?_ | refine w1q ?_ | refine w1b ?_ | refine w1p ?_ | ((first | refine w1r ?_ | refine w1k ?_ | refine w1e ?_); (refine sy1 ?_; try exact True.intro)) | refine an2 ?_ | fail)
        refine ⟨r + 1, by omega, by omega, by rfl, ?_⟩
        rw [hls]
        (refine syE ?_; try exact True.intro)
      · refine W_cond (by rfl) (fun h => by cases h) (fun _ => ?_)
        have hld2 : ∀ k, hl1 m f w r k = if (gr m r).lim k < f k ∧ hpsB m f w r k = true then [⟨r, k⟩] else [] := fun k => by
          unfold hl1
          rw [hld, Bool.true_and]
          congr 1
          rw [Bool.and_eq_true, decide_eq_true_eq]
        repeat' (first | refine w1g ?_ | refine w1l ?_ | refine w1q ?_ | refine w1b ?_ | refine w1p ?_ | ((first | refine w1r ?_ | refine w1k ?_ | refine w1e ?_ | refine CallC.now (fn75 m f 0 r) ?_); (refine sy1 ?_; try exact True.intro)) | refine an2 ?_ | fail)
        refine W_rfnT (.inl rfl) (fun lp2 R2 T2 hT2 hR2 => Inl_of_W mixed Xt121 rfl (fun vs2 => ?_))
        (refine sy1 ?_; try exact True.intro)
        repeat' (first | refine w1g ?_ | refine w1l ?_ | refine w1q ?_ | refine w1b ?_ | refine w1p ?_ | ((first | refine w1r ?_ | refine w1k ?_ | refine w1e ?_); (refine sy1 ?_; try exact True.intro)) | refine an2 ?_ | fail)
        refine W_loopU (fun k : Nat => [(10, iv k)]) (fun k => [(36, .cells [.row 41 (Y ++ hlR m f w r k).length]), (41, .row (Y ++ hlR m f w r k).length 138 2 dLd cLd (Y ++ hlR m f w r k))]) (fun k => k ≤ 6) (fun k => 6 - k) 0 (by omega) (by subst hT hT2; rfl) (by simp only [hlR, List.range_zero, List.flatMap_nil, List.append_nil]; rfl) (fun k hk => ?_)
        have hkl := hlR_len m f w r k
        have hks := hlR_succ m f w r k
        have hal : (Y ++ hlR m f w r k).length ≤ 10000 := by rw [List.length_append]; omega
        (refine sy1 ?_; try exact True.intro)
        repeat' (first | refine w1g ?_ | refine w1l ?_ | refine w1q ?_ | refine w1b ?_ | refine w1p ?_ | ((first | refine w1r ?_ | refine w1k ?_ | refine w1e ?_); (refine sy1 ?_; try exact True.intro)) | refine an2 ?_ | fail)
        refine W_condD (by rfl) (fun h7 => ?_) (fun h7 => ?_)
        · have hk6 : k < 6 := by omega
          have c122 := fn122 m f [] 0 r k hok (setW_msk (l := []) trivial) hr hk6
          have ec : limL m [] r k = (gr m r).lim k := rfl
          have e1 := hld2 k
          have c98 : Sy.Fn Try.prog 98 [aAt m f, iv w, .agg [iv r, iv k]] (bv (hpsB m f w r k)) := fn98 m f w r k hok hw hk6
          rw [ec] at c122
          have hys : Y ++ hlR m f w r (k + 1) = (Y ++ hlR m f w r k) ++ hl1 m f w r k := by rw [hks, List.append_assoc]
          generalize (gr m r).lim k = nl at *
          generalize Y ++ hlR m f w r k = Z at *
          by_cases q : nl < f k
          · have qb : decide (nl < f k) = true := decide_eq_true q
            repeat' (first | refine w1g ?_ | refine w1l ?_ | refine w1q ?_ | refine w1b ?_ | refine w1p ?_ | ((first | refine w1r ?_ | refine w1k ?_ | refine w1e ?_ | refine CallC.now (c122) ?_); simp (maxSteps := 400000) (disch := omega) only [push_cast, ↓reduceIte, reduceCtorEq, Nat.reduceAdd, Nat.reduceSub, Nat.reduceEqDiff, Nat.reduceLeDiff, Nat.reduceLT, Nat.reduceBEq, Nat.reduceDiv, Nat.reduceMod, Nat.reducePow, Nat.reduceMul, Int.reduceToNat, Int.reduceLT, Int.reduceLE, Nat.mul_one, Nat.zero_add, qb]) | refine an2 ?_ | fail)
            refine StopC.yld (fun hpc => ⟨trivial, Yl_of_WT (k := 60) mixed hR2 hT2 rfl rfl rfl (fun vs3 T3 hT3 => ?_)⟩) (fun hpc => absurd (by simp [pc]) hpc)
            (refine sy1 ?_; try exact True.intro)
            repeat' (first | refine w1g ?_ | refine w1l ?_ | refine w1q ?_ | refine w1b ?_ | refine w1p ?_ | ((first | refine w1r ?_ | refine w1k ?_ | refine w1e ?_); (refine sy1 ?_; try exact True.intro)) | refine an2 ?_ | fail)
            refine ⟨_, rfl, ?_⟩
            (refine sy1 ?_; try exact True.intro)
            repeat' (first | refine w1g ?_ | refine w1l ?_ | refine w1q ?_ | refine w1b ?_ | refine w1p ?_ | ((first | refine w1r ?_ | refine w1k ?_ | refine w1e ?_); (refine sy1 ?_; try exact True.intro)) | refine an2 ?_ | fail)
            refine StopC.yld (fun hpc2 => ⟨trivial, Yl_of_WT (k := 48) mixed hR hT rfl rfl rfl (fun vs4 T4 hT4 => ?_)⟩) (fun hpc2 => absurd (by simp [pc]) hpc2)
            (refine sy1 ?_; try exact True.intro)
            repeat' (first | refine w1g ?_ | refine w1l ?_ | refine w1q ?_ | refine w1b ?_ | refine w1p ?_ | ((first | refine w1r ?_ | refine w1k ?_ | refine w1e ?_); (refine sy1 ?_; try exact True.intro)) | refine an2 ?_ | fail)
            refine ⟨_, rfl, ?_⟩
            (refine sy1 ?_; try exact True.intro)
            cases hb : hpsB m f w r k
            · rw [hb] at c98 e1
              rw [if_neg (fun z => by cases z.2)] at e1
              rw [e1, List.append_nil] at hys
              repeat' (first | refine w1g ?_ | refine w1l ?_ | refine w1q ?_ | refine w1b ?_ | refine w1p ?_ | ((first | refine w1r ?_ | refine w1k ?_ | refine w1e ?_ | refine CallC.now (c98) ?_); (refine sy1 ?_; try exact True.intro)) | refine an2 ?_ | fail)
              refine W_cond (by rfl) (fun h => by cases h) (fun _ => ?_)
              repeat' (first | refine w1g ?_ | refine w1l ?_ | refine w1q ?_ | refine w1b ?_ | refine w1p ?_ | ((first | refine w1r ?_ | refine w1k ?_ | refine w1e ?_); (refine sy1 ?_; try exact True.intro)) | refine an2 ?_ | fail)
              refine ⟨_, _, rfl, rfl, ?_⟩
              (refine sy1 ?_; try exact True.intro)
              repeat' (first | refine w1g ?_ | refine w1l ?_ | refine w1q ?_ | refine w1b ?_ | refine w1p ?_ | ((first | refine w1r ?_ | refine w1k ?_ | refine w1e ?_); (refine sy1 ?_; try exact True.intro)) | refine an2 ?_ | fail)
              refine W_cond (by rfl) (fun h => by cases h) (fun _ => ?_)
              repeat' (first | refine w1g ?_ | refine w1l ?_ | refine w1q ?_ | refine w1b ?_ | refine w1p ?_ | ((first | refine w1r ?_ | refine w1k ?_ | refine w1e ?_); (refine sy1 ?_; try exact True.intro)) | refine an2 ?_ | fail)
              refine ⟨_, _, rfl, rfl, ?_⟩
              rw [hT3]
              (refine sy1 ?_; try exact True.intro)
              repeat' (first | refine w1g ?_ | refine w1l ?_ | refine w1q ?_ | refine w1b ?_ | refine w1p ?_ | ((first | refine w1r ?_ | refine w1k ?_ | refine w1e ?_); (refine sy1 ?_; try exact True.intro)) | refine an2 ?_ | fail)
              refine W_cond (by rfl) (fun h => by cases h) (fun _ => ?_)
              repeat' (first | refine w1g ?_ | refine w1l ?_ | refine w1q ?_ | refine w1b ?_ | refine w1p ?_ | ((first | refine w1r ?_ | refine w1k ?_ | refine w1e ?_); (refine sy1 ?_; try exact True.intro)) | refine an2 ?_ | fail)
              refine ⟨k + 1, by omega, by omega, by subst hT hT2; rfl, ?_⟩
              rw [hys]
              (refine syE ?_; try exact True.intro)
            · rw [hb] at c98 e1
              rw [if_pos ⟨q, rfl⟩] at e1
              rw [e1] at hys
              repeat' (first | refine w1g ?_ | refine w1l ?_ | refine w1q ?_ | refine w1b ?_ | refine w1p ?_ | ((first | refine w1r ?_ | refine w1k ?_ | refine w1e ?_ | refine CallC.now (c98) ?_); (refine sy1 ?_; try exact True.intro)) | refine an2 ?_ | fail)
              refine W_cond (by rfl) (fun _ => ?_) (fun h => by cases h)
              repeat' (first | refine w1g ?_ | refine w1l ?_ | refine w1q ?_ | refine w1b ?_ | refine w1p ?_ | ((first | refine w1r ?_ | refine w1k ?_ | refine w1e ?_); (refine sy1 ?_; try exact True.intro)) | refine an2 ?_ | fail)
              refine ⟨rfl, trivial, Ld, dLd, cLd, [⟨r, k⟩], rfl, by omega, fun x _ => ⟨rfl, rfl⟩, rfl, ?_⟩
              (refine sy1 ?_; try exact True.intro)
              refine ⟨rfl, ⟨Nat.le_of_ble_eq_true rfl, rfl⟩, trivial, [(⟨r, k⟩ : Ld)], rfl, by first | omega | (simp; omega), by first | omega | (simp; omega), ?_⟩
              (refine sy1 ?_; try exact True.intro)
              repeat' (first | refine w1g ?_ | refine w1l ?_ | refine w1q ?_ | refine w1b ?_ | refine w1p ?_ | ((first | refine w1r ?_ | refine w1k ?_ | refine w1e ?_); (refine sy1 ?_; try exact True.intro)) | refine an2 ?_ | fail)
              refine ⟨_, _, rfl, rfl, ?_⟩
              (refine sy1 ?_; try exact True.intro)
              repeat' (first | refine w1g ?_ | refine w1l ?_ | refine w1q ?_ | refine w1b ?_ | refine w1p ?_ | ((first | refine w1r ?_ | refine w1k ?_ | refine w1e ?_); (refine sy1 ?_; try exact True.intro)) | refine an2 ?_ | fail)
              refine W_cond (by rfl) (fun h => by cases h) (fun _ => ?_)
              repeat' (first | refine w1g ?_ | refine w1l ?_ | refine w1q ?_ | refine w1b ?_ | refine w1p ?_ | ((first | refine w1r ?_ | refine w1k ?_ | refine w1e ?_); (refine sy1 ?_; try exact True.intro)) | refine an2 ?_ | fail)
              refine ⟨_, _, rfl, rfl, ?_⟩
              rw [hT3]
              (refine sy1 ?_; try exact True.intro)
              repeat' (first | refine w1g ?_ | refine w1l ?_ | refine w1q ?_ | refine w1b ?_ | refine w1p ?_ | ((first | refine w1r ?_ | refine w1k ?_ | refine w1e ?_); (refine sy1 ?_; try exact True.intro)) | refine an2 ?_ | fail)
              refine W_cond (by rfl) (fun h => by cases h) (fun _ => ?_)
              repeat' (first | refine w1g ?_ | refine w1l ?_ | refine w1q ?_ | refine w1b ?_ | refine w1p ?_ | ((first | refine w1r ?_ | refine w1k ?_ | refine w1e ?_); (refine sy1 ?_; try exact True.intro)) | refine an2 ?_ | fail)
              refine ⟨k + 1, by omega, by omega, by subst hT hT2; rfl, ?_⟩
              rw [hys, List.length_append]
              (refine syE ?_; try exact True.intro)
          · rw [if_neg (fun z => q z.1)] at e1
            rw [e1, List.append_nil] at hys
            have qb : decide (nl < f k) = false := decide_eq_false q
            repeat' (first | refine w1g ?_ | refine w1l ?_ | refine w1q ?_ | refine w1b ?_ | refine w1p ?_ | ((first | refine w1r ?_ | refine w1k ?_ | refine w1e ?_ | refine CallC.now (c122) ?_); simp (maxSteps := 400000) (disch := omega) only [push_cast, ↓reduceIte, reduceCtorEq, Nat.reduceAdd, Nat.reduceSub, Nat.reduceEqDiff, Nat.reduceLeDiff, Nat.reduceLT, Nat.reduceBEq, Nat.reduceDiv, Nat.reduceMod, Nat.reducePow, Nat.reduceMul, Int.reduceToNat, Int.reduceLT, Int.reduceLE, Nat.mul_one, Nat.zero_add, qb]) | refine an2 ?_ | fail)
            refine StopC.yld (fun hpc => absurd hpc (by simp [pc])) (fun hpc => ?_)
            (refine sy1 ?_; try exact True.intro)
            repeat' (first | refine w1g ?_ | refine w1l ?_ | refine w1q ?_ | refine w1b ?_ | refine w1p ?_ | ((first | refine w1r ?_ | refine w1k ?_ | refine w1e ?_); (refine sy1 ?_; try exact True.intro)) | refine an2 ?_ | fail)
            refine W_cond (by rfl) (fun h => by cases h) (fun _ => ?_)
            repeat' (first | refine w1g ?_ | refine w1l ?_ | refine w1q ?_ | refine w1b ?_ | refine w1p ?_ | ((first | refine w1r ?_ | refine w1k ?_ | refine w1e ?_); (refine sy1 ?_; try exact True.intro)) | refine an2 ?_ | fail)
            refine ⟨k + 1, by omega, by omega, by subst hT hT2; rfl, ?_⟩
            rw [hys]
            (refine syE ?_; try exact True.intro)
        · have hk6 : k = 6 := by omega
          subst hk6
          rw [← hls]
          repeat' (first | refine w1g ?_ | refine w1l ?_ | refine w1q ?_ | refine w1b ?_ | refine w1p ?_ | ((first | refine w1r ?_ | refine w1k ?_ | refine w1e ?_); (refine sy1 ?_; try exact True.intro)) | refine an2 ?_ | fail)
          refine ⟨_, _, rfl, rfl, ⟨_, _, rfl, by rw [hR2.st]; simp, ?_⟩⟩
          rw [hR2.pe, hT2]
          simp (maxSteps := 400000) (disch := omega) only [push_cast, ↓reduceIte, reduceCtorEq, Nat.reduceAdd, Nat.reduceSub, Nat.reduceEqDiff, Nat.reduceLeDiff, Nat.reduceLT, Nat.reduceBEq, Nat.reduceDiv, Nat.reduceMod, Nat.reducePow, Nat.reduceMul, Int.reduceToNat, Int.reduceLT, Int.reduceLE, EndP]
          repeat' (first | refine w1g ?_ | refine w1l ?_ | refine w1q ?_ | refine w1b ?_ | refine w1p ?_ | ((first | refine w1r ?_ | refine w1k ?_ | refine w1e ?_); (refine sy1 ?_; try exact True.intro)) | refine an2 ?_ | fail)
          refine ⟨_, _, rfl, rfl, ⟨_, _, rfl, by rw [hR.st]; simp, ?_⟩⟩
          rw [hR.pe, hT]
          simp (maxSteps := 400000) (disch := omega) only [push_cast, ↓reduceIte, reduceCtorEq, Nat.reduceAdd, Nat.reduceSub, Nat.reduceEqDiff, Nat.reduceLeDiff, Nat.reduceLT, Nat.reduceBEq, Nat.reduceDiv, Nat.reduceMod, Nat.reducePow, Nat.reduceMul, Int.reduceToNat, Int.reduceLT, Int.reduceLE, EndP]
          repeat' (first | refine w1g ?_ | refine w1l ?_ | refine w1q ?_ | refine w1b ?_ | refine w1p ?_ | ((first | refine w1r ?_ | refine w1k ?_ | refine w1e ?_); (refine sy1 ?_; try exact True.intro)) | refine an2 ?_ | fail)
          refine ⟨r + 1, by omega, by omega, by rfl, ?_⟩
          (refine syE ?_; try exact True.intro)
    · have hrm : r = m.rs.length := by omega
      subst hrm
      have hew : evW m f w = (hlW m f w m.rs.length).map (evP w (evQ m f w)) := rfl
      have heq : evQ m f w = (gw m w).c / (hlW m f w m.rs.length).length := rfl
      have hcw := (workB_ok (hok.w w hw)).c
      have hgw : m.ws.getD w dW = gw m w := rfl
      generalize evQ m f w = q at *
      generalize hlW m f w m.rs.length = Y at *
      clear hls h6 hrl
      repeat' (first | refine w1g ?_ | refine w1l ?_ | refine w1q ?_ | refine w1b ?_ | refine w1p ?_ | ((first | refine w1r ?_ | refine w1k ?_ | refine w1e ?_); (refine sy1 ?_; try exact True.intro)) | refine an2 ?_ | fail)
      refine W_loopU (fun j : Nat => [(69, iv j)]) (fun j => [(23, .cells [.row 31 (A ++ (Y.take j).map (evP w q)).length, .v (.slice none 0 0)]), (31, .row (A ++ (Y.take j).map (evP w q)).length 77 4 dP cP (A ++ (Y.take j).map (evP w q))), (25, .oth (.mp b 3 (gP (A ++ (Y.take j).map (evP w q)))))]) (fun j => j ≤ Y.length) (fun j => Y.length - j) 0 (by omega) (by rfl) (by simp only [List.take_zero, List.map_nil, List.append_nil]; rfl) (fun j hj => ?_)
      have hAl : (A ++ (Y.take j).map (evP w q)).length ≤ 30000 := by rw [List.length_append, List.length_map, List.length_take]; omega
      (refine sy1 ?_; try exact True.intro)
      repeat' (first | refine w1g ?_ | refine w1l ?_ | refine w1q ?_ | refine w1b ?_ | refine w1p ?_ | ((first | refine w1r ?_ | refine w1k ?_ | refine w1e ?_); (refine sy1 ?_; try exact True.intro)) | refine an2 ?_ | fail)
      refine W_condD (by rfl) (fun h7 => ?_) (fun h7 => ?_)
      · have hlt : j < Y.length := by omega
        have hd : (gw m w).c.tdiv Y.length = q := by rw [heq, Int.tdiv_eq_ediv_of_nonneg (by omega)]
        have hq0 : 0 ≤ q := by rw [heq]; exact Int.ediv_nonneg (by omega) (by omega)
        have hq1 : q ≤ (gw m w).c := by rw [heq]; exact Int.ediv_le_self _ (by omega)
        have htk : A ++ (Y.take (j + 1)).map (evP w q) = (A ++ (Y.take j).map (evP w q)) ++ [evP w q (Y.getD j dLd)] := by
          rw [List.take_succ_eq_append_getElem hlt, List.map_append, ← List.append_assoc]
          simp [List.getD, hlt]
        have hgs := gP_snoc (A ++ (Y.take j).map (evP w q)) (evP w q (Y.getD j dLd))
        rw [← htk] at hgs
        have hgs : gP (A ++ (Y.take (j + 1)).map (evP w q)) = updG (gP (A ++ (Y.take j).map (evP w q))) (.agg #[.int .i64 w, .int .i64 (Y.getD j dLd).r, .int .i64 (Y.getD j dLd).k]) (.int .i64 q) := hgs
        obtain ⟨⟨xr, xk⟩, hX⟩ : ∃ X, Y.getD j dLd = X := ⟨_, rfl⟩
        rw [hX] at htk hgs
        generalize A ++ (Y.take j).map (evP w q) = Z at *
        clear heq
        repeat' (first | refine w1g ?_ | refine w1l ?_ | refine w1q ?_ | refine w1b ?_ | refine w1p ?_ | ((first | refine w1r ?_ | refine w1k ?_ | refine w1e ?_); simp (maxSteps := 400000) (disch := omega) only [push_cast, ↓reduceIte, reduceCtorEq, Nat.reduceAdd, Nat.reduceSub, Nat.reduceEqDiff, Nat.reduceLeDiff, Nat.reduceLT, Nat.reduceBEq, Nat.reduceDiv, Nat.reduceMod, Nat.reducePow, Nat.reduceMul, Int.reduceToNat, Int.reduceLT, Int.reduceLE, hgw, hd, hX, cLd]) | refine an2 ?_ | fail)
        refine ⟨rfl, trivial, Prt, dP, cP, [evP w q ⟨xr, xk⟩], rfl, by omega, fun x _ => ⟨rfl, rfl⟩, rfl, ?_⟩
        (refine sy1 ?_; try exact True.intro)
        refine ⟨rfl, ⟨Nat.le_of_ble_eq_true rfl, rfl⟩, trivial, [evP w q ⟨xr, xk⟩], rfl, by first | omega | (simp; omega), by first | omega | (simp; omega), ?_⟩
        (refine sy1 ?_; try exact True.intro)
        repeat (first | refine WK_go ?_ | refine W_seqL ?_ | refine W_seq ?_ | refine W_block ?_)
        refine W_regX [5] ?_
        simp (maxSteps := 400000) (disch := omega) only [push_cast, ↓reduceIte, reduceCtorEq, Nat.reduceAdd, Nat.reduceSub, Nat.reduceEqDiff, Nat.reduceLeDiff, Nat.reduceLT, Nat.reduceBEq, Nat.reduceDiv, Nat.reduceMod, Nat.reducePow, Nat.reduceMul, Int.reduceToNat, Int.reduceLT, Int.reduceLE, chainX, List.take_succ_cons, List.take_zero, List.drop_succ_cons, List.drop_zero]
        refine SpM_mup 25 b _ (.agg #[.int .i64 w, .int .i64 xr, .int .i64 xk]) (.int .i64 q) (by simp [underAll, under, ev, lk]) rfl rfl rfl (ok3 _ _ _) rfl ?_
        rw [← hgs]
        simp (maxSteps := 400000) (disch := omega) only [push_cast, ↓reduceIte, reduceCtorEq, Nat.reduceAdd, Nat.reduceSub, Nat.reduceEqDiff, Nat.reduceLeDiff, Nat.reduceLT, Nat.reduceBEq, Nat.reduceDiv, Nat.reduceMod, Nat.reducePow, Nat.reduceMul, Int.reduceToNat, Int.reduceLT, Int.reduceLE, chainX]
        repeat' (first | refine w1g ?_ | refine w1l ?_ | refine w1q ?_ | refine w1b ?_ | refine w1p ?_ | ((first | refine w1r ?_ | refine w1k ?_ | refine w1e ?_); (refine sy1 ?_; try exact True.intro)) | refine an2 ?_ | fail)
        refine ⟨j + 1, by omega, by omega, by rfl, ?_⟩
        rw [htk, List.length_append]
        (refine syE ?_; try exact True.intro)
      · have hjy : j = Y.length := by omega
        rw [hjy, List.take_length, ← hew]
        repeat' (first | refine w1g ?_ | refine w1l ?_ | refine w1q ?_ | refine w1b ?_ | refine w1p ?_ | ((first | refine w1r ?_ | refine w1k ?_ | refine w1e ?_); (refine sy1 ?_; try exact True.intro)) | refine an2 ?_ | fail)
        refine ⟨w + 1, by omega, by omega, by rfl, ?_⟩
        rw [hes]
        (refine syE ?_; try exact True.intro)
  · have hwm : w = m.ws.length := by omega
    subst hwm
    clear hes h5 hwl hel hbl hz c15
    have hbd : bnD m f fr = dstC m false (rdC m f) fr := rfl
    have hbn : bnH m f fr to = mnL (bnD m f fr) (gi (bnD m f fr) to.toNat) m.n.toNat := rfl
    obtain ⟨k1, k2⟩ := edgC_ok hok false (c := rdC m f) (fun i hi => (rdC_rng hok f hi).1)
    have hDB : Dst (edgC m false (rdC m f)) fr.toNat m.n.toNat (bnD m f fr) := dst_dst k1 (by omega)
    have o57 := fo57 m f fr false 130 [] [.fp (cAt m f) 0, .fp [.fm 3 (gP (evA m f m.ws.length))] 0] (rdC m f) hok hpr.1 (fun i hi => (rdC_rng hok f hi).1) (fun i hi => (rdC_rng hok f hi).2) (fun i hi => fn130e m f hok i hi)
    rw [← hbd] at o57
    rw [hbn]
    generalize bnD m f fr = BD at *
    have c100 := fn100 m f (gP (evA m f m.ws.length))
    generalize evA m f m.ws.length = PS at *
    refine W_exit ?_
    (refine sy1 ?_; try exact True.intro)
    repeat (first | refine WK_go ?_ | refine W_seqL ?_ | refine W_seq ?_ | refine W_block ?_)
    refine W_le (le_frzM 14 [2, 3, 4, 8, 12, 13] [31, 2, 20, 23] 33 25 b 3 (gP PS) (by rfl) (by rfl) (by rfl) (by rfl)) ?_
    (refine sy1 ?_; try exact True.intro)
    repeat' (first | refine w1g ?_ | refine w1l ?_ | refine w1q ?_ | refine w1b ?_ | refine w1p ?_ | ((first | refine W_regS 5 (by decide) (by decide) ?_ | refine w1r ?_ | refine w1k ?_ | refine w1e ?_ | refine CallC.now (c100) ?_); (refine sy1 ?_; try exact True.intro)) | refine an2 ?_ | (refine CallC.inl (Inl_of_FnO o57 (by rfl) ?_); (refine sy1 ?_; try exact True.intro)) | fail)
    have hlB := hDB.len
    obtain ⟨N, hN⟩ : ∃ N : Nat, m.n = N := ⟨m.n.toNat, by omega⟩
    rw [hN, Int.toNat_natCast] at hlB hDB ⊢
    have hbt := hDB.le (y := to.toNat) (by omega)
    refine ⟨by omega, by omega, ?_⟩
    generalize hh : gi BD to.toNat = MT at *
    have hh2 : BD.getD to.toNat 0 = MT := hh
    rw [hh2]
    repeat' (first | refine w1g ?_ | refine w1l ?_ | refine w1q ?_ | refine w1b ?_ | refine w1p ?_ | ((first | refine w1r ?_ | refine w1k ?_ | refine w1e ?_); simp (maxSteps := 400000) (disch := omega) only [push_cast, ↓reduceIte, reduceCtorEq, Nat.reduceAdd, Nat.reduceSub, Nat.reduceEqDiff, Nat.reduceLeDiff, Nat.reduceLT, Nat.reduceBEq, Nat.reduceDiv, Nat.reduceMod, Nat.reducePow, Nat.reduceMul, Int.reduceToNat, Int.reduceLT, Int.reduceLE, hlB]) | refine an2 ?_ | fail)
    refine W_loopU (fun z : Nat => [(116, iv z)]) (fun z => [(38, .row 0 2 1 0 cI (mnL BD MT z))]) (fun z => z ≤ N) (fun z => N - z) 0 (by omega) (by rfl) (by simp only [mnL, List.take_zero, List.map_nil, List.drop_zero, List.nil_append]; rfl) (fun z hz => ?_)
    have hml := mnL_len BD MT z
    rw [hlB] at hml
    (refine sy1 ?_; try exact True.intro)
    repeat' (first | refine w1g ?_ | refine w1l ?_ | refine w1q ?_ | refine w1b ?_ | refine w1p ?_ | ((first | refine w1r ?_ | refine w1k ?_ | refine w1e ?_); (refine sy1 ?_; try exact True.intro)) | refine an2 ?_ | fail)
    refine W_condD (by rfl) (fun h6 => ?_) (fun h6 => ?_)
    · have hlt : z < N := by omega
      have hma := mnL_at (x := MT) (show z < BD.length by omega)
      have hms := mnL_set (x := MT) (show z < BD.length by omega)
      have hbz := hDB.le hlt
      repeat' (first | refine w1g ?_ | refine w1l ?_ | refine w1q ?_ | refine w1b ?_ | refine w1p ?_ | ((first | refine w1r ?_ | refine w1k ?_ | refine w1e ?_); simp (maxSteps := 400000) (disch := omega) only [push_cast, ↓reduceIte, reduceCtorEq, Nat.reduceAdd, Nat.reduceSub, Nat.reduceEqDiff, Nat.reduceLeDiff, Nat.reduceLT, Nat.reduceBEq, Nat.reduceDiv, Nat.reduceMod, Nat.reducePow, Nat.reduceMul, Int.reduceToNat, Int.reduceLT, Int.reduceLE, hml, hma]) | refine an2 ?_ | fail)
      refine ⟨rfl, ⟨Nat.le_of_ble_eq_true rfl, rfl⟩, by omega, min (BD.getD z 0) MT, rfl, rfl, ?_⟩
      rw [hms]
      (refine sy1 ?_; try exact True.intro)
      repeat' (first | refine w1g ?_ | refine w1l ?_ | refine w1q ?_ | refine w1b ?_ | refine w1p ?_ | ((first | refine w1r ?_ | refine w1k ?_ | refine w1e ?_); (refine sy1 ?_; try exact True.intro)) | refine an2 ?_ | fail)
      refine ⟨z + 1, by omega, by omega, by rfl, ?_⟩
      (refine syE ?_; try exact True.intro)
    · rw [show z = N by omega]
      repeat' (first | refine w1g ?_ | refine w1l ?_ | refine w1q ?_ | refine w1b ?_ | refine w1p ?_ | ((first | refine w1r ?_ | refine w1k ?_ | refine w1e ?_); (refine sy1 ?_; try exact True.intro)) | refine an2 ?_ | fail)
      refine W_ret ⟨[_, _], ⟨⟨by simp, rfl⟩, rfl, rfl⟩, ?_⟩
      simp (maxSteps := 400000) (disch := omega) only [push_cast, ↓reduceIte, reduceCtorEq, Nat.reduceAdd, Nat.reduceSub, Nat.reduceEqDiff, Nat.reduceLeDiff, Nat.reduceLT, Nat.reduceBEq, Nat.reduceDiv, Nat.reduceMod, Nat.reducePow, Nat.reduceMul, Int.reduceToNat, Int.reduceLT, Int.reduceLE, pack]
      try rfl
end Go.Proofs.Ytfbdlmenhoagmaa

namespace Go.Proofs.Ytfbdlmenhoagmaa
open Go Sy
set_option maxRecDepth 100000
set_option maxHeartbeats 8000000
set_option linter.unusedVariables false
set_option linter.unusedSimpArgs false
theorem fn37 (m : Mp) (f : Nat → Int) (fr to : Int) (ps : List Prt) (hs : List Int) (hm : Gm m) (hl : ps.length ≤ 1000000) (hl2 : hs.length ≤ 1000000) : Sy.Fn Try.prog 37 [aM m, .agg (c6 f), iv fr, iv to, .agg (cBd ps hs)] (.tup [iv (bdV m f fr to ps hs), iv (bdE m f fr to ps hs)]) := by
  refine Fn_of_W mixed Xt37 rfl ?_
  have c52 := fn52 m f hm
  have fin : bdE m f fr to ps hs ≠ 0 → bdV m f fr to ps hs = 0 := fun q => by unfold bdV; rw [if_neg q]
  by_cases h0 : opE m f = 0
  rotate_left
  · have e1 : bdE m f fr to ps hs = opE m f := by unfold bdE; rw [if_neg h0]
    have e2 := fin (by rw [e1]; exact h0)
    rw [e1, e2]
    unfold cBd
    have hv : opV m f = cAt m f ∨ opV m f = zAt := by
      unfold opV
      split
      · exact .inl rfl
      · exact .inr rfl
    generalize opE m f = e at *
    rcases hv with hv | hv
    all_goals
      rw [hv] at c52
      try unfold zAt at c52
      repeat' (first | refine w1g ?_ | refine w1l ?_ | refine w1q ?_ | refine w1b ?_ | refine w1p ?_ | ((first | refine w1r ?_ | refine w1k ?_ | refine w1e ?_ | refine CallC.now (c52) ?_); (refine sy1 ?_; try exact True.intro)) | refine an2 ?_ | fail)
      refine W_cond (by rfl) (fun h => ?_) (fun h => ?_)
      · repeat' (first | refine w1g ?_ | refine w1l ?_ | refine w1q ?_ | refine w1b ?_ | refine w1p ?_ | ((first | refine w1r ?_ | refine w1k ?_ | refine w1e ?_); (refine sy1 ?_; try exact True.intro)) | refine an2 ?_ | fail)
        exact W_ret ⟨[_, _], ⟨rfl, rfl, rfl⟩, rfl⟩
      · exact absurd (by simpa using h) h0
  have hchk : chkM m = 0 ∧ szE f = 0 := by
    unfold opE at h0
    by_cases q : chkM m = 0
    · rw [if_pos q] at h0; exact ⟨q, h0⟩
    · rw [if_neg q] at h0; exact absurd h0 q
  have hok := chkM_ok hchk.1
  have hmn := hok.n
  have hw := hok.nw
  have hnr := hok.nr
  have hv : opV m f = cAt m f := by unfold opV; rw [if_pos hchk.1]
  rw [hv, h0] at c52
  have c53 := fn53 m [fr, to] (by simp)
  have hpl : plsB m [fr, to] = (plB m.n fr && plB m.n to) := by simp [plsB]
  rw [hpl] at c53
  have bde : bdE m f fr to ps hs = (if plB m.n fr = true ∧ plB m.n to = true then (if (hs.length : Int) = m.n then (if rgtB m f ps hs = true then 0 else 16) else 17) else 3) := by unfold bdE; rw [if_pos h0]
  unfold cBd
  repeat' (first | refine w1g ?_ | refine w1l ?_ | refine w1q ?_ | refine w1b ?_ | refine w1p ?_ | ((first | refine w1r ?_ | refine w1k ?_ | refine w1e ?_ | refine CallC.now (c52) ?_); (refine sy1 ?_; try exact True.intro)) | refine an2 ?_ | fail)
  refine W_cond (by rfl) (fun h => by cases h) (fun _ => ?_)
  repeat' (first | refine w1g ?_ | refine w1l ?_ | refine w1q ?_ | refine w1b ?_ | refine w1p ?_ | ((first | refine w1r ?_ | refine w1k ?_ | refine w1e ?_); (refine sy1 ?_; try exact True.intro)) | refine an2 ?_ | fail)
  refine ⟨rfl, trivial, Int, 0, cI, [fr, to], rfl, by omega, fun x _ => ⟨rfl, rfl⟩, rfl, ?_⟩
  (refine sy1 ?_; try exact True.intro)
  by_cases hp : plB m.n fr = true ∧ plB m.n to = true
  rotate_left
  · have e1 : bdE m f fr to ps hs = 3 := by rw [bde, if_neg hp]
    have e2 := fin (by rw [e1]; decide)
    rw [e1, e2]
    have e3 : (plB m.n fr && plB m.n to) = false := by rw [← Bool.not_eq_true, Bool.and_eq_true]; exact hp
    rw [e3] at c53
    repeat' (first | refine w1g ?_ | refine w1l ?_ | refine w1q ?_ | refine w1b ?_ | refine w1p ?_ | ((first | refine w1r ?_ | refine w1k ?_ | refine w1e ?_ | refine CallC.go _ (fun _ => ⟨trivial, c53⟩) rfl ?_); (refine sy1 ?_; try exact True.intro)) | refine an2 ?_ | fail)
    refine W_cond (by rfl) (fun h => ?_) (fun h => by cases h)
    repeat' (first | refine w1g ?_ | refine w1l ?_ | refine w1q ?_ | refine w1b ?_ | refine w1p ?_ | ((first | refine w1r ?_ | refine w1k ?_ | refine w1e ?_); (refine sy1 ?_; try exact True.intro)) | refine an2 ?_ | fail)
    exact W_ret ⟨[_, _], ⟨rfl, rfl, rfl⟩, rfl⟩
  have e3 : (plB m.n fr && plB m.n to) = true := by rw [hp.1, hp.2]; rfl
  rw [e3] at c53
  rw [if_pos hp] at bde
  have hpr : (0 ≤ fr ∧ fr < m.n) ∧ (0 ≤ to ∧ to < m.n) := by
    have := hp.1; have := hp.2
    unfold plB at *
    simp only [Bool.and_eq_true, decide_eq_true_eq] at *
    omega
  repeat' (first | refine w1g ?_ | refine w1l ?_ | refine w1q ?_ | refine w1b ?_ | refine w1p ?_ | ((first | refine w1r ?_ | refine w1k ?_ | refine w1e ?_ | refine CallC.go _ (fun _ => ⟨trivial, c53⟩) rfl ?_); (refine sy1 ?_; try exact True.intro)) | refine an2 ?_ | fail)
  refine W_cond (by rfl) (fun h => by cases h) (fun h => ?_)
  by_cases hn : (hs.length : Int) = m.n
  rotate_left
  · have e1 : bdE m f fr to ps hs = 17 := by rw [bde, if_neg hn]
    have e2 := fin (by rw [e1]; decide)
    rw [e1, e2]
    repeat' (first | refine w1g ?_ | refine w1l ?_ | refine w1q ?_ | refine w1b ?_ | refine w1p ?_ | ((first | refine w1r ?_ | refine w1k ?_ | refine w1e ?_); (refine sy1 ?_; try exact True.intro)) | refine an2 ?_ | fail)
    refine W_cond (by rfl) (fun h => ?_) (fun h => ?_)
    · repeat' (first | refine w1g ?_ | refine w1l ?_ | refine w1q ?_ | refine w1b ?_ | refine w1p ?_ | ((first | refine w1r ?_ | refine w1k ?_ | refine w1e ?_); (refine sy1 ?_; try exact True.intro)) | refine an2 ?_ | fail)
      exact W_ret ⟨[_, _], ⟨rfl, rfl, rfl⟩, rfl⟩
    · exact absurd (by simpa using h) hn
  rw [if_pos hn] at bde
  have no : rgtB m f ps hs = false → bdE m f fr to ps hs = 16 ∧ bdV m f fr to ps hs = 0 := fun q => by
    have e1 : bdE m f fr to ps hs = 16 := by rw [bde, q]; rfl
    exact ⟨e1, fin (by rw [e1]; decide)⟩
  repeat' (first | refine w1g ?_ | refine w1l ?_ | refine w1q ?_ | refine w1b ?_ | refine w1p ?_ | ((first | refine w1r ?_ | refine w1k ?_ | refine w1e ?_); (refine sy1 ?_; try exact True.intro)) | refine an2 ?_ | fail)
  refine W_cond (by rfl) (fun h => absurd hn (by simpa using h)) (fun h => ?_)
  refine W_skip ?_
  try (refine sy1 ?_; try exact True.intro)
  repeat (first | refine WK_go ?_ | refine W_seqL ?_ | refine W_seq ?_ | refine W_block ?_)
  refine W_regX [0] ?_
  simp (maxSteps := 400000) (disch := omega) only [push_cast, ↓reduceIte, reduceCtorEq, Nat.reduceAdd, Nat.reduceSub, Nat.reduceEqDiff, Nat.reduceLeDiff, Nat.reduceLT, Nat.reduceBEq, Nat.reduceDiv, Nat.reduceMod, Nat.reducePow, Nat.reduceMul, Int.reduceToNat, Int.reduceLT, Int.reduceLE, chainX, SpM, List.take_succ_cons, List.take_zero, List.drop_succ_cons, List.drop_zero]
  refine ⟨[], rfl, rfl, fun b => ?_⟩
  try (refine sy1 ?_; try exact True.intro)
  repeat (first | refine WK_go ?_ | refine W_seqL ?_ | refine W_seq ?_ | refine W_block ?_)
  refine W_regL ?_
  (refine sy1 ?_; try exact True.intro)
  refine ⟨rfl, ⟨by omega, by omega, by omega⟩, Int, 0, cI, 0, rfl, rfl, by omega, rfl, ?_⟩
  simp (maxSteps := 400000) (disch := omega) only [push_cast, ↓reduceIte, reduceCtorEq, Nat.reduceAdd, Nat.reduceSub, Nat.reduceEqDiff, Nat.reduceLeDiff, Nat.reduceLT, Nat.reduceBEq, Nat.reduceDiv, Nat.reduceMod, Nat.reducePow, Nat.reduceMul, Int.reduceToNat, Int.reduceLT, Int.reduceLE, Int.toNat_natCast]
  repeat' (first | refine w1g ?_ | refine w1l ?_ | refine w1q ?_ | refine w1b ?_ | refine w1p ?_ | ((first | refine w1r ?_ | refine w1k ?_ | refine w1e ?_); (refine sy1 ?_; try exact True.intro)) | refine an2 ?_ | fail)
  refine W_loopU (fun i : Nat => [(58, iv i)]) (fun i => [(30, .oth (.mp b 3 (gP (ps.take i)))), (35, .row 0 2 1 0 cI (tbI m.ws.length (spW (ps.take i))))]) (fun i => i ≤ ps.length ∧ (∀ j, j < i → okP m f ps j = true) ∧ ∀ w, w < m.ws.length → spW (ps.take i) w ≤ (gw m w).c) (fun i => ps.length - i) 0 ⟨by omega, fun j hj => by omega, fun w hw => by have := (workB_ok (hok.w w hw)).c; show (0 : Int) ≤ _; omega⟩ (by rfl) (by rw [← tbI_rep]; rfl) (fun i hi => ?_)
  obtain ⟨hi, hall, hsum⟩ := hi
  have tl := tbI_len m.ws.length (spW (ps.take i))
  have hpk : ∀ p ∈ ps.take i, PrtOK m f p := fun p hp => by
    obtain ⟨j, hj, rfl⟩ := List.mem_iff_getElem.1 hp
    rw [List.length_take] at hj
    have h2 := okP_ok (hall j (by omega))
    have e : ps.getD j dP = (ps.take i)[j] := by simp [List.getD, show j < ps.length by omega]
    rw [e] at h2
    exact h2
  (refine sy1 ?_; try exact True.intro)
  repeat' (first | refine w1g ?_ | refine w1l ?_ | refine w1q ?_ | refine w1b ?_ | refine w1p ?_ | ((first | refine w1r ?_ | refine w1k ?_ | refine w1e ?_); (refine sy1 ?_; try exact True.intro)) | refine an2 ?_ | fail)
  refine W_condD (by rfl) (fun h5 => ?_) (fun h5 => ?_)
  · have hlt : i < ps.length := by omega
    have hsn := take_snocP hlt
    have hdu := gP_dup hlt
    obtain ⟨p, hp⟩ : ∃ p, ps.getD i dP = p := ⟨_, rfl⟩
    rw [hp] at hsn hdu
    have hgw : m.ws.getD p.w.toNat dW = gw m p.w.toNat := rfl
    repeat' (first | refine w1g ?_ | refine w1l ?_ | refine w1q ?_ | refine w1b ?_ | refine w1p ?_ | ((first | refine w1r ?_ | refine w1k ?_ | refine w1e ?_); simp (maxSteps := 400000) (disch := omega) only [push_cast, ↓reduceIte, reduceCtorEq, Nat.reduceAdd, Nat.reduceSub, Nat.reduceEqDiff, Nat.reduceLeDiff, Nat.reduceLT, Nat.reduceBEq, Nat.reduceDiv, Nat.reduceMod, Nat.reducePow, Nat.reduceMul, Int.reduceToNat, Int.reduceLT, Int.reduceLE, hp]) | refine an2 ?_ | fail)
    repeat' (first | refine w1g ?_ | refine w1l ?_ | refine w1q ?_ | refine w1b ?_ | refine w1p ?_ | ((first | refine w1r ?_ | refine w1k ?_ | refine w1e ?_); simp (maxSteps := 400000) (disch := omega) only [push_cast, ↓reduceIte, reduceCtorEq, Nat.reduceAdd, Nat.reduceSub, Nat.reduceEqDiff, Nat.reduceLeDiff, Nat.reduceLT, Nat.reduceBEq, Nat.reduceDiv, Nat.reduceMod, Nat.reducePow, Nat.reduceMul, Int.reduceToNat, Int.reduceLT, Int.reduceLE, hp, hgw, Nat.zero_add, Nat.mul_one]) | refine an2 ?_ | fail)
    refine W_cond (by rfl) (fun hz => ?_) (fun hz => ?_)
    · have hno : okP m f ps i = false := okP_no hp (fun q => by
        have q1 := q.w; have q2 := q.r; have q3 := q.k; have q4 := q.v
        simp only [Bool.or_eq_true, decide_eq_true_eq] at hz
        rw [hgw] at hz
        omega)
      obtain ⟨e1, e2⟩ := no (rgt_no1 hlt hno)
      rw [e1, e2]
      repeat' (first | refine w1g ?_ | refine w1l ?_ | refine w1q ?_ | refine w1b ?_ | refine w1p ?_ | ((first | refine w1r ?_ | refine w1k ?_ | refine w1e ?_); (refine sy1 ?_; try exact True.intro)) | refine an2 ?_ | fail)
      exact W_ret ⟨[_, _], ⟨rfl, rfl, rfl⟩, rfl⟩
    simp only [Bool.or_eq_false_iff, decide_eq_false_iff_not] at hz
    rw [hgw] at hz
    obtain ⟨⟨⟨⟨⟨z1, z2⟩, z3⟩, z4⟩, z5⟩, z6⟩ := hz
    have hc := (workB_ok (hok.w p.w.toNat (by omega))).c
    obtain ⟨w, ew⟩ : ∃ w : Nat, p.w = w := ⟨p.w.toNat, by omega⟩
    obtain ⟨r, er⟩ : ∃ r : Nat, p.r = r := ⟨p.r.toNat, by omega⟩
    refine W_skip ?_
    try (refine sy1 ?_; try exact True.intro)
    repeat (first | refine WK_go ?_ | refine W_seqL ?_ | refine W_seq ?_ | refine W_block ?_)
    refine W_regL ?_
    (refine sy1 ?_; try exact True.intro)
    repeat (first | refine WK_go ?_ | refine W_seqL ?_ | refine W_seq ?_ | refine W_block ?_)
    refine W_regL ?_
    (refine sy1 ?_; try exact True.intro)
    repeat (first | refine WK_go ?_ | refine W_seqL ?_ | refine W_seq ?_ | refine W_block ?_)
    refine W_regX [2] ?_
    simp (maxSteps := 400000) (disch := omega) only [push_cast, ↓reduceIte, reduceCtorEq, Nat.reduceAdd, Nat.reduceSub, Nat.reduceEqDiff, Nat.reduceLeDiff, Nat.reduceLT, Nat.reduceBEq, Nat.reduceDiv, Nat.reduceMod, Nat.reducePow, Nat.reduceMul, Int.reduceToNat, Int.reduceLT, Int.reduceLE, chainX, SpM, List.take_succ_cons, List.take_zero, List.drop_succ_cons, List.drop_zero]
    refine ⟨[], rfl, 30, b, _, .agg #[.int .i64 p.w, .int .i64 p.r, .int .i64 p.k], rfl, rfl, rfl, fun _ => ok3 _ _ _, ?_⟩
    have hdu : (gP (ps.take i) (.agg #[.int .i64 p.w, .int .i64 p.r, .int .i64 p.k])).isSome = dupB ps i := hdu
    rw [hdu]
    (refine sy1 ?_; try exact True.intro)
    have okd : okP m f ps i = (prtB m f p && !dupB ps i) := by unfold okP; rw [hp]
    cases hdb : dupB ps i
    rotate_left
    · have hno : okP m f ps i = false := by rw [okd, hdb]; simp
      obtain ⟨e1, e2⟩ := no (rgt_no1 hlt hno)
      rw [e1, e2]
      repeat' (first | refine w1g ?_ | refine w1l ?_ | refine w1q ?_ | refine w1b ?_ | refine w1p ?_ | ((first | refine w1r ?_ | refine w1k ?_ | refine w1e ?_); (refine sy1 ?_; try exact True.intro)) | refine an2 ?_ | (refine CallC.go (bv false) (fun hpc => absurd hpc (by simp [pc])) rfl ?_; (refine sy1 ?_; try exact True.intro)) | fail)
      refine W_cond (by rfl) (fun _ => ?_) (fun h => by cases h)
      repeat' (first | refine w1g ?_ | refine w1l ?_ | refine w1q ?_ | refine w1b ?_ | refine w1p ?_ | ((first | refine w1r ?_ | refine w1k ?_ | refine w1e ?_); (refine sy1 ?_; try exact True.intro)) | refine an2 ?_ | fail)
      exact W_ret ⟨[_, _], ⟨rfl, rfl, rfl⟩, rfl⟩
    rw [hdb] at okd
    have c97 := fn97 m f p.r
    have c96 := fn96 m f r hok (by omega)
    have hll := ldL_len m f r 6
    have c95 : Sy.Fn Try.prog 95 [aLd (ldL m f r 6), .agg [iv p.r, iv p.k]] (bv ((ldL m f r 6).any (ldEq ⟨p.r, p.k⟩))) := fn95 (ldL m f r 6) ⟨p.r, p.k⟩ (by omega)
    have hany := ldL_any m f r p.k
    rw [← er] at c96 hany
    by_cases hL : (0 ≤ p.k ∧ p.k ≤ 5) ∧ ldsB m f r p.k.toNat = true
    rotate_left
    · have hany : (ldL m f r 6).any (ldEq ⟨p.r, p.k⟩) = false := by
        rw [hany, ← Bool.not_eq_true, Bool.and_eq_true, decide_eq_true_eq]
        exact hL
      rw [hany] at c95
      have hno : okP m f ps i = false := okP_no hp (fun q => hL ⟨q.k, by have := q.l; rwa [show p.r.toNat = r by omega] at this⟩)
      obtain ⟨e1, e2⟩ := no (rgt_no1 hlt hno)
      rw [e1, e2]
      generalize ldL m f r 6 = LL at *
      repeat' (first | refine w1g ?_ | refine w1l ?_ | refine w1q ?_ | refine w1b ?_ | refine w1p ?_ | ((first | refine w1r ?_ | refine w1k ?_ | refine w1e ?_ | refine CallC.go _ (fun _ => ⟨trivial, c97⟩) rfl ?_ | refine CallC.go _ (fun _ => ⟨trivial, c96⟩) rfl ?_ | refine CallC.go _ (fun _ => ⟨trivial, c95⟩) rfl ?_); (refine sy1 ?_; try exact True.intro)) | refine an2 ?_ | (refine CallC.go (bv false) (fun hpc => absurd hpc (by simp [pc])) rfl ?_; (refine sy1 ?_; try exact True.intro)) | fail)
      refine W_cond (by rfl) (fun _ => ?_) (fun h => by cases h)
      repeat' (first | refine w1g ?_ | refine w1l ?_ | refine w1q ?_ | refine w1b ?_ | refine w1p ?_ | ((first | refine w1r ?_ | refine w1k ?_ | refine w1e ?_); (refine sy1 ?_; try exact True.intro)) | refine an2 ?_ | fail)
      exact W_ret ⟨[_, _], ⟨rfl, rfl, rfl⟩, rfl⟩
    obtain ⟨k, ek⟩ : ∃ k : Nat, p.k = k := ⟨p.k.toNat, by omega⟩
    have hany : (ldL m f r 6).any (ldEq ⟨p.r, p.k⟩) = true := by
      rw [hany, Bool.and_eq_true, decide_eq_true_eq]
      exact hL
    rw [hany] at c95
    have c98 : Sy.Fn Try.prog 98 [aAt m f, iv w, .agg [iv r, iv k]] (bv (hpsB m f w r k)) := fn98 m f w r k hok (by omega) (by omega)
    rw [← er, ← ek, ← ew] at c98
    have t1 : p.w.toNat = w := by omega
    have t2 : p.r.toNat = r := by omega
    have t3 : p.k.toNat = k := by omega
    cases hH : hpsB m f w r k
    · have hno : okP m f ps i = false := okP_no hp (fun q => by
        have := q.h
        rw [t1, t2, t3, hH] at this
        cases this)
      obtain ⟨e1, e2⟩ := no (rgt_no1 hlt hno)
      rw [e1, e2]
      rw [hH] at c98
      generalize ldL m f r 6 = LL at *
      repeat' (first | refine w1g ?_ | refine w1l ?_ | refine w1q ?_ | refine w1b ?_ | refine w1p ?_ | ((first | refine w1r ?_ | refine w1k ?_ | refine w1e ?_ | refine CallC.go _ (fun _ => ⟨trivial, c97⟩) rfl ?_ | refine CallC.go _ (fun _ => ⟨trivial, c96⟩) rfl ?_ | refine CallC.go _ (fun _ => ⟨trivial, c95⟩) rfl ?_ | refine CallC.go _ (fun _ => ⟨trivial, c98⟩) rfl ?_); (refine sy1 ?_; try exact True.intro)) | refine an2 ?_ | fail)
      refine W_cond (by rfl) (fun _ => ?_) (fun h => by cases h)
      repeat' (first | refine w1g ?_ | refine w1l ?_ | refine w1q ?_ | refine w1b ?_ | refine w1p ?_ | ((first | refine w1r ?_ | refine w1k ?_ | refine w1e ?_); (refine sy1 ?_; try exact True.intro)) | refine an2 ?_ | fail)
      exact W_ret ⟨[_, _], ⟨rfl, rfl, rfl⟩, rfl⟩
    rw [hH] at c98
    have hpok : PrtOK m f p := ⟨by omega, by omega, hL.1, by omega, by rw [t2]; exact hL.2, by rw [t1, t2, t3]; exact hH⟩
    have hoki : okP m f ps i = true := by rw [okd, prtB_iff.2 hpok]; rfl
    have hrg := hsum w (by omega)
    have hrg0 := spW_mono (w := w) (ps := ps.take i) (fun q hq => (hpk q hq).v.1) 0
    have hrg0 : 0 ≤ spW (ps.take i) w := hrg0
    have hcw := (workB_ok (hok.w w (by omega))).c
    have hset : (tbI m.ws.length (spW (ps.take i))).set w (spW (ps.take i) w + p.v) = tbI m.ws.length (spW (ps.take (i + 1))) := by
      rw [hsn]
      refine tbI_set ?_ (fun x hx hne => ?_)
      · rw [spW_snoc]; unfold spS; rw [if_pos (by omega)]
      · rw [spW_snoc]; unfold spS; rw [if_neg (by omega)]
    have hat := tbI_at (n := m.ws.length) (spW (ps.take i)) (show w < m.ws.length by omega)
    have tl2 := tbI_len m.ws.length (spW (ps.take (i + 1)))
    have hat2 := tbI_at (n := m.ws.length) (spW (ps.take (i + 1))) (show w < m.ws.length by omega)
    have hgs : updG (gP (ps.take i)) (.agg #[.int .i64 p.w, .int .i64 p.r, .int .i64 p.k]) (.int .i64 p.v) = gP (ps.take (i + 1)) := by rw [hsn, gP_snoc]; rfl
    rw [t1] at z6
    generalize ldL m f r 6 = LL at *
    repeat (first | refine WK_go ?_ | refine W_seqL ?_ | refine W_seq ?_ | refine W_block ?_)
    refine W_regL ?_
    (refine sy1 ?_; try exact True.intro)
    repeat (first | refine And.intro (by omega) ?_ | (refine CallC.go _ (fun _ => ⟨trivial, c97⟩) rfl ?_; (refine sy1 ?_; try exact True.intro)) | (refine CallC.go _ (fun _ => ⟨trivial, c96⟩) rfl ?_; (refine sy1 ?_; try exact True.intro)) | (refine CallC.go _ (fun _ => ⟨trivial, c95⟩) rfl ?_; (refine sy1 ?_; try exact True.intro)) | (refine CallC.go _ (fun _ => ⟨trivial, c98⟩) rfl ?_; (refine sy1 ?_; try exact True.intro)))
    repeat (first | refine WK_go ?_ | refine W_seqL ?_ | refine W_seq ?_ | refine W_block ?_)
    refine W_cond (by rfl) (fun h => by cases h) (fun _ => ?_)
    refine W_skip ?_
    try (refine sy1 ?_; try exact True.intro)
    repeat (first | refine WK_go ?_ | refine W_seqL ?_ | refine W_seq ?_ | refine W_block ?_)
    refine W_regX [4] ?_
    simp (maxSteps := 400000) (disch := omega) only [push_cast, ↓reduceIte, reduceCtorEq, Nat.reduceAdd, Nat.reduceSub, Nat.reduceEqDiff, Nat.reduceLeDiff, Nat.reduceLT, Nat.reduceBEq, Nat.reduceDiv, Nat.reduceMod, Nat.reducePow, Nat.reduceMul, Int.reduceToNat, Int.reduceLT, Int.reduceLE, chainX, SpM, List.take_succ_cons, List.take_zero, List.drop_succ_cons, List.drop_zero]
    refine ⟨[], rfl, rfl, 30, b, _, .agg #[.int .i64 p.w, .int .i64 p.r, .int .i64 p.k], .int .i64 p.v, rfl, rfl, rfl, ok3 _ _ _, rfl, ?_⟩
    rw [hgs]
    try (refine sy1 ?_; try exact True.intro)
    repeat' (first | refine w1g ?_ | refine w1l ?_ | refine w1q ?_ | refine w1b ?_ | refine w1p ?_ | ((first | refine w1r ?_ | refine w1k ?_ | refine w1e ?_); simp (maxSteps := 400000) (disch := omega) only [push_cast, ↓reduceIte, reduceCtorEq, Nat.reduceAdd, Nat.reduceSub, Nat.reduceEqDiff, Nat.reduceLeDiff, Nat.reduceLT, Nat.reduceBEq, Nat.reduceDiv, Nat.reduceMod, Nat.reducePow, Nat.reduceMul, Int.reduceToNat, Int.reduceLT, Int.reduceLE, ew, tl, hat, Int.toNat_natCast]) | refine an2 ?_ | fail)
    refine ⟨rfl, ⟨Nat.le_of_ble_eq_true rfl, rfl⟩, by omega, spW (ps.take i) w + p.v, rfl, rfl, ?_⟩
    rw [hset]
    (refine sy1 ?_; try exact True.intro)
    have hgw2 : m.ws.getD w dW = gw m w := rfl
    repeat' (first | refine w1g ?_ | refine w1l ?_ | refine w1q ?_ | refine w1b ?_ | refine w1p ?_ | ((first | refine w1r ?_ | refine w1k ?_ | refine w1e ?_); simp (maxSteps := 400000) (disch := omega) only [push_cast, ↓reduceIte, reduceCtorEq, Nat.reduceAdd, Nat.reduceSub, Nat.reduceEqDiff, Nat.reduceLeDiff, Nat.reduceLT, Nat.reduceBEq, Nat.reduceDiv, Nat.reduceMod, Nat.reducePow, Nat.reduceMul, Int.reduceToNat, Int.reduceLT, Int.reduceLE, ew, tl2, hat2, hgw2, Int.toNat_natCast]) | refine an2 ?_ | fail)
    refine W_condD (by rfl) (fun hz => ?_) (fun hz => ?_)
    · obtain ⟨e1, e2⟩ := no (rgt_sum (i := i + 1) (by omega) (show w < m.ws.length by omega) hz)
      rw [e1, e2]
      repeat' (first | refine w1g ?_ | refine w1l ?_ | refine w1q ?_ | refine w1b ?_ | refine w1p ?_ | ((first | refine w1r ?_ | refine w1k ?_ | refine w1e ?_); (refine sy1 ?_; try exact True.intro)) | refine an2 ?_ | fail)
      exact W_ret ⟨[_, _], ⟨rfl, rfl, rfl⟩, rfl⟩
    · repeat' (first | refine w1g ?_ | refine w1l ?_ | refine w1q ?_ | refine w1b ?_ | refine w1p ?_ | ((first | refine w1r ?_ | refine w1k ?_ | refine w1e ?_); (refine sy1 ?_; try exact True.intro)) | refine an2 ?_ | fail)
      refine ⟨i + 1, ⟨by omega, fun x hx => ?_, fun x hx => ?_⟩, by omega, by rfl, ?_⟩
      · rcases Nat.lt_or_ge x i with g | g
        · exact hall x g
        · rw [show x = i by omega]; exact hoki
      · by_cases hxw : x = w
        · subst hxw; omega
        · have := hsum x hx
          rw [hsn, spW_snoc]
          unfold spS
          rw [if_neg (by omega)]
          exact this
      · (refine syE ?_; try exact True.intro)
  have hil : i = ps.length := by omega
  subst hil
  rw [List.take_length] at *
  clear h5 hi
  have c88 := fn88 hs hl2 99 [] [] (fun x => !hgB x) (fun x _ => fn99 x)
  repeat' (first | refine w1g ?_ | refine w1l ?_ | refine w1q ?_ | refine w1b ?_ | refine w1p ?_ | ((first | refine w1r ?_ | refine w1k ?_ | refine w1e ?_ | refine CallC.now (c88) ?_); (refine sy1 ?_; try exact True.intro)) | refine an2 ?_ | fail)
  cases hha : hs.any fun x => !hgB x
  rotate_left
  · have hno : rgtB m f ps hs = false := by
      obtain ⟨x, hx, hq⟩ := List.any_eq_true.1 hha
      obtain ⟨j, hj, rfl⟩ := List.mem_iff_getElem.1 hx
      refine rgt_no3 (i := j) (by omega) ?_
      have e : gi hs j = hs[j] := by simp [gi, List.getD, hj]
      rw [e]; simpa using hq
    obtain ⟨e1, e2⟩ := no hno
    rw [e1, e2]
    refine W_cond (by rfl) (fun _ => ?_) (fun h => by cases h)
    repeat' (first | refine w1g ?_ | refine w1l ?_ | refine w1q ?_ | refine w1b ?_ | refine w1p ?_ | ((first | refine w1r ?_ | refine w1k ?_ | refine w1e ?_); (refine sy1 ?_; try exact True.intro)) | refine an2 ?_ | fail)
    exact W_ret ⟨[_, _], ⟨rfl, rfl, rfl⟩, rfl⟩
  refine W_cond (by rfl) (fun h => by cases h) (fun _ => ?_)
  have h3 : ∀ x, x < m.n.toNat → hgB (gi hs x) = true := fun x hx => by
    have h1 := List.any_eq_false.1 hha (gi hs x) (by unfold gi; exact getD_mem' 0 hs x (by omega))
    simpa using h1
  have hgr : ∀ x, x < m.n.toNat → -35184372088832 ≤ gi hs x ∧ gi hs x ≤ 35184372088832 := fun x hx => by
    have := h3 x hx
    unfold hgB at this
    rwa [decide_eq_true_eq] at this
  have hv1 : ∀ p ∈ ps, p.v ≤ 1073741824 := fun p hp => by
    have h1 := (hpk p hp).v; have h2 := (hpk p hp).w
    have := (workB_ok (hok.w p.w.toNat (by omega))).c
    omega
  have hv0 : ∀ p ∈ ps, 0 ≤ p.v := fun p hp => (hpk p hp).v.1
  have hdu : ∀ i, i < ps.length → dupB ps i = false := fun i hi => by
    have := hall i hi
    unfold okP at this
    rw [Bool.and_eq_true, Bool.not_eq_true'] at this
    exact this.2
  have hhol := gP_hol hdu
  generalize gP ps = g at *
  refine W_skip ?_
  try (refine sy1 ?_; try exact True.intro)
  repeat (first | refine WK_go ?_ | refine W_seqL ?_ | refine W_seq ?_ | refine W_block ?_)
  refine W_le (le_frzM 15 [2, 3, 5, 9, 12] [11] 31 30 b 3 g rfl rfl rfl rfl) ?_
  (refine sy1 ?_; try exact True.intro)
  have hV : ∀ w r k : Nat, 0 ≤ partV w r k ps ∧ partV w r k ps ≤ 1125899906842624 := fun w r k => ⟨partV_rng hv0, by have := partV_le (w := w) (r := r) (k := k) (M := 1073741824) (by omega) hv1; omega⟩
  have gI : ∀ (l : List Int) i, l.getD i 0 = gi l i := fun _ _ => rfl
  repeat' (first | refine w1g ?_ | refine w1l ?_ | refine w1q ?_ | refine w1b ?_ | refine w1p ?_ | ((first | refine w1r ?_ | refine w1k ?_ | refine w1e ?_ | refine CallC.now (fn100 m f g) ?_); (refine sy1 ?_; try exact True.intro)) | refine an2 ?_ | fail)
  refine W_loopU (fun i : Nat => [(173, iv i)]) (fun w => []) (fun i => i ≤ m.rs.length ∧ ∀ x, x < i → rdOK m f ps hs x = true) (fun i => m.rs.length - i) 0 ⟨by omega, fun j hj => by omega⟩ (by rfl) (by rfl) (fun i hi => ?_)
  obtain ⟨hi, hall4⟩ := hi
  (refine sy1 ?_; try exact True.intro)
  repeat' (first | refine w1g ?_ | refine w1l ?_ | refine w1q ?_ | refine w1b ?_ | refine w1p ?_ | ((first | refine w1r ?_ | refine w1k ?_ | refine w1e ?_); (refine sy1 ?_; try exact True.intro)) | refine an2 ?_ | fail)
  refine W_condD (by rfl) (fun h5 => ?_) (fun h5 => ?_)
  · have hlt : i < m.rs.length := by omega
    have ok := roadB_ok (hok.r i hlt)
    have ofr := ok.f
    have otr := ok.t
    have g1 := hgr (gr m i).f.toNat (by omega)
    have g2 := hgr (gr m i).t.toNat (by omega)
    have hgR : m.rs.getD i dR = gr m i := rfl
    have c130 := fn130 m f g (fun w r k => partV w r k ps) hhol hV i hok hlt
    rw [rdS_eq hv1 6 (by omega)] at c130
    have hrr := redS_rng (f := f) hok hlt hv0 6
    have erd : rdOK m f ps hs i = !(usB m f (evL m.ws.length) i && decide (redS m f ps i 6 < gi hs (gr m i).t.toNat - gi hs (gr m i).f.toNat)) := rfl
    obtain ⟨rv, hrv⟩ : ∃ rv, rv = if usB m f (evL m.ws.length) i = true then redS m f ps i 6 else -1 := ⟨_, rfl⟩
    rw [← hrv] at c130
    have hrv2 : ∀ d : Int, (decide (0 ≤ rv) && decide (rv < d)) = (usB m f (evL m.ws.length) i && decide (redS m f ps i 6 < d)) := fun d => by
      rw [hrv]
      cases usB m f (evL m.ws.length) i
      · rfl
      · rw [if_pos rfl, decide_eq_true (by omega)]
    rw [← hrv2] at erd
    have hrl : -1 ≤ rv ∧ rv ≤ 9223372036854775807 := by
      rw [hrv]; split <;> omega
    clear hrv2 hrv
    have g1' : -35184372088832 ≤ hs.getD (gr m i).f.toNat 0 ∧ hs.getD (gr m i).f.toNat 0 ≤ 35184372088832 := g1
    have g2' : -35184372088832 ≤ hs.getD (gr m i).t.toNat 0 ∧ hs.getD (gr m i).t.toNat 0 ≤ 35184372088832 := g2
    repeat' (first | refine w1g ?_ | refine w1l ?_ | refine w1q ?_ | refine w1b ?_ | refine w1p ?_ | ((first | refine w1r ?_ | refine w1k ?_ | refine w1e ?_ | refine CallC.now (c130) ?_); simp (maxSteps := 400000) (disch := omega) only [push_cast, ↓reduceIte, reduceCtorEq, Nat.reduceAdd, Nat.reduceSub, Nat.reduceEqDiff, Nat.reduceLeDiff, Nat.reduceLT, Nat.reduceBEq, Nat.reduceDiv, Nat.reduceMod, Nat.reducePow, Nat.reduceMul, Int.reduceToNat, Int.reduceLT, Int.reduceLE, hgR]) | refine an2 ?_ | fail)
    repeat' (first | refine w1g ?_ | refine w1l ?_ | refine w1q ?_ | refine w1b ?_ | refine w1p ?_ | ((first | refine w1r ?_ | refine w1k ?_ | refine w1e ?_); simp (maxSteps := 400000) (disch := omega) only [push_cast, ↓reduceIte, reduceCtorEq, Nat.reduceAdd, Nat.reduceSub, Nat.reduceEqDiff, Nat.reduceLeDiff, Nat.reduceLT, Nat.reduceBEq, Nat.reduceDiv, Nat.reduceMod, Nat.reducePow, Nat.reduceMul, Int.reduceToNat, Int.reduceLT, Int.reduceLE, hgR]) | refine an2 ?_ | fail)
    refine W_cond (by rfl) (fun hz => ?_) (fun hz => ?_)
    · have hz : (decide (0 ≤ rv) && decide (rv < gi hs (gr m i).t.toNat - gi hs (gr m i).f.toNat)) = true := hz
      rw [hz] at erd
      obtain ⟨e1, e2⟩ := no (rgt_no4 hlt erd)
      rw [e1, e2]
      repeat' (first | refine w1g ?_ | refine w1l ?_ | refine w1q ?_ | refine w1b ?_ | refine w1p ?_ | ((first | refine w1r ?_ | refine w1k ?_ | refine w1e ?_); (refine sy1 ?_; try exact True.intro)) | refine an2 ?_ | fail)
      exact W_ret ⟨[_, _], ⟨rfl, rfl, rfl⟩, rfl⟩
    · have hz : (decide (0 ≤ rv) && decide (rv < gi hs (gr m i).t.toNat - gi hs (gr m i).f.toNat)) = false := hz
      rw [hz] at erd
      repeat' (first | refine w1g ?_ | refine w1l ?_ | refine w1q ?_ | refine w1b ?_ | refine w1p ?_ | ((first | refine w1r ?_ | refine w1k ?_ | refine w1e ?_); (refine sy1 ?_; try exact True.intro)) | refine an2 ?_ | fail)
      refine ⟨i + 1, ⟨by omega, fun x hx => ?_⟩, by omega, by rfl, ?_⟩
      · rcases Nat.lt_or_ge x i with g | g
        · exact hall4 x g
        · rw [show x = i by omega, erd]; rfl
      · (refine syE ?_; try exact True.intro)
  · have hyes : rgtB m f ps hs = true := rgt_yes hall hsum h3 (fun x hx => hall4 x (by omega))
    have e1 : bdE m f fr to ps hs = 0 := by rw [bde, if_pos hyes]
    have e2 : bdV m f fr to ps hs = gi hs to.toNat - gi hs fr.toNat := by unfold bdV; rw [if_pos e1]
    have g1 : -35184372088832 ≤ hs.getD fr.toNat 0 ∧ hs.getD fr.toNat 0 ≤ 35184372088832 := hgr fr.toNat (by omega)
    have g2 : -35184372088832 ≤ hs.getD to.toNat 0 ∧ hs.getD to.toNat 0 ≤ 35184372088832 := hgr to.toNat (by omega)
    rw [e1, e2]
    repeat' (first | refine w1g ?_ | refine w1l ?_ | refine w1q ?_ | refine w1b ?_ | refine w1p ?_ | ((first | refine w1r ?_ | refine w1k ?_ | refine w1e ?_); (refine sy1 ?_; try exact True.intro)) | refine an2 ?_ | fail)
    exact W_ret ⟨[_, _], ⟨rfl, rfl, rfl⟩, rfl⟩
end Go.Proofs.Ytfbdlmenhoagmaa

namespace Go.Proofs.Ytfbdlmenhoagmaa
open Go Sy
set_option maxRecDepth 100000
set_option maxHeartbeats 4000000
set_option linter.unusedVariables false
set_option linter.unusedSimpArgs false
end Go.Proofs.Ytfbdlmenhoagmaa

namespace Go.Proofs.Ytfbdlmenhoagmaa
open Go Sy
set_option maxRecDepth 100000
set_option maxHeartbeats 4000000
set_option linter.unusedVariables false
set_option linter.unusedSimpArgs false
structure ChYes (m : Mp) (f : Nat → Int) (fr to : Int) (s : List Int) (n : Int) : Prop where
  v : chV m f fr to = some (s, n)
  b : bestS m f fr to = some (s, n)
  ok : OkM m
  z : szE f = 0
  f : 0 ≤ fr ∧ fr < m.n
  t : 0 ≤ to ∧ to < m.n
theorem bnH_len {m : Mp} (h : OkM m) (f : Nat → Int) (fr to : Int) (hf : 0 ≤ fr ∧ fr < m.n) : ((bnH m f fr to).length : Int) = m.n := by
  obtain ⟨k1, k2⟩ := edgC_ok h false (c := rdC m f) (fun i hi => (rdC_rng h f hi).1)
  have hDB : Dst (edgC m false (rdC m f)) fr.toNat m.n.toNat (bnD m f fr) := dst_dst k1 (by omega)
  unfold bnH
  rw [mnL_len, hDB.len]
  omega
end Go.Proofs.Ytfbdlmenhoagmaa

namespace Go.Proofs.Ytfbdlmenhoagmaa
open Go Sy
set_option linter.unusedVariables false
def sF {α : Type} (g : α → Int) : List α → Int
  | [] => 0
  | x :: l => g x + sF g l
theorem sF_app {α : Type} (g : α → Int) : ∀ (l k : List α), sF g (l ++ k) = sF g l + sF g k
  | [], k => by simp [sF]
  | x :: l, k => by simp only [List.cons_append, sF, sF_app g l k]; omega
theorem sF_le {α : Type} {g h : α → Int} : ∀ {l : List α}, (∀ x ∈ l, g x ≤ h x) → sF g l ≤ sF h l
  | [], _ => Int.le_refl _
  | x :: l, hh => by
    have h1 := hh x List.mem_cons_self
    have h2 := sF_le (l := l) fun y hy => hh y (List.mem_cons_of_mem _ hy)
    simp only [sF]; omega
theorem sF_congr {α : Type} {g h : α → Int} {l : List α} (hh : ∀ x ∈ l, g x = h x) : sF g l = sF h l :=
  Int.le_antisymm (sF_le fun x hx => by rw [hh x hx]; exact Int.le_refl _) (sF_le fun x hx => by rw [hh x hx]; exact Int.le_refl _)
theorem sF_add {α : Type} (g h : α → Int) : ∀ (l : List α), sF (fun x => g x + h x) l = sF g l + sF h l
  | [] => rfl
  | x :: l => by simp only [sF, sF_add g h l]; omega
theorem sF_zero {α : Type} : ∀ (l : List α), sF (fun _ => (0 : Int)) l = 0
  | [] => rfl
  | x :: l => by simp only [sF, sF_zero l]; rfl
theorem sF_nn {α : Type} {g : α → Int} {l : List α} (h : ∀ x ∈ l, 0 ≤ g x) : 0 ≤ sF g l := by
  have := sF_le (g := fun _ => (0 : Int)) (h := g) (l := l) h
  have h2 := sF_zero l
  omega
theorem sF_swap {α β : Type} (g : α → β → Int) : ∀ (l : List α) (k : List β), sF (fun x => sF (fun y => g x y) k) l = sF (fun y => sF (fun x => g x y) l) k
  | [], k => by simp only [sF, sF_zero]
  | x :: l, k => by
    simp only [sF]
    rw [sF_swap g l k, ← sF_add]
theorem sF_one {α : Type} {g : α → Int} : ∀ {l : List α} {x : α}, x ∈ l → (∀ y ∈ l, 0 ≤ g y) → g x ≤ sF g l
  | [], x, h, _ => by cases h
  | y :: l, x, h, hn => by
    simp only [sF]
    have h0 := sF_nn (l := l) fun z hz => hn z (List.mem_cons_of_mem _ hz)
    rcases List.mem_cons.1 h with rfl | h
    · omega
    · have := sF_one h fun z hz => hn z (List.mem_cons_of_mem _ hz)
      have := hn y List.mem_cons_self
      omega
theorem sF_uniq {α : Type} {q : α → Bool} {v : α → Int} {B : Int} (hB : 0 ≤ B) : ∀ {l : List α}, l.Pairwise (fun x y => ¬ (q x = true ∧ q y = true)) → (∀ x ∈ l, q x = true → v x ≤ B) → sF (fun x => if q x = true then v x else 0) l ≤ B
  | [], _, _ => hB
  | x :: l, hp, hv => by
    obtain ⟨h1, h2⟩ := List.pairwise_cons.1 hp
    simp only [sF]
    by_cases c : q x = true
    · rw [if_pos c]
      have h3 : sF (fun x => if q x = true then v x else 0) l = 0 := (sF_congr fun y hy => if_neg (fun z => h1 y hy ⟨c, z⟩)).trans (sF_zero l)
      have := hv x List.mem_cons_self c
      omega
    · rw [if_neg c]
      have := sF_uniq hB h2 fun y hy => hv y (List.mem_cons_of_mem _ hy)
      omega
theorem sF_foldl {α : Type} (g : α → Int) : ∀ (l : List α) (a : Int), l.foldl (fun n x => n + g x) a = a + sF g l
  | [], a => by simp [sF]
  | x :: l, a => by simp only [List.foldl_cons, sF, sF_foldl g l]; omega
theorem sumR_sF (m : Mp) (l : List Int) : sumR m l = sF (fun x => (gr m x.toNat).c) l := by
  unfold sumR; rw [sF_foldl]; omega
theorem costL_sF (m : Mp) (l : List Int) : costL m l = sF (fun x => (gw m x.toNat).c) l := by
  unfold costL; rw [sF_foldl]; omega
def ldP (m : Mp) (f : Nat → Int) (ps : List Prt) (road k : Nat) : Int := if ldsB m f road k = true then minP m f ps road k m.ws.length else 0
theorem redS_sF (m : Mp) (f : Nat → Int) (ps : List Prt) (road : Nat) : ∀ n, redS m f ps road n = (gr m road).c + sF (ldP m f ps road) (List.range n)
  | 0 => by show (gr m road).c = _ + 0; omega
  | n + 1 => by
    rw [redS_succ, redS_sF m f ps road n, List.range_succ, sF_app]
    unfold redK ldP
    simp only [sF]
    split <;> omega
theorem minP_le {m : Mp} {f : Nat → Int} {ps : List Prt} {road k : Nat} : ∀ n w, w < n → hpsB m f w road k = true → minP m f ps road k n ≤ partV w road k ps
  | 0, w, h, _ => by omega
  | n + 1, w, h, hh => by
    rw [minP_succ]
    unfold minS
    by_cases q : w = n
    · subst q
      rw [if_pos hh]; omega
    · have := minP_le n w (by omega) hh (ps := ps)
      split <;> omega
theorem minP_ge {m : Mp} {f : Nat → Int} {ps : List Prt} {road k : Nat} {v : Int} (hv : v ≤ 1125899906842624) : ∀ n, (∀ w, w < n → hpsB m f w road k = true → v ≤ partV w road k ps) → v ≤ minP m f ps road k n
  | 0, _ => hv
  | n + 1, h => by
    have h1 := minP_ge hv n fun w hw => h w (by omega)
    rw [minP_succ]
    unfold minS
    split
    · rename_i q
      have := h n (by omega) q
      omega
    · exact h1
theorem lds_help2 {m : Mp} {f : Nat → Int} {s : List Int} {road k : Nat} (hk : k < 6) (hs : ∀ x ∈ s, 0 ≤ x) (hu : usB m f s road = true) (h : (gr m road).lim k < f k) : ∃ x ∈ s, hpsB m f x.toNat road k = true := by
  have h3 := usN_iff.1 hu k hk
  apply Classical.byContradiction
  intro hno
  have h4 : limL m s road k ≤ f k - 1 := limL_iff.2 ⟨by omega, fun x hx hq => by
    apply Classical.byContradiction
    intro hl
    refine hno ⟨x, hx, ?_⟩
    unfold hpsB
    rw [Bool.and_eq_true, Bool.and_eq_true, beq_iff_eq, decide_eq_true_eq, decide_eq_true_eq]
    exact ⟨hq, by omega⟩⟩
  omega
theorem partV_cons {w r k : Int} {p : Prt} {ps : List Prt} (h : ∀ q ∈ p :: ps, 0 ≤ q.v) : partV w r k (p :: ps) ≤ (if prB w r k p = true then p.v else 0) + partV w r k ps := by
  have := partV_nn (w := w) (r := r) (k := k) (ps := ps) fun q hq => h q (List.mem_cons_of_mem _ hq)
  simp only [partV]
  split <;> omega
theorem spW_sF (w : Nat) : ∀ (ps : List Prt) (a : Int), ps.foldl (spS w) a = a + sF (fun p => if p.w.toNat = w then p.v else 0) ps
  | [], a => by simp [sF]
  | p :: ps, a => by
    rw [List.foldl_cons, spW_sF w ps]
    simp only [sF]
    unfold spS
    split <;> omega
theorem pays_le {w : Nat} {l : List Int} (hl : l.Nodup) : ∀ {ps : List Prt}, (∀ p ∈ ps, 0 ≤ p.v) → sF (fun x => sF (fun k : Nat => partV w x k ps) (List.range 6)) l ≤ sF (fun p => if p.w.toNat = w then p.v else 0) ps
  | [], _ => by
    have : sF (fun x => sF (fun k : Nat => partV w x k []) (List.range 6)) l = 0 := (sF_congr fun x _ => sF_zero (List.range 6)).trans (sF_zero l)
    rw [this]; exact Int.le_refl _
  | p :: ps, h => by
    have ih := pays_le hl (ps := ps) (w := w) fun q hq => h q (List.mem_cons_of_mem _ hq)
    have hv := h p List.mem_cons_self
    have h1 : sF (fun x => sF (fun k : Nat => partV w x k (p :: ps)) (List.range 6)) l ≤ sF (fun x => sF (fun k : Nat => (if prB w x k p = true then p.v else 0) + partV w x k ps) (List.range 6)) l :=
      sF_le fun x _ => sF_le fun k _ => partV_cons h
    have h2 : sF (fun x => sF (fun k : Nat => (if prB w x k p = true then p.v else 0) + partV w x k ps) (List.range 6)) l = sF (fun x => sF (fun k : Nat => if prB w x k p = true then p.v else 0) (List.range 6)) l + sF (fun x => sF (fun k : Nat => partV w x k ps) (List.range 6)) l := by
      rw [← sF_add]
      exact sF_congr fun x _ => sF_add _ _ _
    have h3 : sF (fun x => sF (fun k : Nat => if prB w x k p = true then p.v else 0) (List.range 6)) l ≤ if p.w.toNat = w then p.v else 0 := by
      have e : ∀ x ∈ l, sF (fun k : Nat => if prB w x k p = true then p.v else 0) (List.range 6) ≤ if (p.r == x && p.w == (w : Int)) = true then (if p.w.toNat = w then p.v else 0) else 0 := fun x _ => by
        by_cases c : (p.r == x && p.w == (w : Int)) = true
        · rw [if_pos c]
          rw [Bool.and_eq_true, beq_iff_eq, beq_iff_eq] at c
          rw [if_pos (by omega)]
          refine sF_uniq (q := fun k : Nat => prB w x k p) (v := fun _ => p.v) hv ?_ (fun _ _ _ => Int.le_refl _)
          refine (rng_pair (n := 6) (R := fun a b => a ≠ b) fun a b hab => by omega).imp fun {a b} hab hh => ?_
          unfold prB at hh
          simp only [Bool.and_eq_true, beq_iff_eq] at hh
          have := hh.1.2; have := hh.2.2
          omega
        · rw [if_neg c]
          have : sF (fun k : Nat => if prB w x k p = true then p.v else 0) (List.range 6) = 0 := (sF_congr fun k _ => if_neg (fun z => by
            unfold prB at z
            simp only [Bool.and_eq_true, beq_iff_eq] at z
            exact c (by rw [Bool.and_eq_true, beq_iff_eq, beq_iff_eq]; exact ⟨z.1.2, z.1.1⟩))).trans (sF_zero (List.range 6))
          omega
      refine Int.le_trans (sF_le e) ?_
      refine sF_uniq (q := fun x => p.r == x && p.w == (w : Int)) (v := fun _ => if p.w.toNat = w then p.v else 0) (by split <;> omega) ?_ (fun _ _ _ => Int.le_refl _)
      refine List.Pairwise.imp (fun {a b} hab hh => ?_) hl
      simp only [Bool.and_eq_true, beq_iff_eq] at hh
      exact hab (hh.1.1.symm.trans hh.2.1)
    simp only [sF]
    omega
theorem way_nodup {m : Mp} {f : Nat → Int} {s left : List Int} {to a : Int} {l : List Int} (h : Way m f s left to a l) : l.Nodup := by
  have hD : ∀ j i, i < j → j ≤ l.length → gi left (atP m a l j).toNat < gi left (atP m a l i).toNat := fun j => by
    induction j with
    | zero => intro i hi _; omega
    | succ j ih =>
      intro i hi hj
      have h1 := h.d j (by omega)
      rw [← atP_succ m a l j] at h1
      rcases Nat.lt_or_ge i j with q | q
      · have := ih i q (by omega); omega
      · rw [show i = j by omega]; exact h1
  unfold List.Nodup
  rw [List.pairwise_iff_getElem]
  intro i j hi hj hij e
  have e1 : gi l i = l[i] := by simp [gi, List.getD, hi]
  have e2 : gi l j = l[j] := by simp [gi, List.getD, hj]
  have f1 := h.f i hi
  have f2 := h.f j hj
  rw [e1] at f1
  rw [e2, ← e] at f2
  have h3 := hD j i hij (by omega)
  rw [← f1, ← f2] at h3
  omega
theorem rgt_parts {m : Mp} {f : Nat → Int} {ps : List Prt} {hs : List Int} (h : rgtB m f ps hs = true) : (∀ p ∈ ps, PrtOK m f p) ∧ (∀ w, w < m.ws.length → spW ps w ≤ (gw m w).c) ∧ ∀ i, i < m.rs.length → usB m f (evL m.ws.length) i = true → gi hs (gr m i).t.toNat - gi hs (gr m i).f.toNat ≤ redS m f ps i 6 := by
  have h1 := rgt_all h
  refine ⟨fun p hp => ?_, fun w hw => ?_, fun i hi hu => ?_⟩
  · obtain ⟨j, hj, rfl⟩ := List.mem_iff_getElem.1 hp
    have := okP_ok (h1 j hj)
    have e : ps.getD j dP = ps[j] := by simp [List.getD, hj]
    rwa [e] at this
  · apply Classical.byContradiction
    intro q
    have := rgt_no2 (f := f) (ps := ps) (hs := hs) hw (by omega)
    rw [this] at h; cases h
  · apply Classical.byContradiction
    intro q
    have := rgt_no4 (f := f) (ps := ps) (hs := hs) hi (by unfold rdOK; rw [hu, decide_eq_true (by omega)]; rfl)
    rw [this] at h; cases h
theorem pt_sum {m : Mp} {g : Int → Int} {hs : List Int} {fr : Int} {l : List Int} {a : Int} (hp : Pt m fr l a) (h : ∀ x ∈ l, gi hs (gr m x.toNat).t.toNat - gi hs (gr m x.toNat).f.toNat ≤ g x) : gi hs a.toNat - gi hs fr.toNat ≤ sF g l := by
  induction hp with
  | nil => simp [sF]
  | snoc h1 h2 h3 ih =>
    rename_i l a i
    have e := ih fun x hx => h x (List.mem_append_left _ hx)
    have e2 := h (i : Int) (by simp)
    rw [Int.toNat_natCast, h3] at e2
    rw [sF_app]
    simp only [sF]
    omega
theorem proof_le {m : Mp} {f : Nat → Int} {ps : List Prt} {hs : List Int} {fr to : Int} {s : List Int} {n : Int} (h : OkM m) (hf : 0 ≤ fr ∧ fr < m.n) (ht : 0 ≤ to ∧ to < m.n) (hb : bestS m f fr to = some (s, n)) (hr : rgtB m f ps hs = true) : gi hs to.toNat - gi hs fr.toNat ≤ n := by
  obtain ⟨b1, b2, b3, b4, _⟩ := best_way h hf ht hb
  obtain ⟨r1, r2, r3⟩ := rgt_parts hr
  have hnn : ∀ p ∈ ps, 0 ≤ p.v := fun p hp => (r1 p hp).v.1
  have hrng := b2.p.rng
  have hmem := b1.mem
  have hnd := way_nodup b2
  have h1 := pt_sum (g := fun x => redS m f ps x.toNat 6) b2.p (fun x hx => by
    have hx2 := hrng x hx
    exact r3 x.toNat (by omega) (usB_mono (srt_ev b1) (b2.u x hx)))
  have h2 : sF (fun x => redS m f ps x.toNat 6) (wayS m f fr to s) ≤ sF (fun x => (gr m x.toNat).c + sF (fun w => sF (fun k : Nat => partV w x k ps) (List.range 6)) s) (wayS m f fr to s) := sF_le fun x hx => by
    have hx2 := hrng x hx
    rw [redS_sF, ← sF_swap (fun (k : Nat) w => partV w x k ps)]
    have : sF (ldP m f ps x.toNat) (List.range 6) ≤ sF (fun k : Nat => sF (fun w => partV w x k ps) s) (List.range 6) := sF_le fun k hk => by
      have hk := List.mem_range.1 hk
      unfold ldP
      by_cases q : ldsB m f x.toNat k = true
      · rw [if_pos q]
        unfold ldsB at q
        rw [Bool.and_eq_true, decide_eq_true_eq] at q
        obtain ⟨w, hw, hh⟩ := lds_help2 hk (fun y hy => (hmem y hy).1) (b2.u x hx) q.2
        have hw2 := hmem w hw
        have g1 := minP_le (ps := ps) m.ws.length w.toNat (by omega) hh
        rw [show ((w.toNat : Nat) : Int) = w by omega, show ((x.toNat : Nat) : Int) = x by omega] at g1
        have g2 := sF_one (g := fun w => partV w x k ps) hw fun y _ => partV_nn hnn
        exact Int.le_trans g1 g2
      · rw [if_neg q]
        exact sF_nn fun y _ => partV_nn hnn
    omega
  rw [sF_add, ← sumR_sF, sF_swap (fun x w => sF (fun k : Nat => partV w x k ps) (List.range 6))] at h2
  have h3 : sF (fun w => sF (fun x => sF (fun k : Nat => partV w x k ps) (List.range 6)) (wayS m f fr to s)) s ≤ costL m s := by
    rw [costL_sF]
    refine sF_le fun w hw => ?_
    have hw2 := hmem w hw
    have g1 := pays_le (w := w.toNat) hnd hnn
    rw [show ((w.toNat : Nat) : Int) = w by omega] at g1
    have g2 := r2 w.toNat (by omega)
    unfold spW at g2
    rw [spW_sF] at g2
    omega
  omega
end Go.Proofs.Ytfbdlmenhoagmaa

namespace Go.Proofs.Ytfbdlmenhoagmaa
open Go Sy
set_option linter.unusedVariables false
theorem spW_even {m : Mp} (f : Nat → Int) (w : Nat) : ∀ n, sF (fun p : Prt => if p.w.toNat = w then p.v else 0) (evA m f n) = if w < n then ((hlW m f w m.rs.length).length : Int) * evQ m f w else 0
  | 0 => by rw [if_neg (by omega)]; rfl
  | n + 1 => by
    rw [evA_succ, sF_app, spW_even f w n]
    have key : ∀ (l : List Ld) (q : Int), sF (fun p : Prt => if p.w.toNat = w then p.v else 0) (l.map (evP n q)) = if w = n then (l.length : Int) * q else 0 := fun l q => by
      induction l with
      | nil => simp [sF]
      | cons x l ih =>
        simp only [List.map_cons, sF, ih, List.length_cons]
        have e1 : (evP n q x).w.toNat = n := rfl
        have e2 : (evP n q x).v = q := rfl
        rw [e1, e2]
        by_cases c : w = n
        · rw [if_pos c.symm, if_pos c, if_pos c]; push_cast; rw [Int.add_mul]; omega
        · rw [if_neg (fun z => c z.symm), if_neg c, if_neg c]; rfl
    unfold evW
    rw [key]
    by_cases c : w = n
    · subst c
      rw [if_neg (by omega), if_pos rfl, if_pos (by omega)]; omega
    · rw [if_neg c]
      by_cases d : w < n
      · rw [if_pos d, if_pos (by omega)]; omega
      · rw [if_neg d, if_neg (by omega)]; rfl
theorem dist_bound2 {es : List Edg} {s n : Nat} {os : List Int} {M : Int} (hr : ∀ e ∈ es, e.x < n ∧ e.y < n) (hM : 0 ≤ M) (hp : ∀ e ∈ es, 0 ≤ e.c → 1 ≤ e.c ∧ e.c ≤ M) (h : Dst es s n os) (hf : Fix es os) : ∀ (k y : Nat), rk os n y ≤ k → y < n → gi os y < far → gi os y ≤ k * M
  | 0, y, hk, hy, hl => by
    rcases last_road hr h hf hy hl with rfl | ⟨e, he, h1, h2, h3⟩
    · rw [h.src]; simp
    · have := rk_lt (os := os) (x := e.x) (y := y) (hr e he).1 (by have := hp e he h2; omega)
      omega
  | k + 1, y, hk, hy, hl => by
    have e : ((k + 1 : Nat) : Int) * M = k * M + M := by push_cast; rw [Int.add_mul]; omega
    rw [e]
    rcases last_road hr h hf hy hl with rfl | ⟨e, he, h1, h2, h3⟩
    · rw [h.src]
      have : 0 ≤ (k : Int) * M := Int.mul_nonneg (by omega) hM
      omega
    · have hc := hp e he h2
      have := rk_lt (os := os) (x := e.x) (y := y) (hr e he).1 (by omega)
      have := dist_bound2 hr hM hp h hf k e.x (by omega) (hr e he).1 (by omega)
      omega
theorem reach_fin {es fs : List Edg} {s n : Nat} {os : List Int} {M : Int} (hr : ∀ e ∈ es, e.x < n ∧ e.y < n) (hM : 0 ≤ M) (hn : (n : Int) * M + M < far) (hp : ∀ e ∈ es, 0 ≤ e.c → 1 ≤ e.c ∧ e.c ≤ M) (h : Dst es s n os) (hf : Fix es os)
    (hm : ∀ e ∈ fs, 0 ≤ e.c → ∃ e' ∈ es, e'.x = e.x ∧ e'.y = e.y ∧ 0 ≤ e'.c) {y : Nat} {d : Int} (hw : Wk fs s y d) : gi os y < far := by
  induction hw with
  | nil => rw [h.src]; decide
  | snoc h1 h2 h3 ih =>
    obtain ⟨e', q1, q2, q3, q4⟩ := hm _ h2 h3
    have hx := hr e' q1
    rw [← q2] at ih
    have g1 := dist_bound2 hr hM hp h hf n e'.x (rk_le _ _ _) hx.1 ih
    have g2 := hf e' q1 q4 ih
    have g3 := (hp e' q1 q4).2
    rw [← q3]
    omega
theorem edC_c (m : Mp) (bk : Bool) (c : Nat → Int) (i : Nat) : (edC m bk c i).c = c i := by unfold edC; split <;> rfl
structure EvD (m : Mp) (f : Nat → Int) (fr : Int) : Prop where
  r : ∀ e ∈ edgC m false (rdC m f), e.x < m.n.toNat ∧ e.y < m.n.toNat
  p : ∀ e ∈ edgC m false (rdC m f), 0 ≤ e.c → 1 ≤ e.c ∧ e.c ≤ 7516192768
  d : Dst (edgC m false (rdC m f)) fr.toNat m.n.toNat (bnD m f fr)
  x : Fix (edgC m false (rdC m f)) (bnD m f fr)
theorem evd {m : Mp} (h : OkM m) (f : Nat → Int) {fr : Int} (hf : 0 ≤ fr ∧ fr < m.n) : EvD m f fr := by
  obtain ⟨k1, k2⟩ := edgC_ok h false (c := rdC m f) (fun i hi => (rdC_rng h f hi).1)
  refine ⟨k1, fun e he hc => ?_, dst_dst k1 (by omega), dst_fix k1 k2 (by omega)⟩
  obtain ⟨i, hi, rfl⟩ := List.mem_map.1 he
  have hi := List.mem_range.1 hi
  have := redS_small (f := f) h (evA_le h f) hi
  rw [edC_c] at hc ⊢
  unfold rdC at hc ⊢
  by_cases q : usB m f (evL m.ws.length) i = true
  · rw [if_pos q]; omega
  · rw [if_neg q] at hc; omega
theorem most_fin {m : Mp} (h : OkM m) {f : Nat → Int} {fr to : Int} {s : List Int} {n : Int} (hf : 0 ≤ fr ∧ fr < m.n) (ht : 0 ≤ to ∧ to < m.n) (hb : bestS m f fr to = some (s, n)) : 0 ≤ gi (bnD m f fr) to.toNat ∧ gi (bnD m f fr) to.toNat ≤ 481036337152 := by
  have D := evd h f hf
  have hn := h.n
  obtain ⟨_, b2, b3, _⟩ := best_some hb
  obtain ⟨c1, c2⟩ := dL_dst h f s true ht
  unfold okS dL at b3
  rw [decide_eq_true_eq] at b3
  rcases c1.ach fr.toNat (by omega) with h3 | ⟨_, h3⟩
  · have h3 : gi (dstC m true (cU m f s) to) fr.toNat = 1125899906842624 := h3
    omega
  · have h4 := h3.rev
    have h5 := reach_fin D.r (M := 7516192768) (by omega) (by show _ < (1125899906842624 : Int); omega) D.p D.d D.x (fun e he hc => by
      obtain ⟨i, hi, rfl, hu⟩ := edge_us he hc
      refine ⟨edC m false (rdC m f) i, List.mem_map.2 ⟨i, List.mem_range.2 hi, rfl⟩, rfl, rfl, ?_⟩
      have hu2 := usB_mono (srt_ev b2) hu
      have := redS_small (f := f) h (evA_le h f) hi
      rw [edC_c]
      unfold rdC
      rw [if_pos hu2]; omega) h4
    have h6 := dist_bound2 D.r (M := 7516192768) (by omega) D.p D.d D.x m.n.toNat to.toNat (rk_le _ _ _) (by omega) h5
    have h7 := (D.d.le (y := to.toNat) (by omega)).1
    omega
theorem bnH_at {m : Mp} (h : OkM m) (f : Nat → Int) {fr : Int} (to : Int) (hf : 0 ≤ fr ∧ fr < m.n) {i : Nat} (hi : i < m.n.toNat) : gi (bnH m f fr to) i = min (gi (bnD m f fr) i) (gi (bnD m f fr) to.toNat) := by
  have D := evd h f hf
  have hl := D.d.len
  unfold bnH mnL
  rw [List.take_of_length_le (by omega), List.drop_of_length_le (by omega), List.append_nil]
  simp [gi, List.getD, hl, hi]
theorem even_right {m : Mp} (h : OkM m) {f : Nat → Int} {fr to : Int} {s : List Int} {n : Int} (hf : 0 ≤ fr ∧ fr < m.n) (ht : 0 ≤ to ∧ to < m.n) (hb : bestS m f fr to = some (s, n)) : rgtB m f (evA m f m.ws.length) (bnH m f fr to) = true := by
  have D := evd h f hf
  have hm := most_fin h hf ht hb
  refine rgt_yes (fun i hi => ?_) (fun w hw => ?_) (fun i hi => ?_) (fun i hi => ?_)
  · unfold okP
    rw [evA_dup m f _ i hi, Bool.not_false, Bool.and_true, prtB_iff]
    have hmem : (evA m f m.ws.length).getD i dP ∈ evA m f m.ws.length := getD_mem' dP _ i hi
    obtain ⟨w, r, k, e⟩ := evA_mem hmem
    have hq := evQ_rng h f e.lw
    have lw := e.lw; have lr := e.lr; have lk := e.lk
    rw [e.e]
    exact ⟨by show 0 ≤ (w : Int) ∧ (w : Int) < _; omega, by show 0 ≤ (r : Int) ∧ (r : Int) < _; omega, by show 0 ≤ (k : Int) ∧ (k : Int) ≤ 5; omega, hq, e.l, e.h⟩
  · unfold spW
    rw [spW_sF, spW_even, if_pos hw]
    have hc := (workB_ok (h.w w hw)).c
    unfold evQ
    have := Int.mul_ediv_self_le (x := (gw m w).c) (k := ((hlW m f w m.rs.length).length : Int))
    by_cases z : ((hlW m f w m.rs.length).length : Int) = 0
    · rw [z, Int.zero_mul]; omega
    · have := this z; omega
  · have hl := (D.d.le hi).1
    rw [bnH_at h f to hf hi]
    unfold hgB
    rw [decide_eq_true_eq]
    omega
  · have ok := roadB_ok (h.r i hi)
    have hft := ok.f; have htt := ok.t
    unfold rdOK
    rw [Bool.not_eq_true', Bool.and_eq_false_iff, decide_eq_false_iff_not]
    by_cases hu : usB m f (evL m.ws.length) i = true
    · right
      rw [bnH_at h f to hf (by omega), bnH_at h f to hf (by omega)]
      have hrd := redS_small (f := f) h (evA_le h f) hi
      have hc : rdC m f i = redS m f (evA m f m.ws.length) i 6 := by unfold rdC; rw [if_pos hu]
      have hfx := D.x (edC m false (rdC m f) i) (List.mem_map.2 ⟨i, List.mem_range.2 hi, rfl⟩) (by rw [edC_c, hc]; omega)
      have ex : (edC m false (rdC m f) i).x = (gr m i).f.toNat := rfl
      have ey : (edC m false (rdC m f) i).y = (gr m i).t.toNat := rfl
      rw [ex, ey, edC_c, hc] at hfx
      have hfx : gi (bnD m f fr) (gr m i).f.toNat < 1125899906842624 → _ := hfx
      omega
    · left; rw [← Bool.not_eq_true]; exact hu
theorem even_worth {m : Mp} (h : OkM m) {f : Nat → Int} {fr to : Int} (hf : 0 ≤ fr ∧ fr < m.n) (ht : 0 ≤ to ∧ to < m.n) {s : List Int} {n : Int} (hb : bestS m f fr to = some (s, n)) : gi (bnH m f fr to) to.toNat - gi (bnH m f fr to) fr.toNat = gi (bnD m f fr) to.toNat := by
  have D := evd h f hf
  have hm := most_fin h hf ht hb
  rw [bnH_at h f to hf (by omega), bnH_at h f to hf (by omega), D.d.src]
  omega
def clsB (p q : Prt) : Bool := p.w == q.w || (p.r == q.r && p.k == q.k)
def allD (ps : List Prt) : Prop := ps.Pairwise fun p q => clsB q p = false
def costP (m : Mp) (p : Nat → Bool) : Int := sF (fun w => if p w = true then (gw m w).c else 0) (List.range m.ws.length)
def setP (m : Mp) (p : Nat → Bool) : List Int := (evL m.ws.length).filter fun x => p x.toNat
theorem setP_srt (m : Mp) (p : Nat → Bool) : Srt m.ws.length 0 (setP m p) := filter_srt _ _ _ (ev_srt _)
theorem setP_mem {m : Mp} {p : Nat → Bool} {w : Nat} (hw : w < m.ws.length) (h : p w = true) : (w : Int) ∈ setP m p := by
  unfold setP
  rw [List.mem_filter, ev_mem]
  exact ⟨by omega, by simpa using h⟩
theorem setP_mono {m : Mp} {p q : Nat → Bool} (h : ∀ w, p w = true → q w = true) : ∀ x ∈ setP m p, x ∈ setP m q := fun x hx => by
  unfold setP at hx ⊢
  rw [List.mem_filter] at hx ⊢
  exact ⟨hx.1, h _ hx.2⟩
theorem sF_filter {α : Type} (g : α → Int) (p : α → Bool) : ∀ l : List α, sF g (l.filter p) = sF (fun x => if p x = true then g x else 0) l
  | [] => rfl
  | x :: l => by
    rw [List.filter_cons]
    by_cases c : p x = true
    · rw [if_pos c]; simp only [sF, sF_filter g p l]; rw [if_pos c]
    · rw [if_neg c]; simp only [sF, sF_filter g p l]; rw [if_neg c]; omega
theorem sF_map {α β : Type} (g : β → Int) (k : α → β) : ∀ l : List α, sF g (l.map k) = sF (fun x => g (k x)) l
  | [] => rfl
  | x :: l => by simp only [List.map_cons, sF, sF_map g k l]
theorem cost_setP (m : Mp) (p : Nat → Bool) : costL m (setP m p) = costP m p := by
  rw [costL_sF]
  unfold setP costP evL
  rw [sF_filter, sF_map]
  rfl
def hlp (m : Mp) (f : Nat → Int) (i w : Nat) : Bool := (List.range 6).any fun k => ldsB m f i k && hpsB m f w i k
theorem ev_in {m : Mp} {f : Nat → Int} {w r k : Nat} (hw : w < m.ws.length) (hr : r < m.rs.length) (hk : k < 6) (hl : ldsB m f r k = true) (hh : hpsB m f w r k = true) : (⟨r, k⟩ : Ld) ∈ hlW m f w m.rs.length ∧ (⟨w, r, k, evQ m f w⟩ : Prt) ∈ evA m f m.ws.length := by
  have h1 : (⟨r, k⟩ : Ld) ∈ hl1 m f w r k := by unfold hl1; rw [if_pos (by rw [hl, hh]; rfl)]; exact List.mem_singleton.2 rfl
  have h2 : (⟨r, k⟩ : Ld) ∈ hlW m f w m.rs.length := List.mem_flatMap.2 ⟨r, List.mem_range.2 hr, List.mem_flatMap.2 ⟨k, List.mem_range.2 hk, h1⟩⟩
  exact ⟨h2, List.mem_flatMap.2 ⟨w, List.mem_range.2 hw, List.mem_map.2 ⟨_, h2, rfl⟩⟩⟩
theorem pair_eq {α : Type} {R : α → α → Prop} : ∀ {l : List α}, l.Pairwise R → ∀ {x y : α}, x ∈ l → y ∈ l → x = y ∨ R x y ∨ R y x
  | [], _, x, _, hx, _ => by cases hx
  | a :: l, h, x, y, hx, hy => by
    obtain ⟨h1, h2⟩ := List.pairwise_cons.1 h
    rcases List.mem_cons.1 hx with e1 | hx' <;> rcases List.mem_cons.1 hy with e2 | hy'
    · exact .inl (e1.trans e2.symm)
    · exact .inr (.inl (e1 ▸ h1 y hy'))
    · exact .inr (.inr (e2 ▸ h1 x hx'))
    · exact pair_eq h2 hx' hy'
theorem one_work {m : Mp} {f : Nat → Int} (hd : allD (evA m f m.ws.length)) {w w' r k : Nat} (hw : w < m.ws.length) (hw' : w' < m.ws.length) (hr : r < m.rs.length) (hk : k < 6) (hl : ldsB m f r k = true) (h1 : hpsB m f w r k = true) (h2 : hpsB m f w' r k = true) : w = w' := by
  rcases pair_eq hd (ev_in hw hr hk hl h1).2 (ev_in hw' hr hk hl h2).2 with q | q | q
  · have := congrArg Prt.w q
    have : (w : Int) = w' := this
    omega
  · unfold clsB at q; simp at q
  · unfold clsB at q; simp at q
theorem one_load {m : Mp} {f : Nat → Int} (hd : allD (evA m f m.ws.length)) {w r k : Nat} (hw : w < m.ws.length) (hr : r < m.rs.length) (hk : k < 6) (hl : ldsB m f r k = true) (h1 : hpsB m f w r k = true) : evQ m f w = (gw m w).c := by
  have hin := (ev_in hw hr hk hl h1).1
  have hlen : (hlW m f w m.rs.length).length = 1 := by
    rcases hL : hlW m f w m.rs.length with _ | ⟨x, _ | ⟨y, l⟩⟩
    · rw [hL] at hin; cases hin
    · rfl
    · exfalso
      have hp : (evW m f w).Pairwise fun p q => clsB q p = false := by
        have hsub : (evA m f m.ws.length).Pairwise fun p q => clsB q p = false := hd
        unfold evA at hsub
        rw [List.pairwise_flatMap] at hsub
        exact hsub.1 w (List.mem_range.2 hw)
      unfold evW at hp
      rw [hL, List.map_cons, List.map_cons] at hp
      have := (List.pairwise_cons.1 hp).1 _ List.mem_cons_self
      unfold clsB evP at this
      simp at this
  unfold evQ
  rw [hlen]; simp
theorem part_ev {m : Mp} {f : Nat → Int} {w r k : Nat} (hw : w < m.ws.length) (hr : r < m.rs.length) (hk : k < 6) (hl : ldsB m f r k = true) (h1 : hpsB m f w r k = true) : partV w r k (evA m f m.ws.length) = evQ m f w := by
  have key : ∀ (ps : List Prt), ps.Pairwise (fun x y => prB y.w y.r y.k x = false) → ∀ p ∈ ps, partV p.w p.r p.k ps = p.v := fun ps hp => by
    induction ps with
    | nil => intro p h; cases h
    | cons a ps ih =>
      obtain ⟨h1, h2⟩ := List.pairwise_cons.1 hp
      intro p hm
      simp only [partV]
      rcases List.mem_cons.1 hm with rfl | hm
      · have : prB p.w p.r p.k p = true := by unfold prB; simp
        rw [if_pos this]
      · rw [if_neg (by rw [h1 p hm]; simp)]
        exact ih h2 p hm
  exact key _ (evA_pair m f _) ⟨w, r, k, evQ m f w⟩ (ev_in hw hr hk hl h1).2
theorem hlp_cost {m : Mp} (h : OkM m) {f : Nat → Int} (hd : allD (evA m f m.ws.length)) {i : Nat} (hi : i < m.rs.length) : sF (fun w => if hlp m f i w = true then (gw m w).c else 0) (List.range m.ws.length) ≤ sF (ldP m f (evA m f m.ws.length) i) (List.range 6) := by
  have hcn : ∀ w, w < m.ws.length → 0 ≤ (gw m w).c ∧ (gw m w).c ≤ 1073741824 := fun w hw => by have := (workB_ok (h.w w hw)).c; omega
  have h1 : sF (fun w => if hlp m f i w = true then (gw m w).c else 0) (List.range m.ws.length) ≤ sF (fun w => sF (fun k => if (ldsB m f i k && hpsB m f w i k) = true then (gw m w).c else 0) (List.range 6)) (List.range m.ws.length) := sF_le fun w hw => by
    have hw := List.mem_range.1 hw
    have hnn : ∀ k ∈ List.range 6, 0 ≤ (if (ldsB m f i k && hpsB m f w i k) = true then (gw m w).c else 0) := fun k _ => by have := hcn w hw; split <;> omega
    by_cases q : hlp m f i w = true
    · rw [if_pos q]
      unfold hlp at q
      rw [List.any_eq_true] at q
      obtain ⟨k, hk, hq⟩ := q
      have := sF_one hk hnn
      rw [if_pos hq] at this
      exact this
    · rw [if_neg q]; exact sF_nn hnn
  rw [sF_swap (fun w k => if (ldsB m f i k && hpsB m f w i k) = true then (gw m w).c else 0)] at h1
  refine Int.le_trans h1 (sF_le fun k hk => ?_)
  have hk := List.mem_range.1 hk
  unfold ldP
  by_cases hl : ldsB m f i k = true
  · rw [if_pos hl]
    obtain ⟨w0, hw0, hh0⟩ := lds_help hk hl
    have hmin : (gw m w0).c ≤ minP m f (evA m f m.ws.length) i k m.ws.length := minP_ge (by have := hcn w0 hw0; omega) _ fun w hw hh => by
      have e := one_work hd hw0 hw hi hk hl hh0 hh
      subst e
      rw [part_ev hw0 hi hk hl hh0, one_load hd hw0 hi hk hl hh0]
      exact Int.le_refl _
    refine Int.le_trans ?_ hmin
    refine sF_uniq (q := fun w => ldsB m f i k && hpsB m f w i k) (v := fun w => (gw m w).c) (hcn w0 hw0).1 ?_ (fun w hw hq => ?_)
    · rw [List.pairwise_iff_getElem]
      intro a b ha hb hab hh
      rw [List.getElem_range, List.getElem_range] at hh
      rw [List.length_range] at ha hb
      simp only [Bool.and_eq_true] at hh
      have := one_work hd ha hb hi hk hl hh.1.2 hh.2.2
      omega
    · have hw := List.mem_range.1 hw
      rw [Bool.and_eq_true] at hq
      have e := one_work hd hw0 hw hi hk hl hh0 hq.2
      subst e
      exact Int.le_refl _
  · rw [if_neg hl]
    have : ∀ w ∈ List.range m.ws.length, (if (ldsB m f i k && hpsB m f w i k) = true then (gw m w).c else 0) = (0 : Int) := fun w _ => by
      rw [if_neg]; rw [Bool.and_eq_true]; exact fun z => hl z.1
    rw [sF_congr this, sF_zero]; exact Int.le_refl _
theorem limL_ge {m : Mp} {s : List Int} {road k : Nat} {w : Nat} (hw : (w : Int) ∈ s) (hk : (gw m w).k = k) (hr : (road : Int) ∈ (gw m w).rs) : (gw m w).l ≤ limL m s road k ∧ (gr m road).lim k ≤ limL m s road k := by
  obtain ⟨h1, h2⟩ := limL_iff.1 (Int.le_refl (limL m s road k))
  exact ⟨h2 (w : Int) hw ⟨by rw [Int.toNat_natCast]; exact hk, by rw [Int.toNat_natCast]; exact hr⟩, h1⟩
theorem even_walk {m : Mp} (h : OkM m) {f : Nat → Int} (hd : allD (evA m f m.ws.length)) {s y : Nat} {d : Int} (hw : Wk (edgC m false (rdC m f)) s y d) : ∃ (p : Nat → Bool) (d' : Int), Wk (edgC m false (cU m f (setP m p))) s y d' ∧ d' + costP m p ≤ d := by
  induction hw with
  | nil =>
    refine ⟨fun _ => false, 0, .nil, ?_⟩
    unfold costP
    have : ∀ w ∈ List.range m.ws.length, (if (fun _ => false : Nat → Bool) w = true then (gw m w).c else 0) = (0 : Int) := fun w _ => by simp
    rw [sF_congr this, sF_zero]; decide
  | snoc h1 h2 h3 ih =>
    obtain ⟨p, d', g1, g2⟩ := ih
    obtain ⟨i, hi, rfl⟩ := List.mem_map.1 h2
    have hi := List.mem_range.1 hi
    rw [edC_c] at h3 ⊢
    have hu : usB m f (evL m.ws.length) i = true := by
      apply Classical.byContradiction
      intro z
      unfold rdC at h3
      rw [if_neg z] at h3
      omega
    have hrc : rdC m f i = (gr m i).c + sF (ldP m f (evA m f m.ws.length) i) (List.range 6) := by
      unfold rdC; rw [if_pos hu, redS_sF]
    let q : Nat → Bool := fun w => p w || hlp m f i w
    have hpq : ∀ w, p w = true → q w = true := fun w z => by show (p w || _) = true; rw [z]; rfl
    have hus : usB m f (setP m q) i = true := usN_iff.2 fun k hk => by
      have hlim : (gr m i).lim k ≤ limL m (setP m q) i k := (limL_iff.1 (Int.le_refl (limL m (setP m q) i k))).1
      by_cases c : (gr m i).lim k < f k
      · have hl : ldsB m f i k = true := by unfold ldsB; rw [hu, decide_eq_true c]; rfl
        obtain ⟨w, hw, hh⟩ := lds_help hk hl
        have hqw : q w = true := by
          show (p w || hlp m f i w) = true
          have : hlp m f i w = true := by
            unfold hlp; rw [List.any_eq_true]
            exact ⟨k, List.mem_range.2 hk, by rw [hl, hh]; rfl⟩
          rw [this, Bool.or_true]
        have hh2 := hh
        unfold hpsB at hh2
        rw [Bool.and_eq_true, Bool.and_eq_true, beq_iff_eq, decide_eq_true_eq, decide_eq_true_eq] at hh2
        have := (limL_ge (m := m) (s := setP m q) (setP_mem hw hqw) hh2.1.1 hh2.1.2).1
        omega
      · omega
    obtain ⟨e1, e2⟩ := us_edge (bk := false) hi hus
    refine ⟨q, d' + (gr m i).c, ?_, ?_⟩
    · have g3 : Wk (edgC m false (cU m f (setP m q))) s (edC m false (rdC m f) i).x d' := g1.mono fun e he hc => by
        obtain ⟨j, hj, rfl, hju⟩ := edge_us he hc
        have hju2 := usB_mono (setP_mono hpq) hju
        have q1 := (us_edge (bk := false) hj hju).2
        have q2 := us_edge (bk := false) hj hju2
        have : edC m false (cU m f (setP m p)) j = edC m false (cU m f (setP m q)) j := by
          have q3 : (edC m false (cU m f (setP m p)) j).c = cU m f (setP m p) j := rfl
          have q4 : (edC m false (cU m f (setP m q)) j).c = cU m f (setP m q) j := rfl
          show Edg.mk _ _ (cU m f (setP m p) j) = Edg.mk _ _ (cU m f (setP m q) j)
          rw [← q3, ← q4, q1, q2.2]
        rw [this]
        exact q2.1
      have hc1 := (roadB_ok (h.r i hi)).c
      have := Wk.snoc (e := edC m false (cU m f (setP m q)) i) g3 e1 (by rw [e2]; omega)
      rw [e2] at this
      exact this
    · have g4 : costP m q ≤ costP m p + sF (fun w => if hlp m f i w = true then (gw m w).c else 0) (List.range m.ws.length) := by
        unfold costP
        rw [← sF_add]
        refine sF_le fun w hw => ?_
        have hw := List.mem_range.1 hw
        have hc := (workB_ok (h.w w hw)).c
        have eq : q w = (p w || hlp m f i w) := rfl
        rw [eq]
        generalize (gw m w).c = c at *
        cases p w <;> cases hlp m f i w <;> simp <;> omega
      have g5 := hlp_cost h hd hi
      omega
theorem even_just {m : Mp} (h : OkM m) {f : Nat → Int} {fr to : Int} {s : List Int} {n : Int} (hf : 0 ≤ fr ∧ fr < m.n) (ht : 0 ≤ to ∧ to < m.n) (hb : bestS m f fr to = some (s, n)) (hd : allD (evA m f m.ws.length)) : n ≤ gi (bnD m f fr) to.toNat := by
  have D := evd h f hf
  have hm := most_fin h hf ht hb
  rcases D.d.ach to.toNat (by omega) with h1 | ⟨_, h1⟩
  · have h1 : gi (bnD m f fr) to.toNat = 1125899906842624 := h1
    omega
  obtain ⟨p, d', g1, g2⟩ := even_walk h hd h1
  have g3 := g1.rev
  obtain ⟨c1, c2⟩ := dL_dst h f (setP m p) true ht
  obtain ⟨k3, k4⟩ := edgC_ok h true (c := cU m f (setP m p)) (fun i hi => (cU_rng h f _ hi).1)
  have g4 := fix_le k3 c1 c2 g3
  have g4 : gi (dL m f (setP m p) to) fr.toNat ≤ d' := g4
  have hcp : 0 ≤ costP m p := by
    unfold costP
    refine sF_nn fun w hw => ?_
    have := (workB_ok (h.w w (List.mem_range.1 hw))).c
    split <;> omega
  obtain ⟨z, k, q1, q2⟩ := best_le (f := f) (fr := fr) (to := to) (setP_srt m p) (by unfold okS; rw [decide_eq_true_eq]; omega)
  rw [hb] at q1
  cases q1
  unfold cfS at q2
  rw [cost_setP] at q2
  omega
end Go.Proofs.Ytfbdlmenhoagmaa

namespace Go.Proofs.Ytfbdlmenhoagmaa
open Go Sy
set_option maxRecDepth 100000
set_option maxHeartbeats 4000000
set_option linter.unusedVariables false
set_option linter.unusedSimpArgs false
theorem fn9 (m : Mp) (f : Nat → Int) (fr to : Int) (ps : List Prt) (hs : List Int) (h : Big m) (hl : ps.length ≤ 140737488355328) (hl2 : hs.length ≤ 140737488355328) : Sy.Fn Try.prog 9 [aM m, .agg (c6 f), iv fr, iv to, .agg (cBd ps hs)] (bv true) := by
  refine Fn_of_W mixed Xt9 rfl ?_
  have c13 := fn13 m f fr to h
  by_cases hv : validB m f fr to = true ∧ ps.length ≤ 60 ∧ hs.length ≤ 100
  rotate_left
  · unfold cBd
    generalize validB m f fr to = VB at *
    repeat' (first | refine w1g ?_ | refine w1l ?_ | refine w1q ?_ | refine w1b ?_ | refine w1p ?_ | ((first | refine w1r ?_ | refine w1k ?_ | refine w1e ?_ | refine CallC.now (c13) ?_); (refine sy1 ?_; try exact True.intro)) | refine an2 ?_ | fail)
    refine W_cond (by rfl) (fun _ => ?_) (fun hz => ?_)
    · repeat' (first | refine w1g ?_ | refine w1l ?_ | refine w1q ?_ | refine w1b ?_ | refine w1p ?_ | ((first | refine w1r ?_ | refine w1k ?_ | refine w1e ?_ | refine CallC.now (fn14) ?_); (refine sy1 ?_; try exact True.intro)) | refine an2 ?_ | fail)
      exact W_ret ⟨[_], ⟨rfl, rfl⟩, rfl⟩
    · simp only [Bool.or_eq_false_iff, decide_eq_false_iff_not, Bool.not_eq_false'] at hz
      exact absurd ⟨hz.1.1, by omega, by omega⟩ hv
  obtain ⟨hv, hs1, hr1⟩ := hv
  have hV := val_of hv
  rw [hv] at c13
  have d1 : decide ((60 : Int) < ps.length) = false := decide_eq_false (by omega)
  have d2 : decide ((100 : Int) < hs.length) = false := decide_eq_false (by omega)
  have hok := hV.ok
  have hop := hV.op
  have c15 := fn15 m f fr to hV.gm
  have c37 := fn37 m f fr to ps hs hV.gm (by omega) (by omega)
  have c39 := fn39 m f fr to hV.gm
  rw [hV.cv, hV.ce] at c15
  rw [hV.ce] at c39
  have n3 : ∀ x : Int, (x == x) = true := fun x => by simp
  have hpl : plB m.n fr = true ∧ plB m.n to = true := ⟨plB_of hV.f, plB_of hV.t⟩
  rcases hb : bestS m f fr to with _ | ⟨s, n⟩
  · have hbn : bnV m f fr to = [.v (.slice none 0 0), .v (.slice none 0 0)] := by unfold bnV; rw [if_neg (by rw [hV.ce, hb]; decide)]
    rw [hb] at c15 c39
    rw [hbn] at c39
    unfold rtC bE zRt at c15
    unfold bE at c39
    generalize bdV m f fr to ps hs = V at *
    generalize bdE m f fr to ps hs = E at *
    unfold cBd at *
    repeat' (first | refine w1g ?_ | refine w1l ?_ | refine w1q ?_ | refine w1b ?_ | refine w1p ?_ | ((first | refine w1r ?_ | refine w1k ?_ | refine w1e ?_ | refine CallC.now (c13) ?_); simp (maxSteps := 400000) (disch := omega) only [push_cast, ↓reduceIte, reduceCtorEq, Nat.reduceAdd, Nat.reduceSub, Nat.reduceEqDiff, Nat.reduceLeDiff, Nat.reduceLT, Nat.reduceBEq, Nat.reduceDiv, Nat.reduceMod, Nat.reducePow, Nat.reduceMul, Int.reduceToNat, Int.reduceLT, Int.reduceLE, d1, d2]) | refine an2 ?_ | fail)
    refine W_cond (by rfl) (fun h => by simp at h) (fun _ => ?_)
    repeat' (first | refine w1g ?_ | refine w1l ?_ | refine w1q ?_ | refine w1b ?_ | refine w1p ?_ | ((first | refine w1r ?_ | refine w1k ?_ | refine w1e ?_ | refine CallC.now (c15) ?_); (refine sy1 ?_; try exact True.intro)) | refine an2 ?_ | fail)
    repeat' (first | refine w1g ?_ | refine w1l ?_ | refine w1q ?_ | refine w1b ?_ | refine w1p ?_ | ((first | refine w1r ?_ | refine w1k ?_ | refine w1e ?_ | refine CallC.now (c37) ?_); (refine sy1 ?_; try exact True.intro)) | refine an2 ?_ | fail)
    refine W_cond (by rfl) (fun h => by simp at h) (fun _ => ?_)
    repeat' (first | refine w1g ?_ | refine w1l ?_ | refine w1q ?_ | refine w1b ?_ | refine w1p ?_ | ((first | refine w1r ?_ | refine w1k ?_ | refine w1e ?_ | refine CallC.now (c39) ?_); (refine sy1 ?_; try exact True.intro)) | refine an2 ?_ | fail)
    refine W_cond (by rfl) (fun _ => ?_) (fun h => by simp at h)
    repeat' (first | refine w1g ?_ | refine w1l ?_ | refine w1q ?_ | refine w1b ?_ | refine w1p ?_ | ((first | refine w1r ?_ | refine w1k ?_ | refine w1e ?_ | refine CallC.go _ (fun _ => ⟨trivial, fn14⟩) rfl ?_); simp (maxSteps := 400000) (disch := omega) only [push_cast, ↓reduceIte, reduceCtorEq, Nat.reduceAdd, Nat.reduceSub, Nat.reduceEqDiff, Nat.reduceLeDiff, Nat.reduceLT, Nat.reduceBEq, Nat.reduceDiv, Nat.reduceMod, Nat.reducePow, Nat.reduceMul, Int.reduceToNat, Int.reduceLT, Int.reduceLE, n3]) | refine an2 ?_ | fail)
    exact W_ret ⟨[_], ⟨rfl, rfl⟩, rfl⟩
  have hbn : bnV m f fr to = cBd (evA m f m.ws.length) (bnH m f fr to) := by unfold bnV; rw [if_pos (by rw [hV.ce, hb]; rfl)]
  rw [hb] at c15 c39
  rw [hbn] at c39
  have c15 : Sy.Fn Try.prog 15 [aM m, .agg (c6 f), iv fr, iv to] (.tup [.agg (cRt (wayS m f fr to s) s n (minL m (wayS m f fr to s))), iv 0]) := c15
  unfold cRt at c15
  have c39 : Sy.Fn Try.prog 39 [aM m, .agg (c6 f), iv fr, iv to] (.tup [.agg (cBd (evA m f m.ws.length) (bnH m f fr to)), iv 0]) := c39
  have hnw := hok.nw
  have hnr := hok.nr
  have hmn := hok.n
  have hPl := Nat.le_trans (evA_len m f m.ws.length) (Nat.mul_le_mul (Nat.mul_le_mul (Nat.le_refl 6) hnr) hnw)
  have hBl := bnH_len hok f fr to hV.f
  have hrt := even_right hok hV.f hV.t hb
  have hwo := even_worth hok hV.f hV.t hb
  have hmo := most_fin hok hV.f hV.t hb
  have hle := proof_le hok hV.f hV.t hb hrt
  have hju := even_just hok hV.f hV.t hb
  have c37b := fn37 m f fr to (evA m f m.ws.length) (bnH m f fr to) hV.gm (by omega) (by omega)
  have hE0 : bdE m f fr to (evA m f m.ws.length) (bnH m f fr to) = 0 := by unfold bdE; rw [if_pos hop, if_pos hpl, if_pos hBl, if_pos hrt]
  have hV0 : bdV m f fr to (evA m f m.ws.length) (bnH m f fr to) = gi (bnD m f fr) to.toNat := by unfold bdV; rw [if_pos hE0, hwo]
  rw [hE0, hV0] at c37b
  rw [hwo] at hle
  generalize gi (bnD m f fr) to.toNat = MT at *
  have hq : bdE m f fr to ps hs = 0 → bdV m f fr to ps hs ≤ n := fun e => by
    have e2 := e
    unfold bdE at e2
    rw [if_pos hop, if_pos hpl] at e2
    by_cases q1 : (hs.length : Int) = m.n
    · rw [if_pos q1] at e2
      by_cases q2 : rgtB m f ps hs = true
      · have := proof_le hok hV.f hV.t hb q2
        unfold bdV
        rw [if_pos e]; exact this
      · rw [if_neg q2] at e2; omega
    · rw [if_neg q1] at e2; omega
  generalize bdV m f fr to ps hs = V at *
  generalize bdE m f fr to ps hs = E at *
  generalize minL m (wayS m f fr to s) = ML at *
  generalize wayS m f fr to s = WS at *
  generalize evA m f m.ws.length = PS at *
  generalize bnH m f fr to = BH at *
  unfold cBd at *
  repeat' (first | refine w1g ?_ | refine w1l ?_ | refine w1q ?_ | refine w1b ?_ | refine w1p ?_ | ((first | refine w1r ?_ | refine w1k ?_ | refine w1e ?_ | refine CallC.now (c13) ?_); simp (maxSteps := 400000) (disch := omega) only [push_cast, ↓reduceIte, reduceCtorEq, Nat.reduceAdd, Nat.reduceSub, Nat.reduceEqDiff, Nat.reduceLeDiff, Nat.reduceLT, Nat.reduceBEq, Nat.reduceDiv, Nat.reduceMod, Nat.reducePow, Nat.reduceMul, Int.reduceToNat, Int.reduceLT, Int.reduceLE, d1, d2]) | refine an2 ?_ | fail)
  refine W_cond (by rfl) (fun h => by simp at h) (fun _ => ?_)
  repeat' (first | refine w1g ?_ | refine w1l ?_ | refine w1q ?_ | refine w1b ?_ | refine w1p ?_ | ((first | refine w1r ?_ | refine w1k ?_ | refine w1e ?_ | refine CallC.now (c15) ?_); (refine sy1 ?_; try exact True.intro)) | refine an2 ?_ | fail)
  repeat' (first | refine w1g ?_ | refine w1l ?_ | refine w1q ?_ | refine w1b ?_ | refine w1p ?_ | ((first | refine w1r ?_ | refine w1k ?_ | refine w1e ?_ | refine CallC.now (c37) ?_); (refine sy1 ?_; try exact True.intro)) | refine an2 ?_ | fail)
  refine W_cond (by rfl) (fun hz => ?_) (fun _ => ?_)
  · simp only [Bool.and_eq_true, beq_iff_eq, decide_eq_true_eq] at hz
    have := hq hz.1
    omega
  repeat' (first | refine w1g ?_ | refine w1l ?_ | refine w1q ?_ | refine w1b ?_ | refine w1p ?_ | ((first | refine w1r ?_ | refine w1k ?_ | refine w1e ?_ | refine CallC.now (c39) ?_); (refine sy1 ?_; try exact True.intro)) | refine an2 ?_ | fail)
  refine W_cond (by rfl) (fun h => by simp at h) (fun _ => ?_)
  repeat' (first | refine w1g ?_ | refine w1l ?_ | refine w1q ?_ | refine w1b ?_ | refine w1p ?_ | ((first | refine w1r ?_ | refine w1k ?_ | refine w1e ?_ | refine CallC.now (c37b) ?_); (refine sy1 ?_; try exact True.intro)) | refine an2 ?_ | fail)
  refine W_cond (by rfl) (fun hz => ?_) (fun _ => ?_)
  · simp only [Bool.or_eq_true, bne_iff_ne, decide_eq_true_eq] at hz
    omega
  repeat' (first | refine w1g ?_ | refine w1l ?_ | refine w1q ?_ | refine w1b ?_ | refine w1p ?_ | ((first | refine w1r ?_ | refine w1k ?_ | refine w1e ?_); (refine sy1 ?_; try exact True.intro)) | refine an2 ?_ | fail)
  refine W_loopU (fun i : Nat => [(17, iv i)]) (fun i => []) (fun i => i ≤ PS.length ∧ ∀ a, a < i → ∀ b, b < a → clsB (PS.getD a dP) (PS.getD b dP) = false) (fun i => PS.length - i) 0 ⟨by omega, fun a ha => by omega⟩ (by rfl) (by rfl) (fun i hi => ?_)
  obtain ⟨hi, hall⟩ := hi
  (refine sy1 ?_; try exact True.intro)
  repeat' (first | refine w1g ?_ | refine w1l ?_ | refine w1q ?_ | refine w1b ?_ | refine w1p ?_ | ((first | refine w1r ?_ | refine w1k ?_ | refine w1e ?_); (refine sy1 ?_; try exact True.intro)) | refine an2 ?_ | fail)
  refine W_condD (by rfl) (fun h5 => ?_) (fun h5 => ?_)
  · have hlt : i < PS.length := by omega
    repeat' (first | refine w1g ?_ | refine w1l ?_ | refine w1q ?_ | refine w1b ?_ | refine w1p ?_ | ((first | refine w1r ?_ | refine w1k ?_ | refine w1e ?_); (refine sy1 ?_; try exact True.intro)) | refine an2 ?_ | fail)
    refine W_loopU (fun k : Nat => [(18, iv k)]) (fun k => []) (fun k => k ≤ i ∧ ∀ b, b < k → clsB (PS.getD i dP) (PS.getD b dP) = false) (fun k => i - k) 0 ⟨by omega, fun a ha => by omega⟩ (by rfl) (by rfl) (fun k hk => ?_)
    obtain ⟨hk, hrow⟩ := hk
    (refine sy1 ?_; try exact True.intro)
    repeat' (first | refine w1g ?_ | refine w1l ?_ | refine w1q ?_ | refine w1b ?_ | refine w1p ?_ | ((first | refine w1r ?_ | refine w1k ?_ | refine w1e ?_); (refine sy1 ?_; try exact True.intro)) | refine an2 ?_ | fail)
    refine W_condD (by rfl) (fun h6 => ?_) (fun h6 => ?_)
    · have hki : k < i := by omega
      obtain ⟨⟨x1, x2, x3, x4⟩, hX⟩ : ∃ X, PS.getD i dP = X := ⟨_, rfl⟩
      obtain ⟨⟨y1, y2, y3, y4⟩, hY⟩ : ∃ Y, PS.getD k dP = Y := ⟨_, rfl⟩
      have hcl : clsB (PS.getD i dP) (PS.getD k dP) = (x1 == y1 || (x2 == y2 && x3 == y3)) := by rw [hX, hY]; rfl
      repeat' (first | refine w1g ?_ | refine w1l ?_ | refine w1q ?_ | refine w1b ?_ | refine w1p ?_ | ((first | refine w1r ?_ | refine w1k ?_ | refine w1e ?_); simp (maxSteps := 400000) (disch := omega) only [push_cast, ↓reduceIte, reduceCtorEq, Nat.reduceAdd, Nat.reduceSub, Nat.reduceEqDiff, Nat.reduceLeDiff, Nat.reduceLT, Nat.reduceBEq, Nat.reduceDiv, Nat.reduceMod, Nat.reducePow, Nat.reduceMul, Int.reduceToNat, Int.reduceLT, Int.reduceLE, hX, hY, cP]) | refine an2 ?_ | fail)
      refine W_cond (by rfl) (fun hz => ?_) (fun hz => ?_)
      · repeat' (first | refine w1g ?_ | refine w1l ?_ | refine w1q ?_ | refine w1b ?_ | refine w1p ?_ | ((first | refine w1r ?_ | refine w1k ?_ | refine w1e ?_ | refine CallC.now (fn14) ?_); (refine sy1 ?_; try exact True.intro)) | refine an2 ?_ | fail)
        exact W_ret ⟨[_], ⟨rfl, rfl⟩, rfl⟩
      · rw [hz] at hcl
        repeat' (first | refine w1g ?_ | refine w1l ?_ | refine w1q ?_ | refine w1b ?_ | refine w1p ?_ | ((first | refine w1r ?_ | refine w1k ?_ | refine w1e ?_); (refine sy1 ?_; try exact True.intro)) | refine an2 ?_ | fail)
        refine ⟨k + 1, ⟨by omega, fun b hb => ?_⟩, by omega, by rfl, ?_⟩
        · rcases Nat.lt_or_ge b k with q | q
          · try rw [← hX]
            exact hrow b q
          · have : b = k := by omega
            subst this
            try rw [← hX]
            exact hcl
        · (refine syE ?_; try exact True.intro)
    · repeat' (first | refine w1g ?_ | refine w1l ?_ | refine w1q ?_ | refine w1b ?_ | refine w1p ?_ | ((first | refine w1r ?_ | refine w1k ?_ | refine w1e ?_); (refine sy1 ?_; try exact True.intro)) | refine an2 ?_ | fail)
      refine ⟨i + 1, ⟨by omega, fun a ha b hb => ?_⟩, by omega, by rfl, ?_⟩
      · rcases Nat.lt_or_ge a i with q | q
        · exact hall a q b hb
        · have : a = i := by omega
          subst this
          exact hrow b (by omega)
      · (refine syE ?_; try exact True.intro)
  · have hd : allD PS := by
      unfold allD
      rw [List.pairwise_iff_getElem]
      intro a b ha hb hab
      have := hall b (by omega) a hab
      have e1 : PS.getD a dP = PS[a] := by simp [List.getD, ha]
      have e2 : PS.getD b dP = PS[b] := by simp [List.getD, hb]
      rw [e1, e2] at this
      exact this
    have e : MT = n := by have := hju hd; omega
    rw [e]
    repeat' (first | refine w1g ?_ | refine w1l ?_ | refine w1q ?_ | refine w1b ?_ | refine w1p ?_ | ((first | refine w1r ?_ | refine w1k ?_ | refine w1e ?_ | refine CallC.go _ (fun _ => ⟨trivial, fn14⟩) rfl ?_); simp (maxSteps := 400000) (disch := omega) only [push_cast, ↓reduceIte, reduceCtorEq, Nat.reduceAdd, Nat.reduceSub, Nat.reduceEqDiff, Nat.reduceLeDiff, Nat.reduceLT, Nat.reduceBEq, Nat.reduceDiv, Nat.reduceMod, Nat.reducePow, Nat.reduceMul, Int.reduceToNat, Int.reduceLT, Int.reduceLE, n3]) | refine an2 ?_ | fail)
    exact W_ret ⟨[_], ⟨rfl, rfl⟩, rfl⟩
end Go.Proofs.Ytfbdlmenhoagmaa

namespace Go.Proofs.Ytfbdlmenhoagmaa
open Go Sy Go.ChangeShapes Go.WideShapes Go.RowKit
set_option maxRecDepth 100000
set_option linter.unusedVariables false
theorem own : ownKnob Try.prog.godebug = none := by kernel_rfl
theorem laidOut : laidOutB Try.prog = true := by kernel_rfl
theorem walk9 (W : World) (v0 v1 v2 v3 v4 : Value) (m : Mp) (f : Nat → Int) (fr : Int) (to : Int) (bd : Bd) (h0 : fsat (inW W) W (aM m) v0) (h1 : fsat (inW W) W (.agg (c6 f)) v1) (h2 : fsat (inW W) W (iv fr) v2) (h3 : fsat (inW W) W (iv to) v3) (h4 : fsat (inW W) W (.agg (cBD bd)) v4) (om : OM m) (of : ∀ k, k < 6 → I64 (f k)) (ofr : I64 fr) (oto : I64 to) (obd : OB bd) :
    Calls Try.prog 9 #[v0, v1, v2, v3, v4] W fun e w' => e = .returned (.bool true) ∧ Below W.heap.size W w' := by
  have hf : Sy.Fn Try.prog 9 [aM m, .agg (c6 f), iv fr, iv to, .agg (cBD bd)] (bv true) := fn9 m f fr to bd.p bd.h om.big (by have := obd.p; omega) (by have := obd.h; omega)
  refine (hf.2 (inW W) W [v0, v1, v2, v3, v4] (fun b hb => hb) ?_).mono ?_
  · simp only [fsatT]
    exact ⟨v0, _, rfl, h0, v1, _, rfl, h1, v2, _, rfl, h2, v3, _, rfl, h3, v4, _, rfl, h4, rfl⟩
  · rintro e w' ⟨v, rfl, hb, hv⟩
    simp only [fsat] at hv
    exact ⟨by rw [hv], hb⟩
theorem lifted9 (os : Os) (started : os.Started) (H : Type) (enc : TypeId × Value → H) :
    ReturnsInHanded {} Try.checked os 9 .any (Rows.roadBelowSpec.pre6 enc Try.prog Try.f9 Rows.roadBelowRow.domain false) (Rows.roadBelowSpec.post enc Try.prog Try.f9 false true false false) := by
  refine returnsInHanded_of_change_sized (C := Try.checked) own started (by kernel_rfl) Try.func9
    (ChangeSpec.witness6 (enc := enc) (C := Try.checked) false ⟨#[], #[.agg #[.int .i64 0, .slice none 0 0, .slice none 0 0], .agg #[.int .i64 0, .int .i64 0, .int .i64 0, .int .i64 0, .int .i64 0, .int .i64 0], .int .i64 0, .int .i64 0, .agg #[.slice none 0 0, .slice none 0 0]], []⟩ 8 (by kernel_rfl) (by kernel_rfl) (by kernel_rfl) (by kernel_rfl)) ?_
  intro W base args ds gs before hval0 hW hcnd hsz _
  have hval : ∀ (j : Nat) t v, Try.f9.params[j]? = some t → args[j]? = some v → Value.okWide Try.prog W .any base t v := hval0
  have hW' := hW
  obtain ⟨p, q, hA0, hV, rfl, hfz, hnd⟩ := hW
  have hA : DataW.TrodAll enc Try.prog W 0 (fun _ => true) true Try.f9.params.toList args.toList ds p := hA0
  rw [Try.params9] at hA hval
  obtain ⟨v0, vs0, d0, ds0, p0, q0, hargs, rfl, rfl, h0, r0⟩ := trodAll_cons hA
  obtain ⟨v1, vs1, d1, ds1, p1, q1, rfl, rfl, rfl, h1, r1⟩ := trodAll_cons r0
  obtain ⟨v2, vs2, d2, ds2, p2, q2, rfl, rfl, rfl, h2, r2⟩ := trodAll_cons r1
  obtain ⟨v3, vs3, d3, ds3, p3, q3, rfl, rfl, rfl, h3, r3⟩ := trodAll_cons r2
  obtain ⟨v4, vs4, d4, ds4, p4, q4, rfl, rfl, rfl, h4, r4⟩ := trodAll_cons r3
  obtain ⟨rfl, rfl, rfl⟩ := trodAll_nil r4
  obtain rfl : args = #[v0, v1, v2, v3, v4] := by cases args; simp_all
  obtain ⟨rfl, rfl⟩ := trodVars_none hV
  have hs : ∀ (j : Nat) t (d : DataW H), [25, 26, 3, 3, 71][j]? = some t → [d0, d1, d2, d3, d4][j]? = some d → ∀ n ∈ d.weights Try.prog t, n ≤ reachBytes := fun j t d ht hd n hn => by
    have hall := List.all_eq_true.1 hsz n (DataW.weights_mem_each (j := j) (t := t) (d := d) (by rw [Try.params9]; simpa using (List.getElem?_append_left (l₂ := _) (by have := (List.getElem?_eq_some_iff.1 ht).1; simpa using this)).trans ht) (by simpa using (List.getElem?_append_left (l₂ := _) (by have := (List.getElem?_eq_some_iff.1 hd).1; simpa using this)).trans hd) n hn)
    simpa using hall
  have lt0 : ∀ x ∈ p0, x.block < W.heap.size := by obtain ⟨m, hm⟩ := h0; exact DataW.trod_lt m _ _ _ hm
  have lt1 : ∀ x ∈ p1, x.block < W.heap.size := by obtain ⟨m, hm⟩ := h1; exact DataW.trod_lt m _ _ _ hm
  have lt2 : ∀ x ∈ p2, x.block < W.heap.size := by obtain ⟨m, hm⟩ := h2; exact DataW.trod_lt m _ _ _ hm
  have lt3 : ∀ x ∈ p3, x.block < W.heap.size := by obtain ⟨m, hm⟩ := h3; exact DataW.trod_lt m _ _ _ hm
  have lt4 : ∀ x ∈ p4, x.block < W.heap.size := by obtain ⟨m, hm⟩ := h4; exact DataW.trod_lt m _ _ _ hm
  obtain ⟨m, om, s0⟩ := k25.arg (by kernel_rfl) (hval 0 25 v0 rfl rfl) h0 (hs 0 25 d0 rfl rfl)
  obtain ⟨f, of, s1⟩ := k26.arg (by kernel_rfl) (hval 1 26 v1 rfl rfl) h1 (hs 1 26 d1 rfl rfl)
  obtain ⟨fr, ofr, s2⟩ := k3.arg1 (by kernel_rfl) (hval 2 3 v2 rfl rfl) h2 (hs 2 3 d2 rfl rfl)
  obtain ⟨to, oto, s3⟩ := k3.arg1 (by kernel_rfl) (hval 3 3 v3 rfl rfl) h3 (hs 3 3 d3 rfl rfl)
  obtain ⟨bd, obd, s4⟩ := k71.arg (by kernel_rfl) (hval 4 71 v4 rfl rfl) h4 (hs 4 71 d4 rfl rfl)
  clear hA0 hval0
  refine (walk9 W v0 v1 v2 v3 v4 m f fr to bd s0 s1 s2 s3 s4 om of ofr oto obd).mono fun e W' ⟨he, bel⟩ => ?_
  subst he
  exact ⟨_, rfl, _, _, _, [], _, [], hW', trodAll_mk1 (shut_bool Try.underlying4 _), (trodAll_cons_mk (Below.trod laidOut (by kernel_rfl) (of_decide_eq_true (by kernel_rfl)) h0 bel lt0) (trodAll_cons_mk (Below.trod laidOut (by kernel_rfl) (of_decide_eq_true (by kernel_rfl)) h1 bel lt1) (trodAll_cons_mk (Below.trod laidOut (by kernel_rfl) (of_decide_eq_true (by kernel_rfl)) h2 bel lt2) (trodAll_cons_mk (Below.trod laidOut (by kernel_rfl) (of_decide_eq_true (by kernel_rfl)) h3 bel lt3) (trodAll_cons_mk (Below.trod laidOut (by kernel_rfl) (of_decide_eq_true (by kernel_rfl)) h4 bel lt4) trodAll_mk0))))), rfl, bel.frame _, fun h => by cases h⟩
theorem over9 : Rows.roadBelowRow.holds Try.pinned (OpenSpec.ofChange Rows.roadBelowSpec) :=
  OpenClaim.holds_of_wide 9 Try.f9 rfl rfl rfl rfl rfl rfl rfl ⟨rfl, rfl, rfl, rfl, rfl⟩ rfl rfl rfl rfl rfl (by kernel_rfl) Try.func9 (by kernel_rfl)
    (of_decide_eq_true (by kernel_rfl)) (by unfold Func.isWrapper; first | (rw [if_pos (by decide +kernel)]; kernel_rfl) | (rw [if_neg (by decide +kernel)]; exact ⟨rfl, rfl⟩))
    (fun os started H enc _ => lifted9 os started H enc)
theorem road_below_holds : Rows.RoadBelowSaid := over9
end Go.Proofs.Ytfbdlmenhoagmaa

