/- For all maps, sizes and places, Cheapest, Bound, Reach and CheckCut return what the document says; maps of at most 12 places, 30 roads and 5 works, or refused ones; at most 100 numbers. -/
import Derived.Test.YtfbdlmenhoagmaaP6
import Derived.Test.YtfbdlmenhoagmaaRows
import Derived.ShutString
namespace Go.Proofs.Ytfbdlmenhoagmaa
open Go Sy
set_option maxRecDepth 100000
set_option maxHeartbeats 4000000
set_option linter.unusedVariables false
set_option linter.unusedSimpArgs false
def rdC (m : Mp) (f : Nat → Int) (i : Nat) : Int := if usB m f (evL m.ws.length) i = true then redS m f (evA m f m.ws.length) i 6 else -1
def bnD (m : Mp) (f : Nat → Int) (fr : Int) : List Int := dstC m false (rdC m f) fr
def mnL (l : List Int) (x : Int) (i : Nat) : List Int := (l.take i).map (min · x) ++ l.drop i
theorem mnL_len (l : List Int) (x : Int) (i : Nat) : (mnL l x i).length = l.length := by
  unfold mnL
  rw [List.length_append, List.length_map, ← List.length_append, List.take_append_drop]
theorem mnL_at {l : List Int} {x : Int} {i : Nat} (h : i < l.length) : (mnL l x i).getD i 0 = l.getD i 0 := by
  unfold mnL
  rw [List.drop_eq_getElem_cons h]
  simp [List.getD, List.getElem?_append, h, Nat.min_eq_left (Nat.le_of_lt h)]
theorem mnL_set {l : List Int} {x : Int} {i : Nat} (h : i < l.length) : (mnL l x i).set i (min (l.getD i 0) x) = mnL l x (i + 1) := by
  have hg : l.getD i 0 = l[i] := by simp [List.getD, h]
  have ht : ((l.take i).map (min · x)).length = i := by rw [List.length_map, List.length_take]; omega
  unfold mnL
  rw [List.set_append_right _ _ (by omega), ht, Nat.sub_self, List.drop_eq_getElem_cons h, List.set_cons_zero, List.take_succ_eq_append_getElem h, List.map_append, hg]
  simp
def bnH (m : Mp) (f : Nat → Int) (fr to : Int) : List Int := mnL (bnD m f fr) (gi (bnD m f fr) to.toNat) m.n.toNat
def bnV (m : Mp) (f : Nat → Int) (fr to : Int) : List AV := if chE m f fr to = 0 then cBd (evA m f m.ws.length) (bnH m f fr to) else [.v (.slice none 0 0), .v (.slice none 0 0)]
theorem evA_v {m : Mp} {f : Nat → Int} (h : OkM m) : ∀ p ∈ evA m f m.ws.length, 0 ≤ p.v := fun p hp => by
  obtain ⟨w, hw, hpw⟩ := List.mem_flatMap.1 hp
  have hw := List.mem_range.1 hw
  obtain ⟨x, _, rfl⟩ := List.mem_map.1 hpw
  have := (workB_ok (h.w w hw)).c
  exact Int.ediv_nonneg (by show 0 ≤ (gw m w).c; omega) (by omega)
theorem fn41 (m : Mp) (f : Nat → Int) (fr to : Int) (hm : Gm m) : Sy.Fn Try.prog 41 [aM m, .agg (c6 f), iv fr, iv to] (.tup [.agg (bnV m f fr to), iv (chE m f fr to)]) := by
  refine Fn_of_W mixed Xt41 rfl ?_
  have c40 := fn40 m f fr to hm
  have hz : chE m f fr to = 0 → ∃ p, chV m f fr to = some p ∧ opE m f = 0 ∧ plB m.n fr = true ∧ plB m.n to = true := fun q => by
    unfold chE at q
    by_cases h0 : opE m f = 0
    · rw [if_pos h0] at q
      by_cases hp : plB m.n fr = true ∧ plB m.n to = true
      · rw [if_pos hp] at q
        have e1 : chV m f fr to = bestS m f fr to := by unfold chV; rw [if_pos h0, if_pos hp]
        rcases hb : bestS m f fr to with _ | p
        · rw [hb] at q; cases q
        · exact ⟨p, by rw [e1, hb], h0, hp.1, hp.2⟩
      · rw [if_neg hp] at q; cases q
    · rw [if_neg h0] at q; exact absurd q h0
  by_cases hE : chE m f fr to = 0
  rotate_left
  · have e1 : bnV m f fr to = [.v (.slice none 0 0), .v (.slice none 0 0)] := by unfold bnV; rw [if_neg hE]
    rw [e1]
    rcases hv : chV m f fr to with _ | ⟨s, n⟩
    · rw [hv] at c40
      have c40 : Sy.Fn Try.prog 40 [aM m, .agg (c6 f), iv fr, iv to] (.tup [.agg zRt, iv (chE m f fr to)]) := c40
      unfold zRt at c40
      generalize chE m f fr to = e at *
      repeat' (first | refine WK_go ?_ | refine W_seqL ?_ | refine W_seq ?_ | refine W_block ?_ | refine W_scp ?_ | ((first | refine W_regL ?_ | refine W_skip ?_ | refine W_exit ?_ | refine CallC.now (c40) ?_); simp (maxSteps := 400000) (disch := omega) only [push_cast, ↓reduceIte, reduceCtorEq, Nat.reduceAdd, Nat.reduceSub, Nat.reduceEqDiff, Nat.reduceLeDiff, Nat.reduceLT, Nat.reduceBEq, Nat.reduceDiv, Nat.reduceMod, Nat.reducePow, Nat.reduceMul, Int.reduceToNat, Int.reduceLT, Int.reduceLE]) | refine And.intro (by omega) ?_ | refine And.intro (by intro hq; (try simp only [Bool.and_eq_true, Bool.or_eq_true, Bool.and_eq_false_iff, Bool.or_eq_false_iff, decide_eq_true_eq, decide_eq_false_iff_not, Bool.not_eq_true', Bool.not_eq_false', beq_iff_eq, beq_eq_false_iff_ne, ne_eq] at hq); omega) ?_ | fail)
      refine W_cond (by rfl) (fun h => ?_) (fun h => ?_)
      · repeat' (first | refine WK_go ?_ | refine W_seqL ?_ | refine W_seq ?_ | refine W_block ?_ | refine W_scp ?_ | ((first | refine W_regL ?_ | refine W_skip ?_ | refine W_exit ?_); simp (maxSteps := 400000) (disch := omega) only [push_cast, ↓reduceIte, reduceCtorEq, Nat.reduceAdd, Nat.reduceSub, Nat.reduceEqDiff, Nat.reduceLeDiff, Nat.reduceLT, Nat.reduceBEq, Nat.reduceDiv, Nat.reduceMod, Nat.reducePow, Nat.reduceMul, Int.reduceToNat, Int.reduceLT, Int.reduceLE]) | refine And.intro (by omega) ?_ | refine And.intro (by intro hq; (try simp only [Bool.and_eq_true, Bool.or_eq_true, Bool.and_eq_false_iff, Bool.or_eq_false_iff, decide_eq_true_eq, decide_eq_false_iff_not, Bool.not_eq_true', Bool.not_eq_false', beq_iff_eq, beq_eq_false_iff_ne, ne_eq] at hq); omega) ?_ | fail)
        exact W_ret ⟨[_, _], ⟨⟨by simp, rfl⟩, rfl, rfl⟩, rfl⟩
      · exact absurd (by simpa using h) hE
    · exfalso
      unfold chV at hv
      unfold chE at hE
      by_cases h0 : opE m f = 0
      · rw [if_pos h0] at hv hE
        by_cases hp : plB m.n fr = true ∧ plB m.n to = true
        · rw [if_pos hp] at hv hE
          rw [hv] at hE
          exact hE rfl
        · rw [if_neg hp] at hv; cases hv
      · rw [if_neg h0] at hv; cases hv
  obtain ⟨⟨s, n⟩, hv, h0, hp1, hp2⟩ := hz hE
  have e1 : bnV m f fr to = cBd (evA m f m.ws.length) (bnH m f fr to) := by unfold bnV; rw [if_pos hE]
  rw [e1, hE]
  rw [hv, hE] at c40
  have c40 : Sy.Fn Try.prog 40 [aM m, .agg (c6 f), iv fr, iv to] (.tup [.agg (cRt (wayS m f fr to s) s n (minL m (wayS m f fr to s))), iv 0]) := c40
  unfold cRt at c40
  have hchk : chkM m = 0 ∧ szE f = 0 := by
    unfold opE at h0
    by_cases q : chkM m = 0
    · rw [if_pos q] at h0; exact ⟨q, h0⟩
    · rw [if_neg q] at h0; exact absurd h0 q
  have hok := chkM_ok hchk.1
  have hmn := hok.n
  have hnw := hok.nw
  have hnr := hok.nr
  have hpr : (0 ≤ fr ∧ fr < m.n) ∧ (0 ≤ to ∧ to < m.n) := by
    unfold plB at hp1 hp2
    simp only [Bool.and_eq_true, decide_eq_true_eq] at hp1 hp2
    omega
  obtain ⟨N, hN⟩ : ∃ N : Nat, m.n = N := ⟨m.n.toNat, by omega⟩
  have lfil : ∀ i, (fil N i).length = N := fun i => tbI_len _ _
  have c104 := fn104 m f hok
  have hv0 := evA_v (f := f) hok
  have hPl := Nat.le_trans (evA_len m f m.ws.length) (Nat.mul_le_mul (Nat.mul_le_mul (Nat.le_refl 6) hnr) hnw)
  repeat' (first | refine WK_go ?_ | refine W_seqL ?_ | refine W_seq ?_ | refine W_block ?_ | refine W_scp ?_ | ((first | refine W_regL ?_ | refine W_skip ?_ | refine W_exit ?_ | refine CallC.now (c40) ?_); simp (maxSteps := 400000) (disch := omega) only [push_cast, ↓reduceIte, reduceCtorEq, Nat.reduceAdd, Nat.reduceSub, Nat.reduceEqDiff, Nat.reduceLeDiff, Nat.reduceLT, Nat.reduceBEq, Nat.reduceDiv, Nat.reduceMod, Nat.reducePow, Nat.reduceMul, Int.reduceToNat, Int.reduceLT, Int.reduceLE]) | refine And.intro (by omega) ?_ | refine And.intro (by intro hq; (try simp only [Bool.and_eq_true, Bool.or_eq_true, Bool.and_eq_false_iff, Bool.or_eq_false_iff, decide_eq_true_eq, decide_eq_false_iff_not, Bool.not_eq_true', Bool.not_eq_false', beq_iff_eq, beq_eq_false_iff_ne, ne_eq] at hq); omega) ?_ | fail)
  refine W_cond (by rfl) (fun h => by cases h) (fun _ => ?_)
  have hbn : bnH m f fr to = mnL (bnD m f fr) (gi (bnD m f fr) to.toNat) N := by unfold bnH; rw [hN, Int.toNat_natCast]
  rw [hbn]
  have hrd : ∀ i, rdC m f i = if usB m f (evL m.ws.length) i = true then redS m f (evA m f m.ws.length) i 6 else -1 := fun _ => rfl
  have hbd : bnD m f fr = dstC m false (rdC m f) fr := rfl
  generalize rdC m f = rc at *
  generalize bnD m f fr = BD at *
  generalize evA m f m.ws.length = PS at *
  generalize wayS m f fr to s = WS at *
  unfold cBd
  repeat' (first | refine WK_go ?_ | refine W_seqL ?_ | refine W_seq ?_ | refine W_block ?_ | refine W_scp ?_ | ((first | refine W_regL ?_ | refine W_skip ?_ | refine W_exit ?_ | refine CallC.now (c104) ?_); simp (maxSteps := 400000) (disch := omega) only [push_cast, ↓reduceIte, reduceCtorEq, Nat.reduceAdd, Nat.reduceSub, Nat.reduceEqDiff, Nat.reduceLeDiff, Nat.reduceLT, Nat.reduceBEq, Nat.reduceDiv, Nat.reduceMod, Nat.reducePow, Nat.reduceMul, Int.reduceToNat, Int.reduceLT, Int.reduceLE, hN]) | refine And.intro (by omega) ?_ | refine And.intro (by intro hq; (try simp only [Bool.and_eq_true, Bool.or_eq_true, Bool.and_eq_false_iff, Bool.or_eq_false_iff, decide_eq_true_eq, decide_eq_false_iff_not, Bool.not_eq_true', Bool.not_eq_false', beq_iff_eq, beq_eq_false_iff_ne, ne_eq] at hq); omega) ?_ | fail)
  refine ⟨rfl, ⟨by omega, by omega, by omega⟩, Int, 0, cI, 0, rfl, rfl, by omega, rfl, ?_⟩
  simp (maxSteps := 400000) (disch := omega) only [push_cast, ↓reduceIte, reduceCtorEq, Nat.reduceAdd, Nat.reduceSub, Nat.reduceEqDiff, Nat.reduceLeDiff, Nat.reduceLT, Nat.reduceBEq, Nat.reduceDiv, Nat.reduceMod, Nat.reducePow, Nat.reduceMul, Int.reduceToNat, Int.reduceLT, Int.reduceLE, Int.toNat_natCast]
  repeat' (first | refine WK_go ?_ | refine W_seqL ?_ | refine W_seq ?_ | refine W_block ?_ | refine W_scp ?_ | ((first | refine W_regL ?_ | refine W_skip ?_ | refine W_exit ?_); simp (maxSteps := 400000) (disch := omega) only [push_cast, ↓reduceIte, reduceCtorEq, Nat.reduceAdd, Nat.reduceSub, Nat.reduceEqDiff, Nat.reduceLeDiff, Nat.reduceLT, Nat.reduceBEq, Nat.reduceDiv, Nat.reduceMod, Nat.reducePow, Nat.reduceMul, Int.reduceToNat, Int.reduceLT, Int.reduceLE]) | refine And.intro (by omega) ?_ | refine And.intro (by intro hq; (try simp only [Bool.and_eq_true, Bool.or_eq_true, Bool.and_eq_false_iff, Bool.or_eq_false_iff, decide_eq_true_eq, decide_eq_false_iff_not, Bool.not_eq_true', Bool.not_eq_false', beq_iff_eq, beq_eq_false_iff_ne, ne_eq] at hq); omega) ?_ | fail)
  refine W_loopU (fun i : Nat => [(13, iv i)]) (fun i => [(22, .row 0 2 1 0 cI (fil N i))]) (fun i => i ≤ N) (fun i => N - i) 0 (by omega) (by rfl) (by rw [fil_zero]; rfl) (fun i hi => ?_)
  simp (maxSteps := 400000) (disch := omega) only [push_cast, ↓reduceIte, reduceCtorEq, Nat.reduceAdd, Nat.reduceSub, Nat.reduceEqDiff, Nat.reduceLeDiff, Nat.reduceLT, Nat.reduceBEq, Nat.reduceDiv, Nat.reduceMod, Nat.reducePow, Nat.reduceMul, Int.reduceToNat, Int.reduceLT, Int.reduceLE]
  repeat' (first | refine WK_go ?_ | refine W_seqL ?_ | refine W_seq ?_ | refine W_block ?_ | refine W_scp ?_ | ((first | refine W_regL ?_ | refine W_skip ?_ | refine W_exit ?_); simp (maxSteps := 400000) (disch := omega) only [push_cast, ↓reduceIte, reduceCtorEq, Nat.reduceAdd, Nat.reduceSub, Nat.reduceEqDiff, Nat.reduceLeDiff, Nat.reduceLT, Nat.reduceBEq, Nat.reduceDiv, Nat.reduceMod, Nat.reducePow, Nat.reduceMul, Int.reduceToNat, Int.reduceLT, Int.reduceLE, hN]) | refine And.intro (by omega) ?_ | refine And.intro (by intro hq; (try simp only [Bool.and_eq_true, Bool.or_eq_true, Bool.and_eq_false_iff, Bool.or_eq_false_iff, decide_eq_true_eq, decide_eq_false_iff_not, Bool.not_eq_true', Bool.not_eq_false', beq_iff_eq, beq_eq_false_iff_ne, ne_eq] at hq); omega) ?_ | fail)
  refine W_condD (by rfl) (fun h5 => ?_) (fun h5 => ?_)
  · have hlt : i < N := by omega
    repeat' (first | refine WK_go ?_ | refine W_seqL ?_ | refine W_seq ?_ | refine W_block ?_ | refine W_scp ?_ | ((first | refine W_regL ?_ | refine W_skip ?_ | refine W_exit ?_); simp (maxSteps := 400000) (disch := omega) only [push_cast, ↓reduceIte, reduceCtorEq, Nat.reduceAdd, Nat.reduceSub, Nat.reduceEqDiff, Nat.reduceLeDiff, Nat.reduceLT, Nat.reduceBEq, Nat.reduceDiv, Nat.reduceMod, Nat.reducePow, Nat.reduceMul, Int.reduceToNat, Int.reduceLT, Int.reduceLE, lfil, Int.toNat_natCast]) | refine And.intro (by omega) ?_ | refine And.intro (by intro hq; (try simp only [Bool.and_eq_true, Bool.or_eq_true, Bool.and_eq_false_iff, Bool.or_eq_false_iff, decide_eq_true_eq, decide_eq_false_iff_not, Bool.not_eq_true', Bool.not_eq_false', beq_iff_eq, beq_eq_false_iff_ne, ne_eq] at hq); omega) ?_ | fail)
    refine ⟨rfl, ⟨Nat.le_of_ble_eq_true rfl, rfl⟩, by omega, far, rfl, rfl, ?_⟩
    rw [fil_set hlt]
    simp (maxSteps := 400000) (disch := omega) only [push_cast, ↓reduceIte, reduceCtorEq, Nat.reduceAdd, Nat.reduceSub, Nat.reduceEqDiff, Nat.reduceLeDiff, Nat.reduceLT, Nat.reduceBEq, Nat.reduceDiv, Nat.reduceMod, Nat.reducePow, Nat.reduceMul, Int.reduceToNat, Int.reduceLT, Int.reduceLE]
    repeat' (first | refine WK_go ?_ | refine W_seqL ?_ | refine W_seq ?_ | refine W_block ?_ | refine W_scp ?_ | ((first | refine W_regL ?_ | refine W_skip ?_ | refine W_exit ?_); simp (maxSteps := 400000) (disch := omega) only [push_cast, ↓reduceIte, reduceCtorEq, Nat.reduceAdd, Nat.reduceSub, Nat.reduceEqDiff, Nat.reduceLeDiff, Nat.reduceLT, Nat.reduceBEq, Nat.reduceDiv, Nat.reduceMod, Nat.reducePow, Nat.reduceMul, Int.reduceToNat, Int.reduceLT, Int.reduceLE]) | refine And.intro (by omega) ?_ | refine And.intro (by intro hq; (try simp only [Bool.and_eq_true, Bool.or_eq_true, Bool.and_eq_false_iff, Bool.or_eq_false_iff, decide_eq_true_eq, decide_eq_false_iff_not, Bool.not_eq_true', Bool.not_eq_false', beq_iff_eq, beq_eq_false_iff_ne, ne_eq] at hq); omega) ?_ | fail)
    refine ⟨i + 1, by omega, by omega, by rfl, ?_⟩
    simp (maxSteps := 400000) (disch := omega) only [push_cast, ↓reduceIte, reduceCtorEq, Nat.reduceAdd, Nat.reduceSub, Nat.reduceEqDiff, Nat.reduceLeDiff, Nat.reduceLT, Nat.reduceBEq, Nat.reduceDiv, Nat.reduceMod, Nat.reducePow, Nat.reduceMul, Int.reduceToNat, Int.reduceLT, Int.reduceLE, S.mk.injEq, List.cons.injEq, Prod.mk.injEq, AV.v.injEq, Value.int.injEq, Value.bool.injEq, Blk.cells.injEq]
  have hiN : i = N := by omega
  subst hiN
  rw [fil_end]
  clear lfil h5 hi
  repeat' (first | refine WK_go ?_ | refine W_seqL ?_ | refine W_seq ?_ | refine W_block ?_ | refine W_scp ?_ | ((first | refine W_regL ?_ | refine W_skip ?_ | refine W_exit ?_); simp (maxSteps := 400000) (disch := omega) only [push_cast, ↓reduceIte, reduceCtorEq, Nat.reduceAdd, Nat.reduceSub, Nat.reduceEqDiff, Nat.reduceLeDiff, Nat.reduceLT, Nat.reduceBEq, Nat.reduceDiv, Nat.reduceMod, Nat.reducePow, Nat.reduceMul, Int.reduceToNat, Int.reduceLT, Int.reduceLE, List.length_replicate]) | refine And.intro (by omega) ?_ | refine And.intro (by intro hq; (try simp only [Bool.and_eq_true, Bool.or_eq_true, Bool.and_eq_false_iff, Bool.or_eq_false_iff, decide_eq_true_eq, decide_eq_false_iff_not, Bool.not_eq_true', Bool.not_eq_false', beq_iff_eq, beq_eq_false_iff_ne, ne_eq] at hq); omega) ?_ | fail)
  refine ⟨rfl, ⟨Nat.le_of_ble_eq_true rfl, rfl⟩, by omega, 0, rfl, rfl, ?_⟩
  have hini : (List.replicate i far).set fr.toNat 0 = ini i fr.toNat := rfl
  rw [hini]
  have hil : (ini i fr.toNat).length = i := by rw [← hini, List.length_set, List.length_replicate]
  simp (maxSteps := 400000) (disch := omega) only [push_cast, ↓reduceIte, reduceCtorEq, Nat.reduceAdd, Nat.reduceSub, Nat.reduceEqDiff, Nat.reduceLeDiff, Nat.reduceLT, Nat.reduceBEq, Nat.reduceDiv, Nat.reduceMod, Nat.reducePow, Nat.reduceMul, Int.reduceToNat, Int.reduceLT, Int.reduceLE]
  repeat' (first | refine WK_go ?_ | refine W_seqL ?_ | refine W_seq ?_ | refine W_block ?_ | refine W_scp ?_ | ((first | refine W_regL ?_ | refine W_skip ?_ | refine W_exit ?_); simp (maxSteps := 400000) (disch := omega) only [push_cast, ↓reduceIte, reduceCtorEq, Nat.reduceAdd, Nat.reduceSub, Nat.reduceEqDiff, Nat.reduceLeDiff, Nat.reduceLT, Nat.reduceBEq, Nat.reduceDiv, Nat.reduceMod, Nat.reducePow, Nat.reduceMul, Int.reduceToNat, Int.reduceLT, Int.reduceLE]) | refine And.intro (by omega) ?_ | refine And.intro (by intro hq; (try simp only [Bool.and_eq_true, Bool.or_eq_true, Bool.and_eq_false_iff, Bool.or_eq_false_iff, decide_eq_true_eq, decide_eq_false_iff_not, Bool.not_eq_true', Bool.not_eq_false', beq_iff_eq, beq_eq_false_iff_ne, ne_eq] at hq); omega) ?_ | fail)
  refine W_le (le_adopt 14 3 1 0 cI (by omega) rfl) ?_
  simp (maxSteps := 400000) (disch := omega) only [push_cast, ↓reduceIte, reduceCtorEq, Nat.reduceAdd, Nat.reduceSub, Nat.reduceEqDiff, Nat.reduceLeDiff, Nat.reduceLT, Nat.reduceBEq, Nat.reduceDiv, Nat.reduceMod, Nat.reducePow, Nat.reduceMul, Int.reduceToNat, Int.reduceLT, Int.reduceLE]
  refine W_le (le_adopt 15 2 1 0 cI (by omega) rfl) ?_
  simp (maxSteps := 400000) (disch := omega) only [push_cast, ↓reduceIte, reduceCtorEq, Nat.reduceAdd, Nat.reduceSub, Nat.reduceEqDiff, Nat.reduceLeDiff, Nat.reduceLT, Nat.reduceBEq, Nat.reduceDiv, Nat.reduceMod, Nat.reducePow, Nat.reduceMul, Int.reduceToNat, Int.reduceLT, Int.reduceLE]
  obtain ⟨U, hU⟩ : ∃ U, U = usB m f (evL m.ws.length) := ⟨_, rfl⟩
  have hrd : ∀ i, rc i = if U i = true then redS m f PS i 6 else -1 := fun i => by rw [hU]; exact hrd i
  have c105 := fn105 m (by omega)
  refine W_loopU (fun j : Nat => [(14, .row 39 (usN U j).length), (15, .row 40 (usN U j).length), (16, iv j)]) (fun j => [(39, .row (usN U j).length 3 1 0 cI (usN U j)), (40, .row (usN U j).length 2 1 0 cI ((usN U j).map fun x => redS m f PS x.toNat 6))]) (fun j => j ≤ m.rs.length) (fun j => m.rs.length - j) 0 (by omega) (by rfl) (by rfl) (fun j hj => ?_)
  have hul := usN_len U j
  have hus := usN_succ U j
  simp (maxSteps := 400000) (disch := omega) only [push_cast, ↓reduceIte, reduceCtorEq, Nat.reduceAdd, Nat.reduceSub, Nat.reduceEqDiff, Nat.reduceLeDiff, Nat.reduceLT, Nat.reduceBEq, Nat.reduceDiv, Nat.reduceMod, Nat.reducePow, Nat.reduceMul, Int.reduceToNat, Int.reduceLT, Int.reduceLE]
  repeat' (first | refine WK_go ?_ | refine W_seqL ?_ | refine W_seq ?_ | refine W_block ?_ | refine W_scp ?_ | ((first | refine W_regL ?_ | refine W_skip ?_ | refine W_exit ?_); simp (maxSteps := 400000) (disch := omega) only [push_cast, ↓reduceIte, reduceCtorEq, Nat.reduceAdd, Nat.reduceSub, Nat.reduceEqDiff, Nat.reduceLeDiff, Nat.reduceLT, Nat.reduceBEq, Nat.reduceDiv, Nat.reduceMod, Nat.reducePow, Nat.reduceMul, Int.reduceToNat, Int.reduceLT, Int.reduceLE]) | refine And.intro (by omega) ?_ | refine And.intro (by intro hq; (try simp only [Bool.and_eq_true, Bool.or_eq_true, Bool.and_eq_false_iff, Bool.or_eq_false_iff, decide_eq_true_eq, decide_eq_false_iff_not, Bool.not_eq_true', Bool.not_eq_false', beq_iff_eq, beq_eq_false_iff_ne, ne_eq] at hq); omega) ?_ | fail)
  refine W_condD (by rfl) (fun h5 => ?_) (fun h5 => ?_)
  · have hlt : j < m.rs.length := by omega
    have c103 := fn103 m f (evL m.ws.length) j hok (ev_srt _) hlt
    rw [← hU] at c103
    have c106 := fn106 m f PS j hok hlt (by omega) hv0
    generalize usN U j = Y at *
    generalize evL m.ws.length = EV at *
    cases hUj : U j
    · rw [hUj] at c103 hus
      rw [if_neg (by simp)] at hus
      repeat' (first | refine WK_go ?_ | refine W_seqL ?_ | refine W_seq ?_ | refine W_block ?_ | refine W_scp ?_ | ((first | refine W_regL ?_ | refine W_skip ?_ | refine W_exit ?_ | refine CallC.now (c105) ?_ | refine CallC.now (c103) ?_); simp (maxSteps := 400000) (disch := omega) only [push_cast, ↓reduceIte, reduceCtorEq, Nat.reduceAdd, Nat.reduceSub, Nat.reduceEqDiff, Nat.reduceLeDiff, Nat.reduceLT, Nat.reduceBEq, Nat.reduceDiv, Nat.reduceMod, Nat.reducePow, Nat.reduceMul, Int.reduceToNat, Int.reduceLT, Int.reduceLE]) | refine And.intro (by omega) ?_ | refine And.intro (by intro hq; (try simp only [Bool.and_eq_true, Bool.or_eq_true, Bool.and_eq_false_iff, Bool.or_eq_false_iff, decide_eq_true_eq, decide_eq_false_iff_not, Bool.not_eq_true', Bool.not_eq_false', beq_iff_eq, beq_eq_false_iff_ne, ne_eq] at hq); omega) ?_ | fail)
      refine W_cond (by rfl) (fun h => by cases h) (fun _ => ?_)
      repeat' (first | refine WK_go ?_ | refine W_seqL ?_ | refine W_seq ?_ | refine W_block ?_ | refine W_scp ?_ | ((first | refine W_regL ?_ | refine W_skip ?_ | refine W_exit ?_); simp (maxSteps := 400000) (disch := omega) only [push_cast, ↓reduceIte, reduceCtorEq, Nat.reduceAdd, Nat.reduceSub, Nat.reduceEqDiff, Nat.reduceLeDiff, Nat.reduceLT, Nat.reduceBEq, Nat.reduceDiv, Nat.reduceMod, Nat.reducePow, Nat.reduceMul, Int.reduceToNat, Int.reduceLT, Int.reduceLE]) | refine And.intro (by omega) ?_ | refine And.intro (by intro hq; (try simp only [Bool.and_eq_true, Bool.or_eq_true, Bool.and_eq_false_iff, Bool.or_eq_false_iff, decide_eq_true_eq, decide_eq_false_iff_not, Bool.not_eq_true', Bool.not_eq_false', beq_iff_eq, beq_eq_false_iff_ne, ne_eq] at hq); omega) ?_ | fail)
      refine ⟨j + 1, by omega, by omega, by rfl, ?_⟩
      rw [hus]
      simp (maxSteps := 400000) (disch := omega) only [push_cast, ↓reduceIte, reduceCtorEq, Nat.reduceAdd, Nat.reduceSub, Nat.reduceEqDiff, Nat.reduceLeDiff, Nat.reduceLT, Nat.reduceBEq, Nat.reduceDiv, Nat.reduceMod, Nat.reducePow, Nat.reduceMul, Int.reduceToNat, Int.reduceLT, Int.reduceLE, S.mk.injEq, List.cons.injEq, Prod.mk.injEq, AV.v.injEq, Value.int.injEq, Value.bool.injEq, Blk.cells.injEq]
    · rw [hUj] at c103 hus
      rw [if_pos rfl] at hus
      repeat' (first | refine WK_go ?_ | refine W_seqL ?_ | refine W_seq ?_ | refine W_block ?_ | refine W_scp ?_ | ((first | refine W_regL ?_ | refine W_skip ?_ | refine W_exit ?_ | refine CallC.now (c105) ?_ | refine CallC.now (c103) ?_); simp (maxSteps := 400000) (disch := omega) only [push_cast, ↓reduceIte, reduceCtorEq, Nat.reduceAdd, Nat.reduceSub, Nat.reduceEqDiff, Nat.reduceLeDiff, Nat.reduceLT, Nat.reduceBEq, Nat.reduceDiv, Nat.reduceMod, Nat.reducePow, Nat.reduceMul, Int.reduceToNat, Int.reduceLT, Int.reduceLE]) | refine And.intro (by omega) ?_ | refine And.intro (by intro hq; (try simp only [Bool.and_eq_true, Bool.or_eq_true, Bool.and_eq_false_iff, Bool.or_eq_false_iff, decide_eq_true_eq, decide_eq_false_iff_not, Bool.not_eq_true', Bool.not_eq_false', beq_iff_eq, beq_eq_false_iff_ne, ne_eq] at hq); omega) ?_ | fail)
      refine W_cond (by rfl) (fun _ => ?_) (fun h => by cases h)
      repeat' (first | refine WK_go ?_ | refine W_seqL ?_ | refine W_seq ?_ | refine W_block ?_ | refine W_scp ?_ | ((first | refine W_regL ?_ | refine W_skip ?_ | refine W_exit ?_); simp (maxSteps := 400000) (disch := omega) only [push_cast, ↓reduceIte, reduceCtorEq, Nat.reduceAdd, Nat.reduceSub, Nat.reduceEqDiff, Nat.reduceLeDiff, Nat.reduceLT, Nat.reduceBEq, Nat.reduceDiv, Nat.reduceMod, Nat.reducePow, Nat.reduceMul, Int.reduceToNat, Int.reduceLT, Int.reduceLE]) | refine And.intro (by omega) ?_ | refine And.intro (by intro hq; (try simp only [Bool.and_eq_true, Bool.or_eq_true, Bool.and_eq_false_iff, Bool.or_eq_false_iff, decide_eq_true_eq, decide_eq_false_iff_not, Bool.not_eq_true', Bool.not_eq_false', beq_iff_eq, beq_eq_false_iff_ne, ne_eq] at hq); omega) ?_ | fail)
      refine ⟨rfl, trivial, Int, 0, cI, [(j : Int)], rfl, by omega, fun x _ => ⟨rfl, rfl⟩, rfl, ?_⟩
      simp (maxSteps := 400000) (disch := omega) only [push_cast, ↓reduceIte, reduceCtorEq, Nat.reduceAdd, Nat.reduceSub, Nat.reduceEqDiff, Nat.reduceLeDiff, Nat.reduceLT, Nat.reduceBEq, Nat.reduceDiv, Nat.reduceMod, Nat.reducePow, Nat.reduceMul, Int.reduceToNat, Int.reduceLT, Int.reduceLE]
      refine ⟨rfl, ⟨Nat.le_of_ble_eq_true rfl, rfl⟩, trivial, [(j : Int)], rfl, by first | omega | (simp; omega), by first | omega | (simp; omega), ?_⟩
      simp (maxSteps := 400000) (disch := omega) only [push_cast, ↓reduceIte, reduceCtorEq, Nat.reduceAdd, Nat.reduceSub, Nat.reduceEqDiff, Nat.reduceLeDiff, Nat.reduceLT, Nat.reduceBEq, Nat.reduceDiv, Nat.reduceMod, Nat.reducePow, Nat.reduceMul, Int.reduceToNat, Int.reduceLT, Int.reduceLE]
      repeat' (first | refine WK_go ?_ | refine W_seqL ?_ | refine W_seq ?_ | refine W_block ?_ | refine W_scp ?_ | ((first | refine W_regL ?_ | refine W_skip ?_ | refine W_exit ?_ | refine CallC.now (c106) ?_); simp (maxSteps := 400000) (disch := omega) only [push_cast, ↓reduceIte, reduceCtorEq, Nat.reduceAdd, Nat.reduceSub, Nat.reduceEqDiff, Nat.reduceLeDiff, Nat.reduceLT, Nat.reduceBEq, Nat.reduceDiv, Nat.reduceMod, Nat.reducePow, Nat.reduceMul, Int.reduceToNat, Int.reduceLT, Int.reduceLE]) | refine And.intro (by omega) ?_ | refine And.intro (by intro hq; (try simp only [Bool.and_eq_true, Bool.or_eq_true, Bool.and_eq_false_iff, Bool.or_eq_false_iff, decide_eq_true_eq, decide_eq_false_iff_not, Bool.not_eq_true', Bool.not_eq_false', beq_iff_eq, beq_eq_false_iff_ne, ne_eq] at hq); omega) ?_ | fail)
      refine ⟨rfl, trivial, Int, 0, cI, [redS m f PS j 6], rfl, by omega, fun x _ => ⟨rfl, rfl⟩, rfl, ?_⟩
      simp (maxSteps := 400000) (disch := omega) only [push_cast, ↓reduceIte, reduceCtorEq, Nat.reduceAdd, Nat.reduceSub, Nat.reduceEqDiff, Nat.reduceLeDiff, Nat.reduceLT, Nat.reduceBEq, Nat.reduceDiv, Nat.reduceMod, Nat.reducePow, Nat.reduceMul, Int.reduceToNat, Int.reduceLT, Int.reduceLE]
      refine ⟨rfl, ⟨Nat.le_of_ble_eq_true rfl, rfl⟩, trivial, [redS m f PS j 6], rfl, by first | omega | (simp; omega), by first | omega | (simp; omega), ?_⟩
      simp (maxSteps := 400000) (disch := omega) only [push_cast, ↓reduceIte, reduceCtorEq, Nat.reduceAdd, Nat.reduceSub, Nat.reduceEqDiff, Nat.reduceLeDiff, Nat.reduceLT, Nat.reduceBEq, Nat.reduceDiv, Nat.reduceMod, Nat.reducePow, Nat.reduceMul, Int.reduceToNat, Int.reduceLT, Int.reduceLE]
      repeat' (first | refine WK_go ?_ | refine W_seqL ?_ | refine W_seq ?_ | refine W_block ?_ | refine W_scp ?_ | ((first | refine W_regL ?_ | refine W_skip ?_ | refine W_exit ?_); simp (maxSteps := 400000) (disch := omega) only [push_cast, ↓reduceIte, reduceCtorEq, Nat.reduceAdd, Nat.reduceSub, Nat.reduceEqDiff, Nat.reduceLeDiff, Nat.reduceLT, Nat.reduceBEq, Nat.reduceDiv, Nat.reduceMod, Nat.reducePow, Nat.reduceMul, Int.reduceToNat, Int.reduceLT, Int.reduceLE]) | refine And.intro (by omega) ?_ | refine And.intro (by intro hq; (try simp only [Bool.and_eq_true, Bool.or_eq_true, Bool.and_eq_false_iff, Bool.or_eq_false_iff, decide_eq_true_eq, decide_eq_false_iff_not, Bool.not_eq_true', Bool.not_eq_false', beq_iff_eq, beq_eq_false_iff_ne, ne_eq] at hq); omega) ?_ | fail)
      refine ⟨j + 1, by omega, by omega, by rfl, ?_⟩
      rw [hus, List.length_append, List.map_append]
      simp (maxSteps := 400000) (disch := omega) only [push_cast, ↓reduceIte, reduceCtorEq, Nat.reduceAdd, Nat.reduceSub, Nat.reduceEqDiff, Nat.reduceLeDiff, Nat.reduceLT, Nat.reduceBEq, Nat.reduceDiv, Nat.reduceMod, Nat.reducePow, Nat.reduceMul, Int.reduceToNat, Int.reduceLT, Int.reduceLE, S.mk.injEq, List.cons.injEq, Prod.mk.injEq, AV.v.injEq, Value.int.injEq, Value.bool.injEq, Blk.cells.injEq]
  have hjl : j = m.rs.length := by omega
  subst hjl
  clear hus h5 hj
  obtain ⟨L, hL⟩ : ∃ L, L = usN U m.rs.length := ⟨_, rfl⟩
  rw [← hL] at hul ⊢
  have hLm : ∀ x ∈ L, ∃ j : Nat, j < m.rs.length ∧ U j = true ∧ x = j := fun x hx => usN_mem.1 (by rw [← hL]; exact hx)
  obtain ⟨es, hes⟩ : ∃ es, es = uesL m false rc L := ⟨_, rfl⟩
  have heL : es.length = L.length := by rw [hes]; simp [uesL]
  have hec : ∀ k, (edC m false rc k).c = rc k := fun k => rfl
  have hdst : dst es i fr.toNat = BD := by
    have := ues_eq (m := m) (bk := false) (c := rc) (a := fr) hok (fun x hx h0 => by
      rw [hrd] at h0 ⊢
      have := redS_rng (f := f) hok hx hv0 6
      split at h0
      · rename_i q; rw [if_pos q]; omega
      · omega) hpr.1 (es := es) (fun e he => by
      rw [hes] at he
      obtain ⟨x, hx, rfl⟩ := List.mem_map.1 he
      obtain ⟨k, hk, hu, rfl⟩ := hLm x hx
      rw [Int.toNat_natCast]
      refine ⟨List.mem_map.2 ⟨k, List.mem_range.2 hk, rfl⟩, ?_⟩
      rw [hec, hrd, if_pos hu]
      have := redS_rng (f := f) hok hk hv0 6
      omega) (fun e he h0 => by
      obtain ⟨k, hk, rfl⟩ := List.mem_map.1 he
      have hk := List.mem_range.1 hk
      rw [hec, hrd] at h0
      have hu : U k = true := by
        apply Classical.byContradiction
        intro z
        rw [if_neg z] at h0
        omega
      rw [hes]
      exact List.mem_map.2 ⟨(k : Int), by rw [hL]; exact usN_mem.2 ⟨k, hk, hu, rfl⟩, by rw [Int.toNat_natCast]⟩)
    rw [hN, Int.toNat_natCast] at this
    rw [hbd]
    exact this
  have hdr : ∀ e ∈ es, e.x < i ∧ e.y < i := fun e he => by
    rw [hes] at he
    obtain ⟨x, hx, rfl⟩ := List.mem_map.1 he
    obtain ⟨k, hk, hu, rfl⟩ := hLm x hx
    rw [Int.toNat_natCast]
    have ok := roadB_ok (hok.r k hk)
    have := ok.f; have := ok.t
    exact ⟨show (gr m k).f.toNat < _ by omega, show (gr m k).t.toNat < _ by omega⟩
  have hD : ∀ k, Dst es fr.toNat i (rnds es (ini i fr.toNat) k) := rnds_dst hdr (ini_dst (by omega))
  have hDB : Dst es fr.toNat i BD := by rw [← hdst]; exact hD i
  repeat' (first | refine WK_go ?_ | refine W_seqL ?_ | refine W_seq ?_ | refine W_block ?_ | refine W_scp ?_ | ((first | refine W_regL ?_ | refine W_skip ?_ | refine W_exit ?_); simp (maxSteps := 400000) (disch := omega) only [push_cast, ↓reduceIte, reduceCtorEq, Nat.reduceAdd, Nat.reduceSub, Nat.reduceEqDiff, Nat.reduceLeDiff, Nat.reduceLT, Nat.reduceBEq, Nat.reduceDiv, Nat.reduceMod, Nat.reducePow, Nat.reduceMul, Int.reduceToNat, Int.reduceLT, Int.reduceLE]) | refine And.intro (by omega) ?_ | refine And.intro (by intro hq; (try simp only [Bool.and_eq_true, Bool.or_eq_true, Bool.and_eq_false_iff, Bool.or_eq_false_iff, decide_eq_true_eq, decide_eq_false_iff_not, Bool.not_eq_true', Bool.not_eq_false', beq_iff_eq, beq_eq_false_iff_ne, ne_eq] at hq); omega) ?_ | fail)
  refine W_loopU (fun k : Nat => [(17, iv k)]) (fun k => [(22, .row 0 2 1 0 cI (rnds es (ini i fr.toNat) k))]) (fun k => k ≤ i) (fun k => i - k) 0 (by omega) (by rfl) (by rfl) (fun k hk => ?_)
  have hDk := hD k
  simp (maxSteps := 400000) (disch := omega) only [push_cast, ↓reduceIte, reduceCtorEq, Nat.reduceAdd, Nat.reduceSub, Nat.reduceEqDiff, Nat.reduceLeDiff, Nat.reduceLT, Nat.reduceBEq, Nat.reduceDiv, Nat.reduceMod, Nat.reducePow, Nat.reduceMul, Int.reduceToNat, Int.reduceLT, Int.reduceLE]
  repeat' (first | refine WK_go ?_ | refine W_seqL ?_ | refine W_seq ?_ | refine W_block ?_ | refine W_scp ?_ | ((first | refine W_regL ?_ | refine W_skip ?_ | refine W_exit ?_); simp (maxSteps := 400000) (disch := omega) only [push_cast, ↓reduceIte, reduceCtorEq, Nat.reduceAdd, Nat.reduceSub, Nat.reduceEqDiff, Nat.reduceLeDiff, Nat.reduceLT, Nat.reduceBEq, Nat.reduceDiv, Nat.reduceMod, Nat.reducePow, Nat.reduceMul, Int.reduceToNat, Int.reduceLT, Int.reduceLE, hN]) | refine And.intro (by omega) ?_ | refine And.intro (by intro hq; (try simp only [Bool.and_eq_true, Bool.or_eq_true, Bool.and_eq_false_iff, Bool.or_eq_false_iff, decide_eq_true_eq, decide_eq_false_iff_not, Bool.not_eq_true', Bool.not_eq_false', beq_iff_eq, beq_eq_false_iff_ne, ne_eq] at hq); omega) ?_ | fail)
  refine W_condD (by rfl) (fun h5 => ?_) (fun h5 => ?_)
  rotate_left
  · have hki : k = i := by omega
    have hfin : rnds es (ini i fr.toNat) k = BD := by rw [hki]; exact hdst
    rw [hfin]
    have hlB := hDB.len
    have hbt := hDB.le (y := to.toNat) (by omega)
    have gI : ∀ (l : List Int) i, l.getD i 0 = gi l i := fun _ _ => rfl
    generalize hh : gi BD to.toNat = T at *
    have hh2 : BD.getD to.toNat 0 = T := hh
    repeat' (first | refine WK_go ?_ | refine W_seqL ?_ | refine W_seq ?_ | refine W_block ?_ | refine W_scp ?_ | ((first | refine W_regL ?_ | refine W_skip ?_ | refine W_exit ?_); simp (maxSteps := 400000) (disch := omega) only [push_cast, ↓reduceIte, reduceCtorEq, Nat.reduceAdd, Nat.reduceSub, Nat.reduceEqDiff, Nat.reduceLeDiff, Nat.reduceLT, Nat.reduceBEq, Nat.reduceDiv, Nat.reduceMod, Nat.reducePow, Nat.reduceMul, Int.reduceToNat, Int.reduceLT, Int.reduceLE, hlB, hh2]) | refine And.intro (by omega) ?_ | refine And.intro (by intro hq; (try simp only [Bool.and_eq_true, Bool.or_eq_true, Bool.and_eq_false_iff, Bool.or_eq_false_iff, decide_eq_true_eq, decide_eq_false_iff_not, Bool.not_eq_true', Bool.not_eq_false', beq_iff_eq, beq_eq_false_iff_ne, ne_eq] at hq); omega) ?_ | fail)
    refine W_loopU (fun z : Nat => [(21, iv z)]) (fun z => [(22, .row 0 2 1 0 cI (mnL BD T z))]) (fun z => z ≤ i) (fun z => i - z) 0 (by omega) (by rfl) (by simp only [mnL, List.take_zero, List.map_nil, List.drop_zero, List.nil_append]; rfl) (fun z hz => ?_)
    have hml := mnL_len BD T z
    rw [hlB] at hml
    simp (maxSteps := 400000) (disch := omega) only [push_cast, ↓reduceIte, reduceCtorEq, Nat.reduceAdd, Nat.reduceSub, Nat.reduceEqDiff, Nat.reduceLeDiff, Nat.reduceLT, Nat.reduceBEq, Nat.reduceDiv, Nat.reduceMod, Nat.reducePow, Nat.reduceMul, Int.reduceToNat, Int.reduceLT, Int.reduceLE]
    repeat' (first | refine WK_go ?_ | refine W_seqL ?_ | refine W_seq ?_ | refine W_block ?_ | refine W_scp ?_ | ((first | refine W_regL ?_ | refine W_skip ?_ | refine W_exit ?_); simp (maxSteps := 400000) (disch := omega) only [push_cast, ↓reduceIte, reduceCtorEq, Nat.reduceAdd, Nat.reduceSub, Nat.reduceEqDiff, Nat.reduceLeDiff, Nat.reduceLT, Nat.reduceBEq, Nat.reduceDiv, Nat.reduceMod, Nat.reducePow, Nat.reduceMul, Int.reduceToNat, Int.reduceLT, Int.reduceLE, hN]) | refine And.intro (by omega) ?_ | refine And.intro (by intro hq; (try simp only [Bool.and_eq_true, Bool.or_eq_true, Bool.and_eq_false_iff, Bool.or_eq_false_iff, decide_eq_true_eq, decide_eq_false_iff_not, Bool.not_eq_true', Bool.not_eq_false', beq_iff_eq, beq_eq_false_iff_ne, ne_eq] at hq); omega) ?_ | fail)
    refine W_condD (by rfl) (fun h6 => ?_) (fun h6 => ?_)
    · have hlt : z < i := by omega
      have hma := mnL_at (x := T) (show z < BD.length by omega)
      have hms := mnL_set (x := T) (show z < BD.length by omega)
      have hbz := hDB.le hlt
      repeat' (first | refine WK_go ?_ | refine W_seqL ?_ | refine W_seq ?_ | refine W_block ?_ | refine W_scp ?_ | ((first | refine W_regL ?_ | refine W_skip ?_ | refine W_exit ?_); simp (maxSteps := 400000) (disch := omega) only [push_cast, ↓reduceIte, reduceCtorEq, Nat.reduceAdd, Nat.reduceSub, Nat.reduceEqDiff, Nat.reduceLeDiff, Nat.reduceLT, Nat.reduceBEq, Nat.reduceDiv, Nat.reduceMod, Nat.reducePow, Nat.reduceMul, Int.reduceToNat, Int.reduceLT, Int.reduceLE, hml, hma]) | refine And.intro (by omega) ?_ | refine And.intro (by intro hq; (try simp only [Bool.and_eq_true, Bool.or_eq_true, Bool.and_eq_false_iff, Bool.or_eq_false_iff, decide_eq_true_eq, decide_eq_false_iff_not, Bool.not_eq_true', Bool.not_eq_false', beq_iff_eq, beq_eq_false_iff_ne, ne_eq] at hq); omega) ?_ | fail)
      refine ⟨rfl, ⟨Nat.le_of_ble_eq_true rfl, rfl⟩, by omega, min (BD.getD z 0) T, rfl, rfl, ?_⟩
      rw [hms]
      simp (maxSteps := 400000) (disch := omega) only [push_cast, ↓reduceIte, reduceCtorEq, Nat.reduceAdd, Nat.reduceSub, Nat.reduceEqDiff, Nat.reduceLeDiff, Nat.reduceLT, Nat.reduceBEq, Nat.reduceDiv, Nat.reduceMod, Nat.reducePow, Nat.reduceMul, Int.reduceToNat, Int.reduceLT, Int.reduceLE]
      repeat' (first | refine WK_go ?_ | refine W_seqL ?_ | refine W_seq ?_ | refine W_block ?_ | refine W_scp ?_ | ((first | refine W_regL ?_ | refine W_skip ?_ | refine W_exit ?_); simp (maxSteps := 400000) (disch := omega) only [push_cast, ↓reduceIte, reduceCtorEq, Nat.reduceAdd, Nat.reduceSub, Nat.reduceEqDiff, Nat.reduceLeDiff, Nat.reduceLT, Nat.reduceBEq, Nat.reduceDiv, Nat.reduceMod, Nat.reducePow, Nat.reduceMul, Int.reduceToNat, Int.reduceLT, Int.reduceLE]) | refine And.intro (by omega) ?_ | refine And.intro (by intro hq; (try simp only [Bool.and_eq_true, Bool.or_eq_true, Bool.and_eq_false_iff, Bool.or_eq_false_iff, decide_eq_true_eq, decide_eq_false_iff_not, Bool.not_eq_true', Bool.not_eq_false', beq_iff_eq, beq_eq_false_iff_ne, ne_eq] at hq); omega) ?_ | fail)
      refine ⟨z + 1, by omega, by omega, by rfl, ?_⟩
      simp (maxSteps := 400000) (disch := omega) only [push_cast, ↓reduceIte, reduceCtorEq, Nat.reduceAdd, Nat.reduceSub, Nat.reduceEqDiff, Nat.reduceLeDiff, Nat.reduceLT, Nat.reduceBEq, Nat.reduceDiv, Nat.reduceMod, Nat.reducePow, Nat.reduceMul, Int.reduceToNat, Int.reduceLT, Int.reduceLE, S.mk.injEq, List.cons.injEq, Prod.mk.injEq, AV.v.injEq, Value.int.injEq, Value.bool.injEq, Blk.cells.injEq]
    · rw [show z = i by omega]
      repeat' (first | refine WK_go ?_ | refine W_seqL ?_ | refine W_seq ?_ | refine W_block ?_ | refine W_scp ?_ | ((first | refine W_regL ?_ | refine W_skip ?_ | refine W_exit ?_); simp (maxSteps := 400000) (disch := omega) only [push_cast, ↓reduceIte, reduceCtorEq, Nat.reduceAdd, Nat.reduceSub, Nat.reduceEqDiff, Nat.reduceLeDiff, Nat.reduceLT, Nat.reduceBEq, Nat.reduceDiv, Nat.reduceMod, Nat.reducePow, Nat.reduceMul, Int.reduceToNat, Int.reduceLT, Int.reduceLE]) | refine And.intro (by omega) ?_ | refine And.intro (by intro hq; (try simp only [Bool.and_eq_true, Bool.or_eq_true, Bool.and_eq_false_iff, Bool.or_eq_false_iff, decide_eq_true_eq, decide_eq_false_iff_not, Bool.not_eq_true', Bool.not_eq_false', beq_iff_eq, beq_eq_false_iff_ne, ne_eq] at hq); omega) ?_ | fail)
      refine W_ret ⟨[_, _], ⟨⟨by simp, rfl⟩, rfl, rfl⟩, ?_⟩
      simp (maxSteps := 400000) (disch := omega) only [push_cast, ↓reduceIte, reduceCtorEq, Nat.reduceAdd, Nat.reduceSub, Nat.reduceEqDiff, Nat.reduceLeDiff, Nat.reduceLT, Nat.reduceBEq, Nat.reduceDiv, Nat.reduceMod, Nat.reducePow, Nat.reduceMul, Int.reduceToNat, Int.reduceLT, Int.reduceLE, pack]
      try rfl
  have hpas : rnds es (ini i fr.toNat) (k + 1) = pas (rnds es (ini i fr.toNat) k) es := rfl
  generalize rnds es (ini i fr.toNat) k = o0 at *
  repeat' (first | refine WK_go ?_ | refine W_seqL ?_ | refine W_seq ?_ | refine W_block ?_ | refine W_scp ?_ | ((first | refine W_regL ?_ | refine W_skip ?_ | refine W_exit ?_); simp (maxSteps := 400000) (disch := omega) only [push_cast, ↓reduceIte, reduceCtorEq, Nat.reduceAdd, Nat.reduceSub, Nat.reduceEqDiff, Nat.reduceLeDiff, Nat.reduceLT, Nat.reduceBEq, Nat.reduceDiv, Nat.reduceMod, Nat.reducePow, Nat.reduceMul, Int.reduceToNat, Int.reduceLT, Int.reduceLE]) | refine And.intro (by omega) ?_ | refine And.intro (by intro hq; (try simp only [Bool.and_eq_true, Bool.or_eq_true, Bool.and_eq_false_iff, Bool.or_eq_false_iff, decide_eq_true_eq, decide_eq_false_iff_not, Bool.not_eq_true', Bool.not_eq_false', beq_iff_eq, beq_eq_false_iff_ne, ne_eq] at hq); omega) ?_ | fail)
  refine W_loopU (fun j : Nat => [(18, iv j)]) (fun j => [(22, .row 0 2 1 0 cI (pas o0 (es.take j)))]) (fun j => j ≤ L.length) (fun j => L.length - j) 0 (by omega) (by rfl) (by rfl) (fun j hj => ?_)
  have hDj : Dst es fr.toNat i (pas o0 (es.take j)) := pas_dst hdr _ _ (fun e he => List.mem_of_mem_take he) hDk
  have hlj := hDj.len
  simp (maxSteps := 400000) (disch := omega) only [push_cast, ↓reduceIte, reduceCtorEq, Nat.reduceAdd, Nat.reduceSub, Nat.reduceEqDiff, Nat.reduceLeDiff, Nat.reduceLT, Nat.reduceBEq, Nat.reduceDiv, Nat.reduceMod, Nat.reducePow, Nat.reduceMul, Int.reduceToNat, Int.reduceLT, Int.reduceLE]
  repeat' (first | refine WK_go ?_ | refine W_seqL ?_ | refine W_seq ?_ | refine W_block ?_ | refine W_scp ?_ | ((first | refine W_regL ?_ | refine W_skip ?_ | refine W_exit ?_); simp (maxSteps := 400000) (disch := omega) only [push_cast, ↓reduceIte, reduceCtorEq, Nat.reduceAdd, Nat.reduceSub, Nat.reduceEqDiff, Nat.reduceLeDiff, Nat.reduceLT, Nat.reduceBEq, Nat.reduceDiv, Nat.reduceMod, Nat.reducePow, Nat.reduceMul, Int.reduceToNat, Int.reduceLT, Int.reduceLE]) | refine And.intro (by omega) ?_ | refine And.intro (by intro hq; (try simp only [Bool.and_eq_true, Bool.or_eq_true, Bool.and_eq_false_iff, Bool.or_eq_false_iff, decide_eq_true_eq, decide_eq_false_iff_not, Bool.not_eq_true', Bool.not_eq_false', beq_iff_eq, beq_eq_false_iff_ne, ne_eq] at hq); omega) ?_ | fail)
  refine W_condD (by rfl) (fun h6 => ?_) (fun h6 => ?_)
  · have hlt : j < L.length := by omega
    obtain ⟨r, hrl, hru, hr⟩ := hLm (gi L j) (getD_mem 0 L j hlt)
    have hr2 : L.getD j 0 = (r : Int) := hr
    have ok := roadB_ok (hok.r r hrl)
    have ofr := ok.f; have otr := ok.t
    have hgr : m.rs.getD r dR = gr m r := rfl
    have htk : es.take (j + 1) = es.take j ++ [edC m false rc r] := by
      rw [hes, uesL_take m false rc hlt, hr, Int.toNat_natCast]
    have hps : pas o0 (es.take (j + 1)) = stp (pas o0 (es.take j)) (edC m false rc r) := by rw [htk, pas_snoc]
    have hrg := redS_rng (f := f) hok hrl hv0 6
    have hrr : rc r = redS m f PS r 6 := by rw [hrd, if_pos hru]
    have hwt : (L.map fun x => redS m f PS x.toNat 6).getD j 0 = redS m f PS r 6 := by
      rw [List.getD_eq_getElem?_getD, List.getElem?_map]
      have : L[j]? = some (r : Int) := by
        have h1 : L.getD j 0 = L[j] := by simp [List.getD, hlt]
        rw [List.getElem?_eq_getElem hlt, ← h1, hr2]
      rw [this]; simp
    generalize pas o0 (es.take j) = o at *
    generalize redS m f PS r 6 = R at *
    have b1 := hDj.le (y := (gr m r).f.toNat) (by omega)
    have b2 := hDj.le (y := (gr m r).t.toNat) (by omega)
    have hst := set_stp (o := o) (e := edC m false rc r) (by rw [hec, hrr]; omega) b1 b2.2 (by show (gr m r).t.toNat < _; omega)
    rw [hec, hrr] at hst
    have hst2 : o.set (gr m r).t.toNat (min (o.getD (gr m r).t.toNat 0) (o.getD (gr m r).f.toNat 0 + R)) = pas o0 (es.take (j + 1)) := by rw [hps]; exact hst
    have b1' : 0 ≤ o.getD (gr m r).f.toNat 0 ∧ o.getD (gr m r).f.toNat 0 ≤ 1125899906842624 := b1
    have b2' : 0 ≤ o.getD (gr m r).t.toNat 0 ∧ o.getD (gr m r).t.toNat 0 ≤ 1125899906842624 := b2
    repeat' (first | refine WK_go ?_ | refine W_seqL ?_ | refine W_seq ?_ | refine W_block ?_ | refine W_scp ?_ | ((first | refine W_regL ?_ | refine W_skip ?_ | refine W_exit ?_); simp (maxSteps := 400000) (disch := omega) only [push_cast, ↓reduceIte, reduceCtorEq, Nat.reduceAdd, Nat.reduceSub, Nat.reduceEqDiff, Nat.reduceLeDiff, Nat.reduceLT, Nat.reduceBEq, Nat.reduceDiv, Nat.reduceMod, Nat.reducePow, Nat.reduceMul, Int.reduceToNat, Int.reduceLT, Int.reduceLE, hr2, hgr, hwt, List.length_map]) | refine And.intro (by omega) ?_ | refine And.intro (by intro hq; (try simp only [Bool.and_eq_true, Bool.or_eq_true, Bool.and_eq_false_iff, Bool.or_eq_false_iff, decide_eq_true_eq, decide_eq_false_iff_not, Bool.not_eq_true', Bool.not_eq_false', beq_iff_eq, beq_eq_false_iff_ne, ne_eq] at hq); omega) ?_ | fail)
    refine ⟨rfl, ⟨Nat.le_of_ble_eq_true rfl, rfl⟩, by omega, min (o.getD (gr m r).t.toNat 0) (o.getD (gr m r).f.toNat 0 + R), rfl, rfl, ?_⟩
    rw [hst2]
    simp (maxSteps := 400000) (disch := omega) only [push_cast, ↓reduceIte, reduceCtorEq, Nat.reduceAdd, Nat.reduceSub, Nat.reduceEqDiff, Nat.reduceLeDiff, Nat.reduceLT, Nat.reduceBEq, Nat.reduceDiv, Nat.reduceMod, Nat.reducePow, Nat.reduceMul, Int.reduceToNat, Int.reduceLT, Int.reduceLE]
    repeat' (first | refine WK_go ?_ | refine W_seqL ?_ | refine W_seq ?_ | refine W_block ?_ | refine W_scp ?_ | ((first | refine W_regL ?_ | refine W_skip ?_ | refine W_exit ?_); simp (maxSteps := 400000) (disch := omega) only [push_cast, ↓reduceIte, reduceCtorEq, Nat.reduceAdd, Nat.reduceSub, Nat.reduceEqDiff, Nat.reduceLeDiff, Nat.reduceLT, Nat.reduceBEq, Nat.reduceDiv, Nat.reduceMod, Nat.reducePow, Nat.reduceMul, Int.reduceToNat, Int.reduceLT, Int.reduceLE]) | refine And.intro (by omega) ?_ | refine And.intro (by intro hq; (try simp only [Bool.and_eq_true, Bool.or_eq_true, Bool.and_eq_false_iff, Bool.or_eq_false_iff, decide_eq_true_eq, decide_eq_false_iff_not, Bool.not_eq_true', Bool.not_eq_false', beq_iff_eq, beq_eq_false_iff_ne, ne_eq] at hq); omega) ?_ | fail)
    refine ⟨j + 1, by omega, by omega, by rfl, ?_⟩
    simp (maxSteps := 400000) (disch := omega) only [push_cast, ↓reduceIte, reduceCtorEq, Nat.reduceAdd, Nat.reduceSub, Nat.reduceEqDiff, Nat.reduceLeDiff, Nat.reduceLT, Nat.reduceBEq, Nat.reduceDiv, Nat.reduceMod, Nat.reducePow, Nat.reduceMul, Int.reduceToNat, Int.reduceLT, Int.reduceLE, S.mk.injEq, List.cons.injEq, Prod.mk.injEq, AV.v.injEq, Value.int.injEq, Value.bool.injEq, Blk.cells.injEq]
  · have hjl : j = es.length := by omega
    rw [hjl, List.take_length, ← hpas]
    repeat' (first | refine WK_go ?_ | refine W_seqL ?_ | refine W_seq ?_ | refine W_block ?_ | refine W_scp ?_ | ((first | refine W_regL ?_ | refine W_skip ?_ | refine W_exit ?_); simp (maxSteps := 400000) (disch := omega) only [push_cast, ↓reduceIte, reduceCtorEq, Nat.reduceAdd, Nat.reduceSub, Nat.reduceEqDiff, Nat.reduceLeDiff, Nat.reduceLT, Nat.reduceBEq, Nat.reduceDiv, Nat.reduceMod, Nat.reducePow, Nat.reduceMul, Int.reduceToNat, Int.reduceLT, Int.reduceLE]) | refine And.intro (by omega) ?_ | refine And.intro (by intro hq; (try simp only [Bool.and_eq_true, Bool.or_eq_true, Bool.and_eq_false_iff, Bool.or_eq_false_iff, decide_eq_true_eq, decide_eq_false_iff_not, Bool.not_eq_true', Bool.not_eq_false', beq_iff_eq, beq_eq_false_iff_ne, ne_eq] at hq); omega) ?_ | fail)
    refine ⟨k + 1, by omega, by omega, by rfl, ?_⟩
    simp (maxSteps := 400000) (disch := omega) only [push_cast, ↓reduceIte, reduceCtorEq, Nat.reduceAdd, Nat.reduceSub, Nat.reduceEqDiff, Nat.reduceLeDiff, Nat.reduceLT, Nat.reduceBEq, Nat.reduceDiv, Nat.reduceMod, Nat.reducePow, Nat.reduceMul, Int.reduceToNat, Int.reduceLT, Int.reduceLE, S.mk.injEq, List.cons.injEq, Prod.mk.injEq, AV.v.injEq, Value.int.injEq, Value.bool.injEq, Blk.cells.injEq]
end Go.Proofs.Ytfbdlmenhoagmaa

namespace Go.Proofs.Ytfbdlmenhoagmaa
open Go Sy
set_option linter.unusedVariables false
structure EvP (m : Mp) (f : Nat → Int) (n : Nat) (p : Prt) (w r k : Nat) : Prop where
  lw : w < n
  lr : r < m.rs.length
  lk : k < 6
  l : ldsB m f r k = true
  h : hpsB m f w r k = true
  e : p = ⟨w, r, k, evQ m f w⟩
theorem hl1_mem {m : Mp} {f : Nat → Int} {w r k : Nat} {x : Ld} (h : x ∈ hl1 m f w r k) : x = ⟨r, k⟩ ∧ ldsB m f r k = true ∧ hpsB m f w r k = true := by
  unfold hl1 at h
  by_cases q : (ldsB m f r k && hpsB m f w r k) = true
  · rw [if_pos q, List.mem_singleton] at h
    rw [Bool.and_eq_true] at q
    exact ⟨h, q⟩
  · rw [if_neg q] at h; cases h
theorem hlR_mem {m : Mp} {f : Nat → Int} {w r n : Nat} {x : Ld} (h : x ∈ hlR m f w r n) : ∃ k : Nat, k < n ∧ x = ⟨r, k⟩ ∧ ldsB m f r k = true ∧ hpsB m f w r k = true := by
  obtain ⟨k, hk, hx⟩ := List.mem_flatMap.1 h
  exact ⟨k, List.mem_range.1 hk, hl1_mem hx⟩
theorem hlW_mem {m : Mp} {f : Nat → Int} {w n : Nat} {x : Ld} (h : x ∈ hlW m f w n) : ∃ r k : Nat, r < n ∧ k < 6 ∧ x = ⟨r, k⟩ ∧ ldsB m f r k = true ∧ hpsB m f w r k = true := by
  obtain ⟨r, hr, hx⟩ := List.mem_flatMap.1 h
  obtain ⟨k, hk, hx⟩ := hlR_mem hx
  exact ⟨r, k, List.mem_range.1 hr, hk, hx⟩
theorem evA_mem {m : Mp} {f : Nat → Int} {n : Nat} {p : Prt} (h : p ∈ evA m f n) : ∃ w r k, EvP m f n p w r k := by
  obtain ⟨w, hw, hp⟩ := List.mem_flatMap.1 h
  obtain ⟨x, hx, rfl⟩ := List.mem_map.1 hp
  obtain ⟨r, k, h1, h2, rfl, h3, h4⟩ := hlW_mem hx
  exact ⟨w, r, k, List.mem_range.1 hw, h1, h2, h3, h4, rfl⟩
theorem rng_pair {n : Nat} {R : Nat → Nat → Prop} (h : ∀ a b, a < b → R a b) : (List.range n).Pairwise R := by
  rw [List.pairwise_iff_getElem]
  intro i j hi hj hij
  rw [List.getElem_range, List.getElem_range]
  exact h i j hij
theorem hlW_pair (m : Mp) (f : Nat → Int) (w n : Nat) : (hlW m f w n).Pairwise fun x y => ¬ (x.r = y.r ∧ x.k = y.k) := by
  unfold hlW
  rw [List.pairwise_flatMap]
  refine ⟨fun r _ => ?_, rng_pair fun a b hab x hx y hy => ?_⟩
  · unfold hlR
    rw [List.pairwise_flatMap]
    refine ⟨fun k _ => ?_, rng_pair fun a b hab x hx y hy => ?_⟩
    · unfold hl1; split
      · exact List.pairwise_singleton _ _
      · exact List.Pairwise.nil
    · obtain ⟨rfl, _⟩ := hl1_mem hx
      obtain ⟨rfl, _⟩ := hl1_mem hy
      rintro ⟨_, h⟩
      have h : (a : Int) = b := h
      omega
  · obtain ⟨_, _, rfl, _⟩ := hlR_mem hx
    obtain ⟨_, _, rfl, _⟩ := hlR_mem hy
    rintro ⟨h, _⟩
    have h : (a : Int) = b := h
    omega
theorem evA_pair (m : Mp) (f : Nat → Int) (n : Nat) : (evA m f n).Pairwise fun x y => prB y.w y.r y.k x = false := by
  unfold evA
  rw [List.pairwise_flatMap]
  refine ⟨fun w _ => ?_, rng_pair fun a b hab x hx y hy => ?_⟩
  · unfold evW
    rw [List.pairwise_map]
    refine (hlW_pair m f w _).imp fun {x y} h => ?_
    rw [← Bool.not_eq_true]
    intro q
    unfold prB at q
    rw [Bool.and_eq_true, Bool.and_eq_true, beq_iff_eq, beq_iff_eq, beq_iff_eq] at q
    exact h ⟨q.1.2, q.2⟩
  · obtain ⟨x, _, rfl⟩ := List.mem_map.1 hx
    obtain ⟨y, _, rfl⟩ := List.mem_map.1 hy
    rw [← Bool.not_eq_true]
    intro q
    unfold prB at q
    rw [Bool.and_eq_true, Bool.and_eq_true, beq_iff_eq] at q
    have h : (a : Int) = b := q.1.1
    omega
theorem evA_dup (m : Mp) (f : Nat → Int) (n : Nat) : ∀ i, i < (evA m f n).length → dupB (evA m f n) i = false := fun i hi => by
  unfold dupB
  rw [← Bool.not_eq_true, List.any_eq_true]
  rintro ⟨j, hj, hp⟩
  have hj := List.mem_range.1 hj
  have h := List.pairwise_iff_getElem.1 (evA_pair m f n) j i (by omega) hi hj
  have e1 : (evA m f n).getD i dP = (evA m f n)[i] := by simp [List.getD, hi]
  have e2 : (evA m f n).getD j dP = (evA m f n)[j]'(by omega) := by simp [List.getD, show j < (evA m f n).length by omega]
  rw [e1, e2, h] at hp
  cases hp
theorem evQ_rng {m : Mp} (h : OkM m) (f : Nat → Int) {w : Nat} (hw : w < m.ws.length) : 0 ≤ evQ m f w ∧ evQ m f w ≤ (gw m w).c := by
  have := (workB_ok (h.w w hw)).c
  unfold evQ
  exact ⟨Int.ediv_nonneg (by omega) (by omega), Int.ediv_le_self _ (by omega)⟩
theorem evA_le {m : Mp} (h : OkM m) (f : Nat → Int) : ∀ p ∈ evA m f m.ws.length, 0 ≤ p.v ∧ p.v ≤ 1073741824 := fun p hp => by
  obtain ⟨w, r, k, e⟩ := evA_mem hp
  have h1 := evQ_rng h f e.lw
  have := (workB_ok (h.w w e.lw)).c
  rw [e.e]
  exact ⟨h1.1, by show evQ m f w ≤ _; omega⟩
theorem rdS_small {m : Mp} {f : Nat → Int} {V : Nat → Nat → Nat → Int} {road : Nat} (hok : OkM m) (hr : road < m.rs.length) (h : ∀ w r k, 0 ≤ V w r k ∧ V w r k ≤ 1073741824) : ∀ n : Nat, 1 ≤ rdS m f V road n ∧ rdS m f V road n ≤ 1073741824 + n * 1073741824
  | 0 => by
    have := (roadB_ok (hok.r road hr)).c
    show 1 ≤ (gr m road).c ∧ (gr m road).c ≤ _
    omega
  | n + 1 => by
    have h1 := rdS_small (f := f) hok hr h n
    have h2 : 0 ≤ (lwC m f V road n).2.1 ∧ (lwC m f V road n).2.1 ≤ 1073741824 := lwF_rng (by omega) (fun i => h i road n) _
    rw [rdS_succ]
    unfold rdK2
    split <;> omega
theorem partV_nn {w r k : Int} : ∀ {ps : List Prt}, (∀ p ∈ ps, 0 ≤ p.v) → 0 ≤ partV w r k ps
  | [], _ => Int.le_refl _
  | p :: ps, h => by
    simp only [partV]
    split
    · exact h p List.mem_cons_self
    · exact partV_nn fun q hq => h q (List.mem_cons_of_mem _ hq)
theorem redS_small {m : Mp} (hok : OkM m) {f : Nat → Int} {ps : List Prt} (hp : ∀ p ∈ ps, 0 ≤ p.v ∧ p.v ≤ 1073741824) {road : Nat} (hr : road < m.rs.length) : 1 ≤ redS m f ps road 6 ∧ redS m f ps road 6 ≤ 7516192768 := by
  have := rdS_small (f := f) (V := fun w r k => partV w r k ps) hok hr (fun w r k => ⟨partV_nn fun p h => (hp p h).1, partV_le (by omega) fun p h => (hp p h).2⟩) 6
  rw [rdS_eq (fun p h => (hp p h).2) 6 (Nat.le_refl _)] at this
  omega
theorem rdC_rng {m : Mp} (hok : OkM m) (f : Nat → Int) {i : Nat} (hi : i < m.rs.length) : (0 ≤ rdC m f i → 1 ≤ rdC m f i) ∧ -1099511627776 ≤ rdC m f i ∧ rdC m f i ≤ 1099511627776 := by
  have := redS_small (f := f) hok (evA_le hok f) hi
  unfold rdC
  split <;> omega
theorem fn130e (m : Mp) (f : Nat → Int) (hok : OkM m) (i : Nat) (hi : i < m.rs.length) : Sy.Fn Try.prog 130 ([] ++ [iv (i : Nat)] ++ [.fp (cAt m f) 0, .fp [.fm 3 (gP (evA m f m.ws.length))] 0]) (iv (rdC m f i)) := by
  have h1 := fn130 m f (gP (evA m f m.ws.length)) (fun w r k => partV w r k (evA m f m.ws.length)) (gP_hol (evA_dup m f _)) (fun w r k => ⟨partV_nn fun p h => (evA_le hok f p h).1, Int.le_trans (partV_le (M := 1073741824) (by omega) fun p h => (evA_le hok f p h).2) (by omega)⟩) i hok hi
  rw [rdS_eq (fun p h => (evA_le hok f p h).2) 6 (Nat.le_refl _)] at h1
  exact h1
end Go.Proofs.Ytfbdlmenhoagmaa

namespace Go.Proofs.Ytfbdlmenhoagmaa
open Go Sy
set_option maxRecDepth 100000
set_option maxHeartbeats 8000000
set_option linter.unusedVariables false
set_option linter.unusedSimpArgs false
theorem fn39 (m : Mp) (f : Nat → Int) (fr to : Int) (hm : Gm m) : Sy.Fn Try.prog 39 [aM m, .agg (c6 f), iv fr, iv to] (.tup [.agg (bnV m f fr to), iv (chE m f fr to)]) := by
  refine Fn_of_W mixed Xt39 rfl ?_
  have c15 := fn15 m f fr to hm
  have hz : chE m f fr to = 0 → ∃ p, chV m f fr to = some p ∧ opE m f = 0 ∧ plB m.n fr = true ∧ plB m.n to = true := fun q => by
    unfold chE at q
    by_cases h0 : opE m f = 0
    · rw [if_pos h0] at q
      by_cases hp : plB m.n fr = true ∧ plB m.n to = true
      · rw [if_pos hp] at q
        have e1 : chV m f fr to = bestS m f fr to := by unfold chV; rw [if_pos h0, if_pos hp]
        rcases hb : bestS m f fr to with _ | p
        · rw [hb] at q; cases q
        · exact ⟨p, by rw [e1, hb], h0, hp.1, hp.2⟩
      · rw [if_neg hp] at q; cases q
    · rw [if_neg h0] at q; exact absurd q h0
  by_cases hE : chE m f fr to = 0
  rotate_left
  · have e1 : bnV m f fr to = [.v (.slice none 0 0), .v (.slice none 0 0)] := by unfold bnV; rw [if_neg hE]
    rw [e1]
    rcases hv : chV m f fr to with _ | ⟨s, n⟩
    · rw [hv] at c15
      have c15 : Sy.Fn Try.prog 15 [aM m, .agg (c6 f), iv fr, iv to] (.tup [.agg zRt, iv (chE m f fr to)]) := c15
      unfold zRt at c15
      generalize chE m f fr to = e at *
      repeat' (first | refine WK_go ?_ | refine W_seqL ?_ | refine W_seq ?_ | refine W_block ?_ | refine W_scp ?_ | ((first | refine W_regL ?_ | refine W_skip ?_ | refine W_exit ?_ | refine CallC.now (c15) ?_); simp (maxSteps := 400000) (disch := omega) only [push_cast, ↓reduceIte, reduceCtorEq, Nat.reduceAdd, Nat.reduceSub, Nat.reduceEqDiff, Nat.reduceLeDiff, Nat.reduceLT, Nat.reduceBEq, Nat.reduceDiv, Nat.reduceMod, Nat.reducePow, Nat.reduceMul, Int.reduceToNat, Int.reduceLT, Int.reduceLE]) | refine And.intro (by omega) ?_ | refine And.intro (by intro hq; (try simp only [Bool.and_eq_true, Bool.or_eq_true, Bool.and_eq_false_iff, Bool.or_eq_false_iff, decide_eq_true_eq, decide_eq_false_iff_not, Bool.not_eq_true', Bool.not_eq_false', beq_iff_eq, beq_eq_false_iff_ne, ne_eq] at hq); omega) ?_ | fail)
      refine W_cond (by rfl) (fun h => ?_) (fun h => ?_)
      · repeat' (first | refine WK_go ?_ | refine W_seqL ?_ | refine W_seq ?_ | refine W_block ?_ | refine W_scp ?_ | ((first | refine W_regL ?_ | refine W_skip ?_ | refine W_exit ?_); simp (maxSteps := 400000) (disch := omega) only [push_cast, ↓reduceIte, reduceCtorEq, Nat.reduceAdd, Nat.reduceSub, Nat.reduceEqDiff, Nat.reduceLeDiff, Nat.reduceLT, Nat.reduceBEq, Nat.reduceDiv, Nat.reduceMod, Nat.reducePow, Nat.reduceMul, Int.reduceToNat, Int.reduceLT, Int.reduceLE]) | refine And.intro (by omega) ?_ | refine And.intro (by intro hq; (try simp only [Bool.and_eq_true, Bool.or_eq_true, Bool.and_eq_false_iff, Bool.or_eq_false_iff, decide_eq_true_eq, decide_eq_false_iff_not, Bool.not_eq_true', Bool.not_eq_false', beq_iff_eq, beq_eq_false_iff_ne, ne_eq] at hq); omega) ?_ | fail)
        exact W_ret ⟨[_, _], ⟨⟨by simp, rfl⟩, rfl, rfl⟩, rfl⟩
      · exact absurd (by simpa using h) hE
    · exfalso
      unfold chV at hv
      unfold chE at hE
      by_cases h0 : opE m f = 0
      · rw [if_pos h0] at hv hE
        by_cases hp : plB m.n fr = true ∧ plB m.n to = true
        · rw [if_pos hp] at hv hE
          rw [hv] at hE
          exact hE rfl
        · rw [if_neg hp] at hv; cases hv
      · rw [if_neg h0] at hv; cases hv
  obtain ⟨⟨s, n⟩, hv, h0, hp1, hp2⟩ := hz hE
  have e1 : bnV m f fr to = cBd (evA m f m.ws.length) (bnH m f fr to) := by unfold bnV; rw [if_pos hE]
  rw [e1, hE]
  rw [hv, hE] at c15
  have c15 : Sy.Fn Try.prog 15 [aM m, .agg (c6 f), iv fr, iv to] (.tup [.agg (cRt (wayS m f fr to s) s n (minL m (wayS m f fr to s))), iv 0]) := c15
  unfold cRt at c15
  have hchk : chkM m = 0 ∧ szE f = 0 := by
    unfold opE at h0
    by_cases q : chkM m = 0
    · rw [if_pos q] at h0; exact ⟨q, h0⟩
    · rw [if_neg q] at h0; exact absurd h0 q
  have hok := chkM_ok hchk.1
  have hmn := hok.n
  have hnw := hok.nw
  have hnr := hok.nr
  have hpr : (0 ≤ fr ∧ fr < m.n) ∧ (0 ≤ to ∧ to < m.n) := by
    unfold plB at hp1 hp2
    simp only [Bool.and_eq_true, decide_eq_true_eq] at hp1 hp2
    omega
  have hv0 := evA_v (f := f) hok
  have hPl := Nat.le_trans (evA_len m f m.ws.length) (Nat.mul_le_mul (Nat.mul_le_mul (Nat.le_refl 6) hnr) hnw)
  unfold cBd
  generalize wayS m f fr to s = WS at *
  repeat' (first | refine WK_go ?_ | refine W_seqL ?_ | refine W_seq ?_ | refine W_block ?_ | refine W_scp ?_ | ((first | refine W_regL ?_ | refine W_skip ?_ | refine W_exit ?_ | refine CallC.now (c15) ?_); simp (maxSteps := 400000) (disch := omega) only [push_cast, ↓reduceIte, reduceCtorEq, Nat.reduceAdd, Nat.reduceSub, Nat.reduceEqDiff, Nat.reduceLeDiff, Nat.reduceLT, Nat.reduceBEq, Nat.reduceDiv, Nat.reduceMod, Nat.reducePow, Nat.reduceMul, Int.reduceToNat, Int.reduceLT, Int.reduceLE]) | refine And.intro (by omega) ?_ | refine And.intro (by intro hq; (try simp only [Bool.and_eq_true, Bool.or_eq_true, Bool.and_eq_false_iff, Bool.or_eq_false_iff, decide_eq_true_eq, decide_eq_false_iff_not, Bool.not_eq_true', Bool.not_eq_false', beq_iff_eq, beq_eq_false_iff_ne, ne_eq] at hq); omega) ?_ | fail)
  refine W_cond (by rfl) (fun h => by cases h) (fun _ => ?_)
  refine W_skip ?_
  try simp (maxSteps := 400000) (disch := omega) only [push_cast, ↓reduceIte, reduceCtorEq, Nat.reduceAdd, Nat.reduceSub, Nat.reduceEqDiff, Nat.reduceLeDiff, Nat.reduceLT, Nat.reduceBEq, Nat.reduceDiv, Nat.reduceMod, Nat.reducePow, Nat.reduceMul, Int.reduceToNat, Int.reduceLT, Int.reduceLE]
  repeat (first | refine WK_go ?_ | refine W_seqL ?_ | refine W_seq ?_ | refine W_block ?_)
  refine W_regL ?_
  simp (maxSteps := 400000) (disch := omega) only [push_cast, ↓reduceIte, reduceCtorEq, Nat.reduceAdd, Nat.reduceSub, Nat.reduceEqDiff, Nat.reduceLeDiff, Nat.reduceLT, Nat.reduceBEq, Nat.reduceDiv, Nat.reduceMod, Nat.reducePow, Nat.reduceMul, Int.reduceToNat, Int.reduceLT, Int.reduceLE]
  refine ⟨rfl, ?_⟩
  have hbl : List.take 3 (cM m ++ [.v (.int .i64 0), .v (.int .i64 0), .v (.int .i64 0), .v (.int .i64 0), .v (.int .i64 0), .v (.int .i64 0)]) ++ c6 f ++ List.drop 9 (cM m ++ [.v (.int .i64 0), .v (.int .i64 0), .v (.int .i64 0), .v (.int .i64 0), .v (.int .i64 0), .v (.int .i64 0)]) = cAt m f := rfl
  rw [hbl]
  repeat (first | refine WK_go ?_ | refine W_seqL ?_ | refine W_seq ?_ | refine W_block ?_)
  refine W_regL ?_
  simp (maxSteps := 400000) (disch := omega) only [push_cast, ↓reduceIte, reduceCtorEq, Nat.reduceAdd, Nat.reduceSub, Nat.reduceEqDiff, Nat.reduceLeDiff, Nat.reduceLT, Nat.reduceBEq, Nat.reduceDiv, Nat.reduceMod, Nat.reducePow, Nat.reduceMul, Int.reduceToNat, Int.reduceLT, Int.reduceLE]
  repeat (first | refine WK_go ?_ | refine W_seqL ?_ | refine W_seq ?_ | refine W_block ?_)
  refine W_regX [0] ?_
  simp (maxSteps := 400000) (disch := omega) only [push_cast, ↓reduceIte, reduceCtorEq, Nat.reduceAdd, Nat.reduceSub, Nat.reduceEqDiff, Nat.reduceLeDiff, Nat.reduceLT, Nat.reduceBEq, Nat.reduceDiv, Nat.reduceMod, Nat.reducePow, Nat.reduceMul, Int.reduceToNat, Int.reduceLT, Int.reduceLE, chainX, SpM, List.take_succ_cons, List.take_zero, List.drop_succ_cons, List.drop_zero]
  refine ⟨[], rfl, rfl, fun b => ?_⟩
  try simp (maxSteps := 400000) (disch := omega) only [push_cast, ↓reduceIte, reduceCtorEq, Nat.reduceAdd, Nat.reduceSub, Nat.reduceEqDiff, Nat.reduceLeDiff, Nat.reduceLT, Nat.reduceBEq, Nat.reduceDiv, Nat.reduceMod, Nat.reducePow, Nat.reduceMul, Int.reduceToNat, Int.reduceLT, Int.reduceLE]
  repeat' (first | refine WK_go ?_ | refine W_seqL ?_ | refine W_seq ?_ | refine W_block ?_ | refine W_scp ?_ | ((first | refine W_regL ?_ | refine W_skip ?_ | refine W_exit ?_); simp (maxSteps := 400000) (disch := omega) only [push_cast, ↓reduceIte, reduceCtorEq, Nat.reduceAdd, Nat.reduceSub, Nat.reduceEqDiff, Nat.reduceLeDiff, Nat.reduceLT, Nat.reduceBEq, Nat.reduceDiv, Nat.reduceMod, Nat.reducePow, Nat.reduceMul, Int.reduceToNat, Int.reduceLT, Int.reduceLE]) | refine And.intro (by omega) ?_ | refine And.intro (by intro hq; (try simp only [Bool.and_eq_true, Bool.or_eq_true, Bool.and_eq_false_iff, Bool.or_eq_false_iff, decide_eq_true_eq, decide_eq_false_iff_not, Bool.not_eq_true', Bool.not_eq_false', beq_iff_eq, beq_eq_false_iff_ne, ne_eq] at hq); omega) ?_ | fail)
  refine W_le (le_adoptC 23 0 77 4 dP cP (by omega) _ rfl rfl (by simp)) ?_
  simp (maxSteps := 400000) (disch := omega) only [push_cast, ↓reduceIte, reduceCtorEq, Nat.reduceAdd, Nat.reduceSub, Nat.reduceEqDiff, Nat.reduceLeDiff, Nat.reduceLT, Nat.reduceBEq, Nat.reduceDiv, Nat.reduceMod, Nat.reducePow, Nat.reduceMul, Int.reduceToNat, Int.reduceLT, Int.reduceLE]
  refine W_loopU (fun w : Nat => [(45, iv w)]) (fun w => [(23, .cells [.row 31 (evA m f w).length, .v (.slice none 0 0)]), (31, .row (evA m f w).length 77 4 dP cP (evA m f w)), (25, .oth (.mp b 3 (gP (evA m f w))))]) (fun w => w ≤ m.ws.length) (fun w => m.ws.length - w) 0 (by omega) (by rfl) (by rfl) (fun w hwl => ?_)
  have hel := evA_len m f w
  have hes := evA_succ m f w
  have hel2 : (evA m f w).length ≤ 1536 * 10 := Nat.le_trans hel (Nat.mul_le_mul (by omega) (by omega))
  simp (maxSteps := 400000) (disch := omega) only [push_cast, ↓reduceIte, reduceCtorEq, Nat.reduceAdd, Nat.reduceSub, Nat.reduceEqDiff, Nat.reduceLeDiff, Nat.reduceLT, Nat.reduceBEq, Nat.reduceDiv, Nat.reduceMod, Nat.reducePow, Nat.reduceMul, Int.reduceToNat, Int.reduceLT, Int.reduceLE]
  repeat' (first | refine WK_go ?_ | refine W_seqL ?_ | refine W_seq ?_ | refine W_block ?_ | refine W_scp ?_ | ((first | refine W_regL ?_ | refine W_skip ?_ | refine W_exit ?_); simp (maxSteps := 400000) (disch := omega) only [push_cast, ↓reduceIte, reduceCtorEq, Nat.reduceAdd, Nat.reduceSub, Nat.reduceEqDiff, Nat.reduceLeDiff, Nat.reduceLT, Nat.reduceBEq, Nat.reduceDiv, Nat.reduceMod, Nat.reducePow, Nat.reduceMul, Int.reduceToNat, Int.reduceLT, Int.reduceLE]) | refine And.intro (by omega) ?_ | refine And.intro (by intro hq; (try simp only [Bool.and_eq_true, Bool.or_eq_true, Bool.and_eq_false_iff, Bool.or_eq_false_iff, decide_eq_true_eq, decide_eq_false_iff_not, Bool.not_eq_true', Bool.not_eq_false', beq_iff_eq, beq_eq_false_iff_ne, ne_eq] at hq); omega) ?_ | fail)
  refine W_condD (by rfl) (fun h5 => ?_) (fun h5 => ?_)
  · have hw : w < m.ws.length := by omega
    generalize evA m f w = A at *
    repeat' (first | refine WK_go ?_ | refine W_seqL ?_ | refine W_seq ?_ | refine W_block ?_ | refine W_scp ?_ | ((first | refine W_regL ?_ | refine W_skip ?_ | refine W_exit ?_); simp (maxSteps := 400000) (disch := omega) only [push_cast, ↓reduceIte, reduceCtorEq, Nat.reduceAdd, Nat.reduceSub, Nat.reduceEqDiff, Nat.reduceLeDiff, Nat.reduceLT, Nat.reduceBEq, Nat.reduceDiv, Nat.reduceMod, Nat.reducePow, Nat.reduceMul, Int.reduceToNat, Int.reduceLT, Int.reduceLE]) | refine And.intro (by omega) ?_ | refine And.intro (by intro hq; (try simp only [Bool.and_eq_true, Bool.or_eq_true, Bool.and_eq_false_iff, Bool.or_eq_false_iff, decide_eq_true_eq, decide_eq_false_iff_not, Bool.not_eq_true', Bool.not_eq_false', beq_iff_eq, beq_eq_false_iff_ne, ne_eq] at hq); omega) ?_ | fail)
    refine W_le (le_adoptC 36 0 138 2 dLd cLd (by omega) _ rfl rfl (by simp)) ?_
    simp (maxSteps := 400000) (disch := omega) only [push_cast, ↓reduceIte, reduceCtorEq, Nat.reduceAdd, Nat.reduceSub, Nat.reduceEqDiff, Nat.reduceLeDiff, Nat.reduceLT, Nat.reduceBEq, Nat.reduceDiv, Nat.reduceMod, Nat.reducePow, Nat.reduceMul, Int.reduceToNat, Int.reduceLT, Int.reduceLE]
    refine W_loopU (fun r : Nat => [(51, iv r)]) (fun r => [(36, .cells [.row 41 (hlW m f w r).length]), (41, .row (hlW m f w r).length 138 2 dLd cLd (hlW m f w r))]) (fun r => r ≤ m.rs.length) (fun r => m.rs.length - r) 0 (by omega) (by rfl) (by rfl) (fun r hrl => ?_)
    have hll := hlW_len m f w r
    have hls := hlW_succ m f w r
    simp (maxSteps := 400000) (disch := omega) only [push_cast, ↓reduceIte, reduceCtorEq, Nat.reduceAdd, Nat.reduceSub, Nat.reduceEqDiff, Nat.reduceLeDiff, Nat.reduceLT, Nat.reduceBEq, Nat.reduceDiv, Nat.reduceMod, Nat.reducePow, Nat.reduceMul, Int.reduceToNat, Int.reduceLT, Int.reduceLE]
    repeat' (first | refine WK_go ?_ | refine W_seqL ?_ | refine W_seq ?_ | refine W_block ?_ | refine W_scp ?_ | ((first | refine W_regL ?_ | refine W_skip ?_ | refine W_exit ?_); simp (maxSteps := 400000) (disch := omega) only [push_cast, ↓reduceIte, reduceCtorEq, Nat.reduceAdd, Nat.reduceSub, Nat.reduceEqDiff, Nat.reduceLeDiff, Nat.reduceLT, Nat.reduceBEq, Nat.reduceDiv, Nat.reduceMod, Nat.reducePow, Nat.reduceMul, Int.reduceToNat, Int.reduceLT, Int.reduceLE]) | refine And.intro (by omega) ?_ | refine And.intro (by intro hq; (try simp only [Bool.and_eq_true, Bool.or_eq_true, Bool.and_eq_false_iff, Bool.or_eq_false_iff, decide_eq_true_eq, decide_eq_false_iff_not, Bool.not_eq_true', Bool.not_eq_false', beq_iff_eq, beq_eq_false_iff_ne, ne_eq] at hq); omega) ?_ | fail)
    refine W_condD (by rfl) (fun h6 => ?_) (fun h6 => ?_)
    · have hr : r < m.rs.length := by omega
      generalize hlW m f w r = Y at *
      have c77 := fn77 m f hnw
      have c64 := fn64 m f (evL m.ws.length) (msk (evL m.ws.length)) r hok (setW_msk (ev_srt _)) hr
      have hld : ∀ k, ldsB m f r k = (usB m f (evL m.ws.length) r && decide ((gr m r).lim k < f k)) := fun _ => rfl
      generalize usB m f (evL m.ws.length) r = U at *
      generalize msk (evL m.ws.length) = E at *
      repeat' (first | refine WK_go ?_ | refine W_seqL ?_ | refine W_seq ?_ | refine W_block ?_ | refine W_scp ?_ | ((first | refine W_regL ?_ | refine W_skip ?_ | refine W_exit ?_ | refine CallC.now (fn97 m f r) ?_); simp (maxSteps := 400000) (disch := omega) only [push_cast, ↓reduceIte, reduceCtorEq, Nat.reduceAdd, Nat.reduceSub, Nat.reduceEqDiff, Nat.reduceLeDiff, Nat.reduceLT, Nat.reduceBEq, Nat.reduceDiv, Nat.reduceMod, Nat.reducePow, Nat.reduceMul, Int.reduceToNat, Int.reduceLT, Int.reduceLE]) | refine And.intro (by omega) ?_ | refine And.intro (by intro hq; (try simp only [Bool.and_eq_true, Bool.or_eq_true, Bool.and_eq_false_iff, Bool.or_eq_false_iff, decide_eq_true_eq, decide_eq_false_iff_not, Bool.not_eq_true', Bool.not_eq_false', beq_iff_eq, beq_eq_false_iff_ne, ne_eq] at hq); omega) ?_ | fail)
      refine W_rfnT (.inl rfl) (fun lp R T hT hR => Inl_of_W mixed Xt128 rfl (fun vs => ?_))
      simp (maxSteps := 400000) (disch := omega) only [push_cast, ↓reduceIte, reduceCtorEq, Nat.reduceAdd, Nat.reduceSub, Nat.reduceEqDiff, Nat.reduceLeDiff, Nat.reduceLT, Nat.reduceBEq, Nat.reduceDiv, Nat.reduceMod, Nat.reducePow, Nat.reduceMul, Int.reduceToNat, Int.reduceLT, Int.reduceLE]
      
      repeat' (first | refine WK_go ?_ | refine W_seqL ?_ | refine W_seq ?_ | refine W_block ?_ | refine W_scp ?_ | ((first | refine W_regL ?_ | refine W_skip ?_ | refine W_exit ?_ | refine CallC.now (c77) ?_ | refine CallC.now (c64) ?_); simp (maxSteps := 400000) (disch := omega) only [push_cast, ↓reduceIte, reduceCtorEq, Nat.reduceAdd, Nat.reduceSub, Nat.reduceEqDiff, Nat.reduceLeDiff, Nat.reduceLT, Nat.reduceBEq, Nat.reduceDiv, Nat.reduceMod, Nat.reducePow, Nat.reduceMul, Int.reduceToNat, Int.reduceLT, Int.reduceLE]) | refine And.intro (by omega) ?_ | refine And.intro (by intro hq; (try simp only [Bool.and_eq_true, Bool.or_eq_true, Bool.and_eq_false_iff, Bool.or_eq_false_iff, decide_eq_true_eq, decide_eq_false_iff_not, Bool.not_eq_true', Bool.not_eq_false', beq_iff_eq, beq_eq_false_iff_ne, ne_eq] at hq); omega) ?_ | fail)
      cases U
      · refine W_cond (by rfl) (fun _ => ?_) (fun h => by cases h)
        have e : hlR m f w r 6 = [] := by
          unfold hlR
          rw [List.flatMap_eq_nil_iff]
          intro k _
          unfold hl1
          rw [if_neg (by rw [hld]; simp)]
        rw [e, List.append_nil] at hls
        refine W_ret ?_
        refine ⟨_, _, rfl, rfl, ⟨_, _, rfl, by rw [hR.st]; simp, ?_⟩⟩
        rw [hR.pe, hT]
        simp (maxSteps := 400000) (disch := omega) only [push_cast, ↓reduceIte, reduceCtorEq, Nat.reduceAdd, Nat.reduceSub, Nat.reduceEqDiff, Nat.reduceLeDiff, Nat.reduceLT, Nat.reduceBEq, Nat.reduceDiv, Nat.reduceMod, Nat.reducePow, Nat.reduceMul, Int.reduceToNat, Int.reduceLT, Int.reduceLE, EndP]
        repeat' (first | refine WK_go ?_ | refine W_seqL ?_ | refine W_seq ?_ | refine W_block ?_ | refine W_scp ?_ | ((first | refine W_regL ?_ | refine W_skip ?_ | refine W_exit ?_); simp (maxSteps := 400000) (disch := omega) only [push_cast, ↓reduceIte, reduceCtorEq, Nat.reduceAdd, Nat.reduceSub, Nat.reduceEqDiff, Nat.reduceLeDiff, Nat.reduceLT, Nat.reduceBEq, Nat.reduceDiv, Nat.reduceMod, Nat.reducePow, Nat.reduceMul, Int.reduceToNat, Int.reduceLT, Int.reduceLE]) | refine And.intro (by omega) ?_ | refine And.intro (by intro hq; (try simp only [Bool.and_eq_true, Bool.or_eq_true, Bool.and_eq_false_iff, Bool.or_eq_false_iff, decide_eq_true_eq, decide_eq_false_iff_not, Bool.not_eq_true', Bool.not_eq_false', beq_iff_eq, beq_eq_false_iff_ne, ne_eq] at hq); omega) ?_ | fail)
        refine ⟨r + 1, by omega, by omega, by rfl, ?_⟩
        rw [hls]
        simp (maxSteps := 400000) (disch := omega) only [push_cast, ↓reduceIte, reduceCtorEq, Nat.reduceAdd, Nat.reduceSub, Nat.reduceEqDiff, Nat.reduceLeDiff, Nat.reduceLT, Nat.reduceBEq, Nat.reduceDiv, Nat.reduceMod, Nat.reducePow, Nat.reduceMul, Int.reduceToNat, Int.reduceLT, Int.reduceLE, S.mk.injEq, List.cons.injEq, Prod.mk.injEq, AV.v.injEq, Value.int.injEq, Value.bool.injEq, Blk.cells.injEq]
      · refine W_cond (by rfl) (fun h => by cases h) (fun _ => ?_)
        have hld2 : ∀ k, hl1 m f w r k = if (gr m r).lim k < f k ∧ hpsB m f w r k = true then [⟨r, k⟩] else [] := fun k => by
          unfold hl1
          rw [hld, Bool.true_and]
          congr 1
          rw [Bool.and_eq_true, decide_eq_true_eq]
        repeat' (first | refine WK_go ?_ | refine W_seqL ?_ | refine W_seq ?_ | refine W_block ?_ | refine W_scp ?_ | ((first | refine W_regL ?_ | refine W_skip ?_ | refine W_exit ?_ | refine CallC.now (fn75 m f 0 r) ?_); simp (maxSteps := 400000) (disch := omega) only [push_cast, ↓reduceIte, reduceCtorEq, Nat.reduceAdd, Nat.reduceSub, Nat.reduceEqDiff, Nat.reduceLeDiff, Nat.reduceLT, Nat.reduceBEq, Nat.reduceDiv, Nat.reduceMod, Nat.reducePow, Nat.reduceMul, Int.reduceToNat, Int.reduceLT, Int.reduceLE]) | refine And.intro (by omega) ?_ | refine And.intro (by intro hq; (try simp only [Bool.and_eq_true, Bool.or_eq_true, Bool.and_eq_false_iff, Bool.or_eq_false_iff, decide_eq_true_eq, decide_eq_false_iff_not, Bool.not_eq_true', Bool.not_eq_false', beq_iff_eq, beq_eq_false_iff_ne, ne_eq] at hq); omega) ?_ | fail)
        refine W_rfnT (.inl rfl) (fun lp2 R2 T2 hT2 hR2 => Inl_of_W mixed Xt121 rfl (fun vs2 => ?_))
        simp (maxSteps := 400000) (disch := omega) only [push_cast, ↓reduceIte, reduceCtorEq, Nat.reduceAdd, Nat.reduceSub, Nat.reduceEqDiff, Nat.reduceLeDiff, Nat.reduceLT, Nat.reduceBEq, Nat.reduceDiv, Nat.reduceMod, Nat.reducePow, Nat.reduceMul, Int.reduceToNat, Int.reduceLT, Int.reduceLE]
        repeat' (first | refine WK_go ?_ | refine W_seqL ?_ | refine W_seq ?_ | refine W_block ?_ | refine W_scp ?_ | ((first | refine W_regL ?_ | refine W_skip ?_ | refine W_exit ?_); simp (maxSteps := 400000) (disch := omega) only [push_cast, ↓reduceIte, reduceCtorEq, Nat.reduceAdd, Nat.reduceSub, Nat.reduceEqDiff, Nat.reduceLeDiff, Nat.reduceLT, Nat.reduceBEq, Nat.reduceDiv, Nat.reduceMod, Nat.reducePow, Nat.reduceMul, Int.reduceToNat, Int.reduceLT, Int.reduceLE]) | refine And.intro (by omega) ?_ | refine And.intro (by intro hq; (try simp only [Bool.and_eq_true, Bool.or_eq_true, Bool.and_eq_false_iff, Bool.or_eq_false_iff, decide_eq_true_eq, decide_eq_false_iff_not, Bool.not_eq_true', Bool.not_eq_false', beq_iff_eq, beq_eq_false_iff_ne, ne_eq] at hq); omega) ?_ | fail)
        refine W_loopU (fun k : Nat => [(10, iv k)]) (fun k => [(36, .cells [.row 41 (Y ++ hlR m f w r k).length]), (41, .row (Y ++ hlR m f w r k).length 138 2 dLd cLd (Y ++ hlR m f w r k))]) (fun k => k ≤ 6) (fun k => 6 - k) 0 (by omega) (by subst hT hT2; rfl) (by simp only [hlR, List.range_zero, List.flatMap_nil, List.append_nil]; rfl) (fun k hk => ?_)
        have hkl := hlR_len m f w r k
        have hks := hlR_succ m f w r k
        have hal : (Y ++ hlR m f w r k).length ≤ 10000 := by rw [List.length_append]; omega
        simp (maxSteps := 400000) (disch := omega) only [push_cast, ↓reduceIte, reduceCtorEq, Nat.reduceAdd, Nat.reduceSub, Nat.reduceEqDiff, Nat.reduceLeDiff, Nat.reduceLT, Nat.reduceBEq, Nat.reduceDiv, Nat.reduceMod, Nat.reducePow, Nat.reduceMul, Int.reduceToNat, Int.reduceLT, Int.reduceLE]
        repeat' (first | refine WK_go ?_ | refine W_seqL ?_ | refine W_seq ?_ | refine W_block ?_ | refine W_scp ?_ | ((first | refine W_regL ?_ | refine W_skip ?_ | refine W_exit ?_); simp (maxSteps := 400000) (disch := omega) only [push_cast, ↓reduceIte, reduceCtorEq, Nat.reduceAdd, Nat.reduceSub, Nat.reduceEqDiff, Nat.reduceLeDiff, Nat.reduceLT, Nat.reduceBEq, Nat.reduceDiv, Nat.reduceMod, Nat.reducePow, Nat.reduceMul, Int.reduceToNat, Int.reduceLT, Int.reduceLE]) | refine And.intro (by omega) ?_ | refine And.intro (by intro hq; (try simp only [Bool.and_eq_true, Bool.or_eq_true, Bool.and_eq_false_iff, Bool.or_eq_false_iff, decide_eq_true_eq, decide_eq_false_iff_not, Bool.not_eq_true', Bool.not_eq_false', beq_iff_eq, beq_eq_false_iff_ne, ne_eq] at hq); omega) ?_ | fail)
        refine W_condD (by rfl) (fun h7 => ?_) (fun h7 => ?_)
        · have hk6 : k < 6 := by omega
          have c122 := fn122 m f [] 0 r k hok (setW_msk (l := []) trivial) hr hk6
          have ec : limL m [] r k = (gr m r).lim k := rfl
          have e1 := hld2 k
          have c98 : Sy.Fn Try.prog 98 [aAt m f, iv w, .agg [iv r, iv k]] (bv (hpsB m f w r k)) := fn98 m f w r k hok hw hk6
          rw [ec] at c122
          have hys : Y ++ hlR m f w r (k + 1) = (Y ++ hlR m f w r k) ++ hl1 m f w r k := by rw [hks, List.append_assoc]
          generalize (gr m r).lim k = nl at *
          generalize Y ++ hlR m f w r k = Z at *
          by_cases q : nl < f k
          · have qb : decide (nl < f k) = true := decide_eq_true q
            repeat' (first | refine WK_go ?_ | refine W_seqL ?_ | refine W_seq ?_ | refine W_block ?_ | refine W_scp ?_ | ((first | refine W_regL ?_ | refine W_skip ?_ | refine W_exit ?_ | refine CallC.now (c122) ?_); simp (maxSteps := 400000) (disch := omega) only [push_cast, ↓reduceIte, reduceCtorEq, Nat.reduceAdd, Nat.reduceSub, Nat.reduceEqDiff, Nat.reduceLeDiff, Nat.reduceLT, Nat.reduceBEq, Nat.reduceDiv, Nat.reduceMod, Nat.reducePow, Nat.reduceMul, Int.reduceToNat, Int.reduceLT, Int.reduceLE, Nat.mul_one, Nat.zero_add, qb]) | refine And.intro (by omega) ?_ | refine And.intro (by intro hq; (try simp only [Bool.and_eq_true, Bool.or_eq_true, Bool.and_eq_false_iff, Bool.or_eq_false_iff, decide_eq_true_eq, decide_eq_false_iff_not, Bool.not_eq_true', Bool.not_eq_false', beq_iff_eq, beq_eq_false_iff_ne, ne_eq] at hq); omega) ?_ | fail)
            refine StopC.yld (fun hpc => ⟨trivial, Yl_of_WT (k := 60) mixed hR2 hT2 rfl rfl rfl (fun vs3 T3 hT3 => ?_)⟩) (fun hpc => absurd (by simp [pc]) hpc)
            simp (maxSteps := 400000) (disch := omega) only [push_cast, ↓reduceIte, reduceCtorEq, Nat.reduceAdd, Nat.reduceSub, Nat.reduceEqDiff, Nat.reduceLeDiff, Nat.reduceLT, Nat.reduceBEq, Nat.reduceDiv, Nat.reduceMod, Nat.reducePow, Nat.reduceMul, Int.reduceToNat, Int.reduceLT, Int.reduceLE]
            repeat' (first | refine WK_go ?_ | refine W_seqL ?_ | refine W_seq ?_ | refine W_block ?_ | refine W_scp ?_ | ((first | refine W_regL ?_ | refine W_skip ?_ | refine W_exit ?_); simp (maxSteps := 400000) (disch := omega) only [push_cast, ↓reduceIte, reduceCtorEq, Nat.reduceAdd, Nat.reduceSub, Nat.reduceEqDiff, Nat.reduceLeDiff, Nat.reduceLT, Nat.reduceBEq, Nat.reduceDiv, Nat.reduceMod, Nat.reducePow, Nat.reduceMul, Int.reduceToNat, Int.reduceLT, Int.reduceLE]) | refine And.intro (by omega) ?_ | refine And.intro (by intro hq; (try simp only [Bool.and_eq_true, Bool.or_eq_true, Bool.and_eq_false_iff, Bool.or_eq_false_iff, decide_eq_true_eq, decide_eq_false_iff_not, Bool.not_eq_true', Bool.not_eq_false', beq_iff_eq, beq_eq_false_iff_ne, ne_eq] at hq); omega) ?_ | fail)
            refine ⟨_, rfl, ?_⟩
            simp (maxSteps := 400000) (disch := omega) only [push_cast, ↓reduceIte, reduceCtorEq, Nat.reduceAdd, Nat.reduceSub, Nat.reduceEqDiff, Nat.reduceLeDiff, Nat.reduceLT, Nat.reduceBEq, Nat.reduceDiv, Nat.reduceMod, Nat.reducePow, Nat.reduceMul, Int.reduceToNat, Int.reduceLT, Int.reduceLE]
            repeat' (first | refine WK_go ?_ | refine W_seqL ?_ | refine W_seq ?_ | refine W_block ?_ | refine W_scp ?_ | ((first | refine W_regL ?_ | refine W_skip ?_ | refine W_exit ?_); simp (maxSteps := 400000) (disch := omega) only [push_cast, ↓reduceIte, reduceCtorEq, Nat.reduceAdd, Nat.reduceSub, Nat.reduceEqDiff, Nat.reduceLeDiff, Nat.reduceLT, Nat.reduceBEq, Nat.reduceDiv, Nat.reduceMod, Nat.reducePow, Nat.reduceMul, Int.reduceToNat, Int.reduceLT, Int.reduceLE]) | refine And.intro (by omega) ?_ | refine And.intro (by intro hq; (try simp only [Bool.and_eq_true, Bool.or_eq_true, Bool.and_eq_false_iff, Bool.or_eq_false_iff, decide_eq_true_eq, decide_eq_false_iff_not, Bool.not_eq_true', Bool.not_eq_false', beq_iff_eq, beq_eq_false_iff_ne, ne_eq] at hq); omega) ?_ | fail)
            refine StopC.yld (fun hpc2 => ⟨trivial, Yl_of_WT (k := 48) mixed hR hT rfl rfl rfl (fun vs4 T4 hT4 => ?_)⟩) (fun hpc2 => absurd (by simp [pc]) hpc2)
            simp (maxSteps := 400000) (disch := omega) only [push_cast, ↓reduceIte, reduceCtorEq, Nat.reduceAdd, Nat.reduceSub, Nat.reduceEqDiff, Nat.reduceLeDiff, Nat.reduceLT, Nat.reduceBEq, Nat.reduceDiv, Nat.reduceMod, Nat.reducePow, Nat.reduceMul, Int.reduceToNat, Int.reduceLT, Int.reduceLE]
            repeat' (first | refine WK_go ?_ | refine W_seqL ?_ | refine W_seq ?_ | refine W_block ?_ | refine W_scp ?_ | ((first | refine W_regL ?_ | refine W_skip ?_ | refine W_exit ?_); simp (maxSteps := 400000) (disch := omega) only [push_cast, ↓reduceIte, reduceCtorEq, Nat.reduceAdd, Nat.reduceSub, Nat.reduceEqDiff, Nat.reduceLeDiff, Nat.reduceLT, Nat.reduceBEq, Nat.reduceDiv, Nat.reduceMod, Nat.reducePow, Nat.reduceMul, Int.reduceToNat, Int.reduceLT, Int.reduceLE]) | refine And.intro (by omega) ?_ | refine And.intro (by intro hq; (try simp only [Bool.and_eq_true, Bool.or_eq_true, Bool.and_eq_false_iff, Bool.or_eq_false_iff, decide_eq_true_eq, decide_eq_false_iff_not, Bool.not_eq_true', Bool.not_eq_false', beq_iff_eq, beq_eq_false_iff_ne, ne_eq] at hq); omega) ?_ | fail)
            refine ⟨_, rfl, ?_⟩
            simp (maxSteps := 400000) (disch := omega) only [push_cast, ↓reduceIte, reduceCtorEq, Nat.reduceAdd, Nat.reduceSub, Nat.reduceEqDiff, Nat.reduceLeDiff, Nat.reduceLT, Nat.reduceBEq, Nat.reduceDiv, Nat.reduceMod, Nat.reducePow, Nat.reduceMul, Int.reduceToNat, Int.reduceLT, Int.reduceLE]
            cases hb : hpsB m f w r k
            · rw [hb] at c98 e1
              rw [if_neg (fun z => by cases z.2)] at e1
              rw [e1, List.append_nil] at hys
              repeat' (first | refine WK_go ?_ | refine W_seqL ?_ | refine W_seq ?_ | refine W_block ?_ | refine W_scp ?_ | ((first | refine W_regL ?_ | refine W_skip ?_ | refine W_exit ?_ | refine CallC.now (c98) ?_); simp (maxSteps := 400000) (disch := omega) only [push_cast, ↓reduceIte, reduceCtorEq, Nat.reduceAdd, Nat.reduceSub, Nat.reduceEqDiff, Nat.reduceLeDiff, Nat.reduceLT, Nat.reduceBEq, Nat.reduceDiv, Nat.reduceMod, Nat.reducePow, Nat.reduceMul, Int.reduceToNat, Int.reduceLT, Int.reduceLE]) | refine And.intro (by omega) ?_ | refine And.intro (by intro hq; (try simp only [Bool.and_eq_true, Bool.or_eq_true, Bool.and_eq_false_iff, Bool.or_eq_false_iff, decide_eq_true_eq, decide_eq_false_iff_not, Bool.not_eq_true', Bool.not_eq_false', beq_iff_eq, beq_eq_false_iff_ne, ne_eq] at hq); omega) ?_ | fail)
              refine W_cond (by rfl) (fun h => by cases h) (fun _ => ?_)
              repeat' (first | refine WK_go ?_ | refine W_seqL ?_ | refine W_seq ?_ | refine W_block ?_ | refine W_scp ?_ | ((first | refine W_regL ?_ | refine W_skip ?_ | refine W_exit ?_); simp (maxSteps := 400000) (disch := omega) only [push_cast, ↓reduceIte, reduceCtorEq, Nat.reduceAdd, Nat.reduceSub, Nat.reduceEqDiff, Nat.reduceLeDiff, Nat.reduceLT, Nat.reduceBEq, Nat.reduceDiv, Nat.reduceMod, Nat.reducePow, Nat.reduceMul, Int.reduceToNat, Int.reduceLT, Int.reduceLE]) | refine And.intro (by omega) ?_ | refine And.intro (by intro hq; (try simp only [Bool.and_eq_true, Bool.or_eq_true, Bool.and_eq_false_iff, Bool.or_eq_false_iff, decide_eq_true_eq, decide_eq_false_iff_not, Bool.not_eq_true', Bool.not_eq_false', beq_iff_eq, beq_eq_false_iff_ne, ne_eq] at hq); omega) ?_ | fail)
              refine ⟨_, _, rfl, rfl, ?_⟩
              simp (maxSteps := 400000) (disch := omega) only [push_cast, ↓reduceIte, reduceCtorEq, Nat.reduceAdd, Nat.reduceSub, Nat.reduceEqDiff, Nat.reduceLeDiff, Nat.reduceLT, Nat.reduceBEq, Nat.reduceDiv, Nat.reduceMod, Nat.reducePow, Nat.reduceMul, Int.reduceToNat, Int.reduceLT, Int.reduceLE]
              repeat' (first | refine WK_go ?_ | refine W_seqL ?_ | refine W_seq ?_ | refine W_block ?_ | refine W_scp ?_ | ((first | refine W_regL ?_ | refine W_skip ?_ | refine W_exit ?_); simp (maxSteps := 400000) (disch := omega) only [push_cast, ↓reduceIte, reduceCtorEq, Nat.reduceAdd, Nat.reduceSub, Nat.reduceEqDiff, Nat.reduceLeDiff, Nat.reduceLT, Nat.reduceBEq, Nat.reduceDiv, Nat.reduceMod, Nat.reducePow, Nat.reduceMul, Int.reduceToNat, Int.reduceLT, Int.reduceLE]) | refine And.intro (by omega) ?_ | refine And.intro (by intro hq; (try simp only [Bool.and_eq_true, Bool.or_eq_true, Bool.and_eq_false_iff, Bool.or_eq_false_iff, decide_eq_true_eq, decide_eq_false_iff_not, Bool.not_eq_true', Bool.not_eq_false', beq_iff_eq, beq_eq_false_iff_ne, ne_eq] at hq); omega) ?_ | fail)
              refine W_cond (by rfl) (fun h => by cases h) (fun _ => ?_)
              repeat' (first | refine WK_go ?_ | refine W_seqL ?_ | refine W_seq ?_ | refine W_block ?_ | refine W_scp ?_ | ((first | refine W_regL ?_ | refine W_skip ?_ | refine W_exit ?_); simp (maxSteps := 400000) (disch := omega) only [push_cast, ↓reduceIte, reduceCtorEq, Nat.reduceAdd, Nat.reduceSub, Nat.reduceEqDiff, Nat.reduceLeDiff, Nat.reduceLT, Nat.reduceBEq, Nat.reduceDiv, Nat.reduceMod, Nat.reducePow, Nat.reduceMul, Int.reduceToNat, Int.reduceLT, Int.reduceLE]) | refine And.intro (by omega) ?_ | refine And.intro (by intro hq; (try simp only [Bool.and_eq_true, Bool.or_eq_true, Bool.and_eq_false_iff, Bool.or_eq_false_iff, decide_eq_true_eq, decide_eq_false_iff_not, Bool.not_eq_true', Bool.not_eq_false', beq_iff_eq, beq_eq_false_iff_ne, ne_eq] at hq); omega) ?_ | fail)
              refine ⟨_, _, rfl, rfl, ?_⟩
              rw [hT3]
              simp (maxSteps := 400000) (disch := omega) only [push_cast, ↓reduceIte, reduceCtorEq, Nat.reduceAdd, Nat.reduceSub, Nat.reduceEqDiff, Nat.reduceLeDiff, Nat.reduceLT, Nat.reduceBEq, Nat.reduceDiv, Nat.reduceMod, Nat.reducePow, Nat.reduceMul, Int.reduceToNat, Int.reduceLT, Int.reduceLE]
              repeat' (first | refine WK_go ?_ | refine W_seqL ?_ | refine W_seq ?_ | refine W_block ?_ | refine W_scp ?_ | ((first | refine W_regL ?_ | refine W_skip ?_ | refine W_exit ?_); simp (maxSteps := 400000) (disch := omega) only [push_cast, ↓reduceIte, reduceCtorEq, Nat.reduceAdd, Nat.reduceSub, Nat.reduceEqDiff, Nat.reduceLeDiff, Nat.reduceLT, Nat.reduceBEq, Nat.reduceDiv, Nat.reduceMod, Nat.reducePow, Nat.reduceMul, Int.reduceToNat, Int.reduceLT, Int.reduceLE]) | refine And.intro (by omega) ?_ | refine And.intro (by intro hq; (try simp only [Bool.and_eq_true, Bool.or_eq_true, Bool.and_eq_false_iff, Bool.or_eq_false_iff, decide_eq_true_eq, decide_eq_false_iff_not, Bool.not_eq_true', Bool.not_eq_false', beq_iff_eq, beq_eq_false_iff_ne, ne_eq] at hq); omega) ?_ | fail)
              refine W_cond (by rfl) (fun h => by cases h) (fun _ => ?_)
              repeat' (first | refine WK_go ?_ | refine W_seqL ?_ | refine W_seq ?_ | refine W_block ?_ | refine W_scp ?_ | ((first | refine W_regL ?_ | refine W_skip ?_ | refine W_exit ?_); simp (maxSteps := 400000) (disch := omega) only [push_cast, ↓reduceIte, reduceCtorEq, Nat.reduceAdd, Nat.reduceSub, Nat.reduceEqDiff, Nat.reduceLeDiff, Nat.reduceLT, Nat.reduceBEq, Nat.reduceDiv, Nat.reduceMod, Nat.reducePow, Nat.reduceMul, Int.reduceToNat, Int.reduceLT, Int.reduceLE]) | refine And.intro (by omega) ?_ | refine And.intro (by intro hq; (try simp only [Bool.and_eq_true, Bool.or_eq_true, Bool.and_eq_false_iff, Bool.or_eq_false_iff, decide_eq_true_eq, decide_eq_false_iff_not, Bool.not_eq_true', Bool.not_eq_false', beq_iff_eq, beq_eq_false_iff_ne, ne_eq] at hq); omega) ?_ | fail)
              refine ⟨k + 1, by omega, by omega, by subst hT hT2; rfl, ?_⟩
              rw [hys]
              simp (maxSteps := 400000) (disch := omega) only [push_cast, ↓reduceIte, reduceCtorEq, Nat.reduceAdd, Nat.reduceSub, Nat.reduceEqDiff, Nat.reduceLeDiff, Nat.reduceLT, Nat.reduceBEq, Nat.reduceDiv, Nat.reduceMod, Nat.reducePow, Nat.reduceMul, Int.reduceToNat, Int.reduceLT, Int.reduceLE, S.mk.injEq, List.cons.injEq, Prod.mk.injEq, AV.v.injEq, Value.int.injEq, Value.bool.injEq, Blk.cells.injEq]
            · rw [hb] at c98 e1
              rw [if_pos ⟨q, rfl⟩] at e1
              rw [e1] at hys
              repeat' (first | refine WK_go ?_ | refine W_seqL ?_ | refine W_seq ?_ | refine W_block ?_ | refine W_scp ?_ | ((first | refine W_regL ?_ | refine W_skip ?_ | refine W_exit ?_ | refine CallC.now (c98) ?_); simp (maxSteps := 400000) (disch := omega) only [push_cast, ↓reduceIte, reduceCtorEq, Nat.reduceAdd, Nat.reduceSub, Nat.reduceEqDiff, Nat.reduceLeDiff, Nat.reduceLT, Nat.reduceBEq, Nat.reduceDiv, Nat.reduceMod, Nat.reducePow, Nat.reduceMul, Int.reduceToNat, Int.reduceLT, Int.reduceLE]) | refine And.intro (by omega) ?_ | refine And.intro (by intro hq; (try simp only [Bool.and_eq_true, Bool.or_eq_true, Bool.and_eq_false_iff, Bool.or_eq_false_iff, decide_eq_true_eq, decide_eq_false_iff_not, Bool.not_eq_true', Bool.not_eq_false', beq_iff_eq, beq_eq_false_iff_ne, ne_eq] at hq); omega) ?_ | fail)
              refine W_cond (by rfl) (fun _ => ?_) (fun h => by cases h)
              repeat' (first | refine WK_go ?_ | refine W_seqL ?_ | refine W_seq ?_ | refine W_block ?_ | refine W_scp ?_ | ((first | refine W_regL ?_ | refine W_skip ?_ | refine W_exit ?_); simp (maxSteps := 400000) (disch := omega) only [push_cast, ↓reduceIte, reduceCtorEq, Nat.reduceAdd, Nat.reduceSub, Nat.reduceEqDiff, Nat.reduceLeDiff, Nat.reduceLT, Nat.reduceBEq, Nat.reduceDiv, Nat.reduceMod, Nat.reducePow, Nat.reduceMul, Int.reduceToNat, Int.reduceLT, Int.reduceLE]) | refine And.intro (by omega) ?_ | refine And.intro (by intro hq; (try simp only [Bool.and_eq_true, Bool.or_eq_true, Bool.and_eq_false_iff, Bool.or_eq_false_iff, decide_eq_true_eq, decide_eq_false_iff_not, Bool.not_eq_true', Bool.not_eq_false', beq_iff_eq, beq_eq_false_iff_ne, ne_eq] at hq); omega) ?_ | fail)
              refine ⟨rfl, trivial, Ld, dLd, cLd, [⟨r, k⟩], rfl, by omega, fun x _ => ⟨rfl, rfl⟩, rfl, ?_⟩
              simp (maxSteps := 400000) (disch := omega) only [push_cast, ↓reduceIte, reduceCtorEq, Nat.reduceAdd, Nat.reduceSub, Nat.reduceEqDiff, Nat.reduceLeDiff, Nat.reduceLT, Nat.reduceBEq, Nat.reduceDiv, Nat.reduceMod, Nat.reducePow, Nat.reduceMul, Int.reduceToNat, Int.reduceLT, Int.reduceLE]
              refine ⟨rfl, ⟨Nat.le_of_ble_eq_true rfl, rfl⟩, trivial, [(⟨r, k⟩ : Ld)], rfl, by first | omega | (simp; omega), by first | omega | (simp; omega), ?_⟩
              simp (maxSteps := 400000) (disch := omega) only [push_cast, ↓reduceIte, reduceCtorEq, Nat.reduceAdd, Nat.reduceSub, Nat.reduceEqDiff, Nat.reduceLeDiff, Nat.reduceLT, Nat.reduceBEq, Nat.reduceDiv, Nat.reduceMod, Nat.reducePow, Nat.reduceMul, Int.reduceToNat, Int.reduceLT, Int.reduceLE]
              repeat' (first | refine WK_go ?_ | refine W_seqL ?_ | refine W_seq ?_ | refine W_block ?_ | refine W_scp ?_ | ((first | refine W_regL ?_ | refine W_skip ?_ | refine W_exit ?_); simp (maxSteps := 400000) (disch := omega) only [push_cast, ↓reduceIte, reduceCtorEq, Nat.reduceAdd, Nat.reduceSub, Nat.reduceEqDiff, Nat.reduceLeDiff, Nat.reduceLT, Nat.reduceBEq, Nat.reduceDiv, Nat.reduceMod, Nat.reducePow, Nat.reduceMul, Int.reduceToNat, Int.reduceLT, Int.reduceLE]) | refine And.intro (by omega) ?_ | refine And.intro (by intro hq; (try simp only [Bool.and_eq_true, Bool.or_eq_true, Bool.and_eq_false_iff, Bool.or_eq_false_iff, decide_eq_true_eq, decide_eq_false_iff_not, Bool.not_eq_true', Bool.not_eq_false', beq_iff_eq, beq_eq_false_iff_ne, ne_eq] at hq); omega) ?_ | fail)
              refine ⟨_, _, rfl, rfl, ?_⟩
              simp (maxSteps := 400000) (disch := omega) only [push_cast, ↓reduceIte, reduceCtorEq, Nat.reduceAdd, Nat.reduceSub, Nat.reduceEqDiff, Nat.reduceLeDiff, Nat.reduceLT, Nat.reduceBEq, Nat.reduceDiv, Nat.reduceMod, Nat.reducePow, Nat.reduceMul, Int.reduceToNat, Int.reduceLT, Int.reduceLE]
              repeat' (first | refine WK_go ?_ | refine W_seqL ?_ | refine W_seq ?_ | refine W_block ?_ | refine W_scp ?_ | ((first | refine W_regL ?_ | refine W_skip ?_ | refine W_exit ?_); simp (maxSteps := 400000) (disch := omega) only [push_cast, ↓reduceIte, reduceCtorEq, Nat.reduceAdd, Nat.reduceSub, Nat.reduceEqDiff, Nat.reduceLeDiff, Nat.reduceLT, Nat.reduceBEq, Nat.reduceDiv, Nat.reduceMod, Nat.reducePow, Nat.reduceMul, Int.reduceToNat, Int.reduceLT, Int.reduceLE]) | refine And.intro (by omega) ?_ | refine And.intro (by intro hq; (try simp only [Bool.and_eq_true, Bool.or_eq_true, Bool.and_eq_false_iff, Bool.or_eq_false_iff, decide_eq_true_eq, decide_eq_false_iff_not, Bool.not_eq_true', Bool.not_eq_false', beq_iff_eq, beq_eq_false_iff_ne, ne_eq] at hq); omega) ?_ | fail)
              refine W_cond (by rfl) (fun h => by cases h) (fun _ => ?_)
              repeat' (first | refine WK_go ?_ | refine W_seqL ?_ | refine W_seq ?_ | refine W_block ?_ | refine W_scp ?_ | ((first | refine W_regL ?_ | refine W_skip ?_ | refine W_exit ?_); simp (maxSteps := 400000) (disch := omega) only [push_cast, ↓reduceIte, reduceCtorEq, Nat.reduceAdd, Nat.reduceSub, Nat.reduceEqDiff, Nat.reduceLeDiff, Nat.reduceLT, Nat.reduceBEq, Nat.reduceDiv, Nat.reduceMod, Nat.reducePow, Nat.reduceMul, Int.reduceToNat, Int.reduceLT, Int.reduceLE]) | refine And.intro (by omega) ?_ | refine And.intro (by intro hq; (try simp only [Bool.and_eq_true, Bool.or_eq_true, Bool.and_eq_false_iff, Bool.or_eq_false_iff, decide_eq_true_eq, decide_eq_false_iff_not, Bool.not_eq_true', Bool.not_eq_false', beq_iff_eq, beq_eq_false_iff_ne, ne_eq] at hq); omega) ?_ | fail)
              refine ⟨_, _, rfl, rfl, ?_⟩
              rw [hT3]
              simp (maxSteps := 400000) (disch := omega) only [push_cast, ↓reduceIte, reduceCtorEq, Nat.reduceAdd, Nat.reduceSub, Nat.reduceEqDiff, Nat.reduceLeDiff, Nat.reduceLT, Nat.reduceBEq, Nat.reduceDiv, Nat.reduceMod, Nat.reducePow, Nat.reduceMul, Int.reduceToNat, Int.reduceLT, Int.reduceLE]
              repeat' (first | refine WK_go ?_ | refine W_seqL ?_ | refine W_seq ?_ | refine W_block ?_ | refine W_scp ?_ | ((first | refine W_regL ?_ | refine W_skip ?_ | refine W_exit ?_); simp (maxSteps := 400000) (disch := omega) only [push_cast, ↓reduceIte, reduceCtorEq, Nat.reduceAdd, Nat.reduceSub, Nat.reduceEqDiff, Nat.reduceLeDiff, Nat.reduceLT, Nat.reduceBEq, Nat.reduceDiv, Nat.reduceMod, Nat.reducePow, Nat.reduceMul, Int.reduceToNat, Int.reduceLT, Int.reduceLE]) | refine And.intro (by omega) ?_ | refine And.intro (by intro hq; (try simp only [Bool.and_eq_true, Bool.or_eq_true, Bool.and_eq_false_iff, Bool.or_eq_false_iff, decide_eq_true_eq, decide_eq_false_iff_not, Bool.not_eq_true', Bool.not_eq_false', beq_iff_eq, beq_eq_false_iff_ne, ne_eq] at hq); omega) ?_ | fail)
              refine W_cond (by rfl) (fun h => by cases h) (fun _ => ?_)
              repeat' (first | refine WK_go ?_ | refine W_seqL ?_ | refine W_seq ?_ | refine W_block ?_ | refine W_scp ?_ | ((first | refine W_regL ?_ | refine W_skip ?_ | refine W_exit ?_); simp (maxSteps := 400000) (disch := omega) only [push_cast, ↓reduceIte, reduceCtorEq, Nat.reduceAdd, Nat.reduceSub, Nat.reduceEqDiff, Nat.reduceLeDiff, Nat.reduceLT, Nat.reduceBEq, Nat.reduceDiv, Nat.reduceMod, Nat.reducePow, Nat.reduceMul, Int.reduceToNat, Int.reduceLT, Int.reduceLE]) | refine And.intro (by omega) ?_ | refine And.intro (by intro hq; (try simp only [Bool.and_eq_true, Bool.or_eq_true, Bool.and_eq_false_iff, Bool.or_eq_false_iff, decide_eq_true_eq, decide_eq_false_iff_not, Bool.not_eq_true', Bool.not_eq_false', beq_iff_eq, beq_eq_false_iff_ne, ne_eq] at hq); omega) ?_ | fail)
              refine ⟨k + 1, by omega, by omega, by subst hT hT2; rfl, ?_⟩
              rw [hys, List.length_append]
              simp (maxSteps := 400000) (disch := omega) only [push_cast, ↓reduceIte, reduceCtorEq, Nat.reduceAdd, Nat.reduceSub, Nat.reduceEqDiff, Nat.reduceLeDiff, Nat.reduceLT, Nat.reduceBEq, Nat.reduceDiv, Nat.reduceMod, Nat.reducePow, Nat.reduceMul, Int.reduceToNat, Int.reduceLT, Int.reduceLE, S.mk.injEq, List.cons.injEq, Prod.mk.injEq, AV.v.injEq, Value.int.injEq, Value.bool.injEq, Blk.cells.injEq]
          · rw [if_neg (fun z => q z.1)] at e1
            rw [e1, List.append_nil] at hys
            have qb : decide (nl < f k) = false := decide_eq_false q
            repeat' (first | refine WK_go ?_ | refine W_seqL ?_ | refine W_seq ?_ | refine W_block ?_ | refine W_scp ?_ | ((first | refine W_regL ?_ | refine W_skip ?_ | refine W_exit ?_ | refine CallC.now (c122) ?_); simp (maxSteps := 400000) (disch := omega) only [push_cast, ↓reduceIte, reduceCtorEq, Nat.reduceAdd, Nat.reduceSub, Nat.reduceEqDiff, Nat.reduceLeDiff, Nat.reduceLT, Nat.reduceBEq, Nat.reduceDiv, Nat.reduceMod, Nat.reducePow, Nat.reduceMul, Int.reduceToNat, Int.reduceLT, Int.reduceLE, Nat.mul_one, Nat.zero_add, qb]) | refine And.intro (by omega) ?_ | refine And.intro (by intro hq; (try simp only [Bool.and_eq_true, Bool.or_eq_true, Bool.and_eq_false_iff, Bool.or_eq_false_iff, decide_eq_true_eq, decide_eq_false_iff_not, Bool.not_eq_true', Bool.not_eq_false', beq_iff_eq, beq_eq_false_iff_ne, ne_eq] at hq); omega) ?_ | fail)
            refine StopC.yld (fun hpc => absurd hpc (by simp [pc])) (fun hpc => ?_)
            simp (maxSteps := 400000) (disch := omega) only [push_cast, ↓reduceIte, reduceCtorEq, Nat.reduceAdd, Nat.reduceSub, Nat.reduceEqDiff, Nat.reduceLeDiff, Nat.reduceLT, Nat.reduceBEq, Nat.reduceDiv, Nat.reduceMod, Nat.reducePow, Nat.reduceMul, Int.reduceToNat, Int.reduceLT, Int.reduceLE]
            repeat' (first | refine WK_go ?_ | refine W_seqL ?_ | refine W_seq ?_ | refine W_block ?_ | refine W_scp ?_ | ((first | refine W_regL ?_ | refine W_skip ?_ | refine W_exit ?_); simp (maxSteps := 400000) (disch := omega) only [push_cast, ↓reduceIte, reduceCtorEq, Nat.reduceAdd, Nat.reduceSub, Nat.reduceEqDiff, Nat.reduceLeDiff, Nat.reduceLT, Nat.reduceBEq, Nat.reduceDiv, Nat.reduceMod, Nat.reducePow, Nat.reduceMul, Int.reduceToNat, Int.reduceLT, Int.reduceLE]) | refine And.intro (by omega) ?_ | refine And.intro (by intro hq; (try simp only [Bool.and_eq_true, Bool.or_eq_true, Bool.and_eq_false_iff, Bool.or_eq_false_iff, decide_eq_true_eq, decide_eq_false_iff_not, Bool.not_eq_true', Bool.not_eq_false', beq_iff_eq, beq_eq_false_iff_ne, ne_eq] at hq); omega) ?_ | fail)
            refine W_cond (by rfl) (fun h => by cases h) (fun _ => ?_)
            repeat' (first | refine WK_go ?_ | refine W_seqL ?_ | refine W_seq ?_ | refine W_block ?_ | refine W_scp ?_ | ((first | refine W_regL ?_ | refine W_skip ?_ | refine W_exit ?_); simp (maxSteps := 400000) (disch := omega) only [push_cast, ↓reduceIte, reduceCtorEq, Nat.reduceAdd, Nat.reduceSub, Nat.reduceEqDiff, Nat.reduceLeDiff, Nat.reduceLT, Nat.reduceBEq, Nat.reduceDiv, Nat.reduceMod, Nat.reducePow, Nat.reduceMul, Int.reduceToNat, Int.reduceLT, Int.reduceLE]) | refine And.intro (by omega) ?_ | refine And.intro (by intro hq; (try simp only [Bool.and_eq_true, Bool.or_eq_true, Bool.and_eq_false_iff, Bool.or_eq_false_iff, decide_eq_true_eq, decide_eq_false_iff_not, Bool.not_eq_true', Bool.not_eq_false', beq_iff_eq, beq_eq_false_iff_ne, ne_eq] at hq); omega) ?_ | fail)
            refine ⟨k + 1, by omega, by omega, by subst hT hT2; rfl, ?_⟩
            rw [hys]
            simp (maxSteps := 400000) (disch := omega) only [push_cast, ↓reduceIte, reduceCtorEq, Nat.reduceAdd, Nat.reduceSub, Nat.reduceEqDiff, Nat.reduceLeDiff, Nat.reduceLT, Nat.reduceBEq, Nat.reduceDiv, Nat.reduceMod, Nat.reducePow, Nat.reduceMul, Int.reduceToNat, Int.reduceLT, Int.reduceLE, S.mk.injEq, List.cons.injEq, Prod.mk.injEq, AV.v.injEq, Value.int.injEq, Value.bool.injEq, Blk.cells.injEq]
        · have hk6 : k = 6 := by omega
          subst hk6
          rw [← hls]
          repeat' (first | refine WK_go ?_ | refine W_seqL ?_ | refine W_seq ?_ | refine W_block ?_ | refine W_scp ?_ | ((first | refine W_regL ?_ | refine W_skip ?_ | refine W_exit ?_); simp (maxSteps := 400000) (disch := omega) only [push_cast, ↓reduceIte, reduceCtorEq, Nat.reduceAdd, Nat.reduceSub, Nat.reduceEqDiff, Nat.reduceLeDiff, Nat.reduceLT, Nat.reduceBEq, Nat.reduceDiv, Nat.reduceMod, Nat.reducePow, Nat.reduceMul, Int.reduceToNat, Int.reduceLT, Int.reduceLE]) | refine And.intro (by omega) ?_ | refine And.intro (by intro hq; (try simp only [Bool.and_eq_true, Bool.or_eq_true, Bool.and_eq_false_iff, Bool.or_eq_false_iff, decide_eq_true_eq, decide_eq_false_iff_not, Bool.not_eq_true', Bool.not_eq_false', beq_iff_eq, beq_eq_false_iff_ne, ne_eq] at hq); omega) ?_ | fail)
          refine ⟨_, _, rfl, rfl, ⟨_, _, rfl, by rw [hR2.st]; simp, ?_⟩⟩
          rw [hR2.pe, hT2]
          simp (maxSteps := 400000) (disch := omega) only [push_cast, ↓reduceIte, reduceCtorEq, Nat.reduceAdd, Nat.reduceSub, Nat.reduceEqDiff, Nat.reduceLeDiff, Nat.reduceLT, Nat.reduceBEq, Nat.reduceDiv, Nat.reduceMod, Nat.reducePow, Nat.reduceMul, Int.reduceToNat, Int.reduceLT, Int.reduceLE, EndP]
          repeat' (first | refine WK_go ?_ | refine W_seqL ?_ | refine W_seq ?_ | refine W_block ?_ | refine W_scp ?_ | ((first | refine W_regL ?_ | refine W_skip ?_ | refine W_exit ?_); simp (maxSteps := 400000) (disch := omega) only [push_cast, ↓reduceIte, reduceCtorEq, Nat.reduceAdd, Nat.reduceSub, Nat.reduceEqDiff, Nat.reduceLeDiff, Nat.reduceLT, Nat.reduceBEq, Nat.reduceDiv, Nat.reduceMod, Nat.reducePow, Nat.reduceMul, Int.reduceToNat, Int.reduceLT, Int.reduceLE]) | refine And.intro (by omega) ?_ | refine And.intro (by intro hq; (try simp only [Bool.and_eq_true, Bool.or_eq_true, Bool.and_eq_false_iff, Bool.or_eq_false_iff, decide_eq_true_eq, decide_eq_false_iff_not, Bool.not_eq_true', Bool.not_eq_false', beq_iff_eq, beq_eq_false_iff_ne, ne_eq] at hq); omega) ?_ | fail)
          refine ⟨_, _, rfl, rfl, ⟨_, _, rfl, by rw [hR.st]; simp, ?_⟩⟩
          rw [hR.pe, hT]
          simp (maxSteps := 400000) (disch := omega) only [push_cast, ↓reduceIte, reduceCtorEq, Nat.reduceAdd, Nat.reduceSub, Nat.reduceEqDiff, Nat.reduceLeDiff, Nat.reduceLT, Nat.reduceBEq, Nat.reduceDiv, Nat.reduceMod, Nat.reducePow, Nat.reduceMul, Int.reduceToNat, Int.reduceLT, Int.reduceLE, EndP]
          repeat' (first | refine WK_go ?_ | refine W_seqL ?_ | refine W_seq ?_ | refine W_block ?_ | refine W_scp ?_ | ((first | refine W_regL ?_ | refine W_skip ?_ | refine W_exit ?_); simp (maxSteps := 400000) (disch := omega) only [push_cast, ↓reduceIte, reduceCtorEq, Nat.reduceAdd, Nat.reduceSub, Nat.reduceEqDiff, Nat.reduceLeDiff, Nat.reduceLT, Nat.reduceBEq, Nat.reduceDiv, Nat.reduceMod, Nat.reducePow, Nat.reduceMul, Int.reduceToNat, Int.reduceLT, Int.reduceLE]) | refine And.intro (by omega) ?_ | refine And.intro (by intro hq; (try simp only [Bool.and_eq_true, Bool.or_eq_true, Bool.and_eq_false_iff, Bool.or_eq_false_iff, decide_eq_true_eq, decide_eq_false_iff_not, Bool.not_eq_true', Bool.not_eq_false', beq_iff_eq, beq_eq_false_iff_ne, ne_eq] at hq); omega) ?_ | fail)
          refine ⟨r + 1, by omega, by omega, by rfl, ?_⟩
          simp (maxSteps := 400000) (disch := omega) only [push_cast, ↓reduceIte, reduceCtorEq, Nat.reduceAdd, Nat.reduceSub, Nat.reduceEqDiff, Nat.reduceLeDiff, Nat.reduceLT, Nat.reduceBEq, Nat.reduceDiv, Nat.reduceMod, Nat.reducePow, Nat.reduceMul, Int.reduceToNat, Int.reduceLT, Int.reduceLE, S.mk.injEq, List.cons.injEq, Prod.mk.injEq, AV.v.injEq, Value.int.injEq, Value.bool.injEq, Blk.cells.injEq]
    · have hrm : r = m.rs.length := by omega
      subst hrm
      have hew : evW m f w = (hlW m f w m.rs.length).map (evP w (evQ m f w)) := rfl
      have heq : evQ m f w = (gw m w).c / (hlW m f w m.rs.length).length := rfl
      have hcw := (workB_ok (hok.w w hw)).c
      have hgw : m.ws.getD w dW = gw m w := rfl
      generalize evQ m f w = q at *
      generalize hlW m f w m.rs.length = Y at *
      clear hls h6 hrl
      repeat' (first | refine WK_go ?_ | refine W_seqL ?_ | refine W_seq ?_ | refine W_block ?_ | refine W_scp ?_ | ((first | refine W_regL ?_ | refine W_skip ?_ | refine W_exit ?_); simp (maxSteps := 400000) (disch := omega) only [push_cast, ↓reduceIte, reduceCtorEq, Nat.reduceAdd, Nat.reduceSub, Nat.reduceEqDiff, Nat.reduceLeDiff, Nat.reduceLT, Nat.reduceBEq, Nat.reduceDiv, Nat.reduceMod, Nat.reducePow, Nat.reduceMul, Int.reduceToNat, Int.reduceLT, Int.reduceLE]) | refine And.intro (by omega) ?_ | refine And.intro (by intro hq; (try simp only [Bool.and_eq_true, Bool.or_eq_true, Bool.and_eq_false_iff, Bool.or_eq_false_iff, decide_eq_true_eq, decide_eq_false_iff_not, Bool.not_eq_true', Bool.not_eq_false', beq_iff_eq, beq_eq_false_iff_ne, ne_eq] at hq); omega) ?_ | fail)
      refine W_loopU (fun j : Nat => [(69, iv j)]) (fun j => [(23, .cells [.row 31 (A ++ (Y.take j).map (evP w q)).length, .v (.slice none 0 0)]), (31, .row (A ++ (Y.take j).map (evP w q)).length 77 4 dP cP (A ++ (Y.take j).map (evP w q))), (25, .oth (.mp b 3 (gP (A ++ (Y.take j).map (evP w q)))))]) (fun j => j ≤ Y.length) (fun j => Y.length - j) 0 (by omega) (by rfl) (by simp only [List.take_zero, List.map_nil, List.append_nil]; rfl) (fun j hj => ?_)
      have hAl : (A ++ (Y.take j).map (evP w q)).length ≤ 30000 := by rw [List.length_append, List.length_map, List.length_take]; omega
      simp (maxSteps := 400000) (disch := omega) only [push_cast, ↓reduceIte, reduceCtorEq, Nat.reduceAdd, Nat.reduceSub, Nat.reduceEqDiff, Nat.reduceLeDiff, Nat.reduceLT, Nat.reduceBEq, Nat.reduceDiv, Nat.reduceMod, Nat.reducePow, Nat.reduceMul, Int.reduceToNat, Int.reduceLT, Int.reduceLE]
      repeat' (first | refine WK_go ?_ | refine W_seqL ?_ | refine W_seq ?_ | refine W_block ?_ | refine W_scp ?_ | ((first | refine W_regL ?_ | refine W_skip ?_ | refine W_exit ?_); simp (maxSteps := 400000) (disch := omega) only [push_cast, ↓reduceIte, reduceCtorEq, Nat.reduceAdd, Nat.reduceSub, Nat.reduceEqDiff, Nat.reduceLeDiff, Nat.reduceLT, Nat.reduceBEq, Nat.reduceDiv, Nat.reduceMod, Nat.reducePow, Nat.reduceMul, Int.reduceToNat, Int.reduceLT, Int.reduceLE]) | refine And.intro (by omega) ?_ | refine And.intro (by intro hq; (try simp only [Bool.and_eq_true, Bool.or_eq_true, Bool.and_eq_false_iff, Bool.or_eq_false_iff, decide_eq_true_eq, decide_eq_false_iff_not, Bool.not_eq_true', Bool.not_eq_false', beq_iff_eq, beq_eq_false_iff_ne, ne_eq] at hq); omega) ?_ | fail)
      refine W_condD (by rfl) (fun h7 => ?_) (fun h7 => ?_)
      · have hlt : j < Y.length := by omega
        have hd : (gw m w).c.tdiv Y.length = q := by rw [heq, Int.tdiv_eq_ediv_of_nonneg (by omega)]
        have hq0 : 0 ≤ q := by rw [heq]; exact Int.ediv_nonneg (by omega) (by omega)
        have hq1 : q ≤ (gw m w).c := by rw [heq]; exact Int.ediv_le_self _ (by omega)
        have htk : A ++ (Y.take (j + 1)).map (evP w q) = (A ++ (Y.take j).map (evP w q)) ++ [evP w q (Y.getD j dLd)] := by
          rw [List.take_succ_eq_append_getElem hlt, List.map_append, ← List.append_assoc]
          simp [List.getD, hlt]
        have hgs := gP_snoc (A ++ (Y.take j).map (evP w q)) (evP w q (Y.getD j dLd))
        rw [← htk] at hgs
        have hgs : gP (A ++ (Y.take (j + 1)).map (evP w q)) = updG (gP (A ++ (Y.take j).map (evP w q))) (.agg #[.int .i64 w, .int .i64 (Y.getD j dLd).r, .int .i64 (Y.getD j dLd).k]) (.int .i64 q) := hgs
        obtain ⟨⟨xr, xk⟩, hX⟩ : ∃ X, Y.getD j dLd = X := ⟨_, rfl⟩
        rw [hX] at htk hgs
        generalize A ++ (Y.take j).map (evP w q) = Z at *
        clear heq
        repeat' (first | refine WK_go ?_ | refine W_seqL ?_ | refine W_seq ?_ | refine W_block ?_ | refine W_scp ?_ | ((first | refine W_regL ?_ | refine W_skip ?_ | refine W_exit ?_); simp (maxSteps := 400000) (disch := omega) only [push_cast, ↓reduceIte, reduceCtorEq, Nat.reduceAdd, Nat.reduceSub, Nat.reduceEqDiff, Nat.reduceLeDiff, Nat.reduceLT, Nat.reduceBEq, Nat.reduceDiv, Nat.reduceMod, Nat.reducePow, Nat.reduceMul, Int.reduceToNat, Int.reduceLT, Int.reduceLE, hgw, hd, hX, cLd]) | refine And.intro (by omega) ?_ | refine And.intro (by intro hq; (try simp only [Bool.and_eq_true, Bool.or_eq_true, Bool.and_eq_false_iff, Bool.or_eq_false_iff, decide_eq_true_eq, decide_eq_false_iff_not, Bool.not_eq_true', Bool.not_eq_false', beq_iff_eq, beq_eq_false_iff_ne, ne_eq] at hq); omega) ?_ | fail)
        refine ⟨rfl, trivial, Prt, dP, cP, [evP w q ⟨xr, xk⟩], rfl, by omega, fun x _ => ⟨rfl, rfl⟩, rfl, ?_⟩
        simp (maxSteps := 400000) (disch := omega) only [push_cast, ↓reduceIte, reduceCtorEq, Nat.reduceAdd, Nat.reduceSub, Nat.reduceEqDiff, Nat.reduceLeDiff, Nat.reduceLT, Nat.reduceBEq, Nat.reduceDiv, Nat.reduceMod, Nat.reducePow, Nat.reduceMul, Int.reduceToNat, Int.reduceLT, Int.reduceLE]
        refine ⟨rfl, ⟨Nat.le_of_ble_eq_true rfl, rfl⟩, trivial, [evP w q ⟨xr, xk⟩], rfl, by first | omega | (simp; omega), by first | omega | (simp; omega), ?_⟩
        simp (maxSteps := 400000) (disch := omega) only [push_cast, ↓reduceIte, reduceCtorEq, Nat.reduceAdd, Nat.reduceSub, Nat.reduceEqDiff, Nat.reduceLeDiff, Nat.reduceLT, Nat.reduceBEq, Nat.reduceDiv, Nat.reduceMod, Nat.reducePow, Nat.reduceMul, Int.reduceToNat, Int.reduceLT, Int.reduceLE]
        repeat (first | refine WK_go ?_ | refine W_seqL ?_ | refine W_seq ?_ | refine W_block ?_)
        refine W_regX [5] ?_
        simp (maxSteps := 400000) (disch := omega) only [push_cast, ↓reduceIte, reduceCtorEq, Nat.reduceAdd, Nat.reduceSub, Nat.reduceEqDiff, Nat.reduceLeDiff, Nat.reduceLT, Nat.reduceBEq, Nat.reduceDiv, Nat.reduceMod, Nat.reducePow, Nat.reduceMul, Int.reduceToNat, Int.reduceLT, Int.reduceLE, chainX, List.take_succ_cons, List.take_zero, List.drop_succ_cons, List.drop_zero]
        refine SpM_mup 25 b _ (.agg #[.int .i64 w, .int .i64 xr, .int .i64 xk]) (.int .i64 q) (by simp [underAll, under, ev, lk]) rfl rfl rfl (ok3 _ _ _) rfl ?_
        rw [← hgs]
        simp (maxSteps := 400000) (disch := omega) only [push_cast, ↓reduceIte, reduceCtorEq, Nat.reduceAdd, Nat.reduceSub, Nat.reduceEqDiff, Nat.reduceLeDiff, Nat.reduceLT, Nat.reduceBEq, Nat.reduceDiv, Nat.reduceMod, Nat.reducePow, Nat.reduceMul, Int.reduceToNat, Int.reduceLT, Int.reduceLE, chainX]
        repeat' (first | refine WK_go ?_ | refine W_seqL ?_ | refine W_seq ?_ | refine W_block ?_ | refine W_scp ?_ | ((first | refine W_regL ?_ | refine W_skip ?_ | refine W_exit ?_); simp (maxSteps := 400000) (disch := omega) only [push_cast, ↓reduceIte, reduceCtorEq, Nat.reduceAdd, Nat.reduceSub, Nat.reduceEqDiff, Nat.reduceLeDiff, Nat.reduceLT, Nat.reduceBEq, Nat.reduceDiv, Nat.reduceMod, Nat.reducePow, Nat.reduceMul, Int.reduceToNat, Int.reduceLT, Int.reduceLE]) | refine And.intro (by omega) ?_ | refine And.intro (by intro hq; (try simp only [Bool.and_eq_true, Bool.or_eq_true, Bool.and_eq_false_iff, Bool.or_eq_false_iff, decide_eq_true_eq, decide_eq_false_iff_not, Bool.not_eq_true', Bool.not_eq_false', beq_iff_eq, beq_eq_false_iff_ne, ne_eq] at hq); omega) ?_ | fail)
        refine ⟨j + 1, by omega, by omega, by rfl, ?_⟩
        rw [htk, List.length_append]
        simp (maxSteps := 400000) (disch := omega) only [push_cast, ↓reduceIte, reduceCtorEq, Nat.reduceAdd, Nat.reduceSub, Nat.reduceEqDiff, Nat.reduceLeDiff, Nat.reduceLT, Nat.reduceBEq, Nat.reduceDiv, Nat.reduceMod, Nat.reducePow, Nat.reduceMul, Int.reduceToNat, Int.reduceLT, Int.reduceLE, S.mk.injEq, List.cons.injEq, Prod.mk.injEq, AV.v.injEq, Value.int.injEq, Value.bool.injEq, Blk.cells.injEq]
      · have hjy : j = Y.length := by omega
        rw [hjy, List.take_length, ← hew]
        repeat' (first | refine WK_go ?_ | refine W_seqL ?_ | refine W_seq ?_ | refine W_block ?_ | refine W_scp ?_ | ((first | refine W_regL ?_ | refine W_skip ?_ | refine W_exit ?_); simp (maxSteps := 400000) (disch := omega) only [push_cast, ↓reduceIte, reduceCtorEq, Nat.reduceAdd, Nat.reduceSub, Nat.reduceEqDiff, Nat.reduceLeDiff, Nat.reduceLT, Nat.reduceBEq, Nat.reduceDiv, Nat.reduceMod, Nat.reducePow, Nat.reduceMul, Int.reduceToNat, Int.reduceLT, Int.reduceLE]) | refine And.intro (by omega) ?_ | refine And.intro (by intro hq; (try simp only [Bool.and_eq_true, Bool.or_eq_true, Bool.and_eq_false_iff, Bool.or_eq_false_iff, decide_eq_true_eq, decide_eq_false_iff_not, Bool.not_eq_true', Bool.not_eq_false', beq_iff_eq, beq_eq_false_iff_ne, ne_eq] at hq); omega) ?_ | fail)
        refine ⟨w + 1, by omega, by omega, by rfl, ?_⟩
        rw [hes]
        simp (maxSteps := 400000) (disch := omega) only [push_cast, ↓reduceIte, reduceCtorEq, Nat.reduceAdd, Nat.reduceSub, Nat.reduceEqDiff, Nat.reduceLeDiff, Nat.reduceLT, Nat.reduceBEq, Nat.reduceDiv, Nat.reduceMod, Nat.reducePow, Nat.reduceMul, Int.reduceToNat, Int.reduceLT, Int.reduceLE, S.mk.injEq, List.cons.injEq, Prod.mk.injEq, AV.v.injEq, Value.int.injEq, Value.bool.injEq, Blk.cells.injEq]
  · have hwm : w = m.ws.length := by omega
    subst hwm
    clear hes h5 hwl hel hbl hz c15
    have hbd : bnD m f fr = dstC m false (rdC m f) fr := rfl
    have hbn : bnH m f fr to = mnL (bnD m f fr) (gi (bnD m f fr) to.toNat) m.n.toNat := rfl
    obtain ⟨k1, k2⟩ := edgC_ok hok false (c := rdC m f) (fun i hi => (rdC_rng hok f hi).1)
    have hDB : Dst (edgC m false (rdC m f)) fr.toNat m.n.toNat (bnD m f fr) := dst_dst k1 (by omega)
    have o57 := fo57 m f fr false 130 [] [.fp (cAt m f) 0, .fp [.fm 3 (gP (evA m f m.ws.length))] 0] (rdC m f) hok hpr.1 (fun i hi => (rdC_rng hok f hi).1) (fun i hi => (rdC_rng hok f hi).2) (fun i hi => fn130e m f hok i hi)
    rw [← hbd] at o57
    rw [hbn]
    generalize bnD m f fr = BD at *
    have c100 := fn100 m f (gP (evA m f m.ws.length))
    generalize evA m f m.ws.length = PS at *
    refine W_exit ?_
    simp (maxSteps := 400000) (disch := omega) only [push_cast, ↓reduceIte, reduceCtorEq, Nat.reduceAdd, Nat.reduceSub, Nat.reduceEqDiff, Nat.reduceLeDiff, Nat.reduceLT, Nat.reduceBEq, Nat.reduceDiv, Nat.reduceMod, Nat.reducePow, Nat.reduceMul, Int.reduceToNat, Int.reduceLT, Int.reduceLE]
    repeat (first | refine WK_go ?_ | refine W_seqL ?_ | refine W_seq ?_ | refine W_block ?_)
    refine W_le (le_frzM 14 [2, 3, 4, 8, 12, 13] [31, 2, 20, 23] 33 25 b 3 (gP PS) (by rfl) (by rfl) (by rfl) (by rfl)) ?_
    simp (maxSteps := 400000) (disch := omega) only [push_cast, ↓reduceIte, reduceCtorEq, Nat.reduceAdd, Nat.reduceSub, Nat.reduceEqDiff, Nat.reduceLeDiff, Nat.reduceLT, Nat.reduceBEq, Nat.reduceDiv, Nat.reduceMod, Nat.reducePow, Nat.reduceMul, Int.reduceToNat, Int.reduceLT, Int.reduceLE]
    repeat' (first | refine WK_go ?_ | refine W_seqL ?_ | refine W_seq ?_ | refine W_block ?_ | refine W_scp ?_ | ((first | refine W_regS 5 (by decide) (by decide) ?_ | refine W_regL ?_ | refine W_skip ?_ | refine W_exit ?_ | refine CallC.now (c100) ?_); simp (maxSteps := 400000) (disch := omega) only [push_cast, ↓reduceIte, reduceCtorEq, Nat.reduceAdd, Nat.reduceSub, Nat.reduceEqDiff, Nat.reduceLeDiff, Nat.reduceLT, Nat.reduceBEq, Nat.reduceDiv, Nat.reduceMod, Nat.reducePow, Nat.reduceMul, Int.reduceToNat, Int.reduceLT, Int.reduceLE]) | refine And.intro (by omega) ?_ | refine And.intro (by intro hq; (try simp only [Bool.and_eq_true, Bool.or_eq_true, Bool.and_eq_false_iff, Bool.or_eq_false_iff, decide_eq_true_eq, decide_eq_false_iff_not, Bool.not_eq_true', Bool.not_eq_false', beq_iff_eq, beq_eq_false_iff_ne, ne_eq] at hq); omega) ?_ | (refine CallC.inl (Inl_of_FnO o57 (by rfl) ?_); simp (maxSteps := 400000) (disch := omega) only [push_cast, ↓reduceIte, reduceCtorEq, Nat.reduceAdd, Nat.reduceSub, Nat.reduceEqDiff, Nat.reduceLeDiff, Nat.reduceLT, Nat.reduceBEq, Nat.reduceDiv, Nat.reduceMod, Nat.reducePow, Nat.reduceMul, Int.reduceToNat, Int.reduceLT, Int.reduceLE]) | fail)
    have hlB := hDB.len
    obtain ⟨N, hN⟩ : ∃ N : Nat, m.n = N := ⟨m.n.toNat, by omega⟩
    rw [hN, Int.toNat_natCast] at hlB hDB ⊢
    have hbt := hDB.le (y := to.toNat) (by omega)
    refine ⟨by omega, by omega, ?_⟩
    generalize hh : gi BD to.toNat = MT at *
    have hh2 : BD.getD to.toNat 0 = MT := hh
    rw [hh2]
    repeat' (first | refine WK_go ?_ | refine W_seqL ?_ | refine W_seq ?_ | refine W_block ?_ | refine W_scp ?_ | ((first | refine W_regL ?_ | refine W_skip ?_ | refine W_exit ?_); simp (maxSteps := 400000) (disch := omega) only [push_cast, ↓reduceIte, reduceCtorEq, Nat.reduceAdd, Nat.reduceSub, Nat.reduceEqDiff, Nat.reduceLeDiff, Nat.reduceLT, Nat.reduceBEq, Nat.reduceDiv, Nat.reduceMod, Nat.reducePow, Nat.reduceMul, Int.reduceToNat, Int.reduceLT, Int.reduceLE, hlB]) | refine And.intro (by omega) ?_ | refine And.intro (by intro hq; (try simp only [Bool.and_eq_true, Bool.or_eq_true, Bool.and_eq_false_iff, Bool.or_eq_false_iff, decide_eq_true_eq, decide_eq_false_iff_not, Bool.not_eq_true', Bool.not_eq_false', beq_iff_eq, beq_eq_false_iff_ne, ne_eq] at hq); omega) ?_ | fail)
    refine W_loopU (fun z : Nat => [(116, iv z)]) (fun z => [(38, .row 0 2 1 0 cI (mnL BD MT z))]) (fun z => z ≤ N) (fun z => N - z) 0 (by omega) (by rfl) (by simp only [mnL, List.take_zero, List.map_nil, List.drop_zero, List.nil_append]; rfl) (fun z hz => ?_)
    have hml := mnL_len BD MT z
    rw [hlB] at hml
    simp (maxSteps := 400000) (disch := omega) only [push_cast, ↓reduceIte, reduceCtorEq, Nat.reduceAdd, Nat.reduceSub, Nat.reduceEqDiff, Nat.reduceLeDiff, Nat.reduceLT, Nat.reduceBEq, Nat.reduceDiv, Nat.reduceMod, Nat.reducePow, Nat.reduceMul, Int.reduceToNat, Int.reduceLT, Int.reduceLE]
    repeat' (first | refine WK_go ?_ | refine W_seqL ?_ | refine W_seq ?_ | refine W_block ?_ | refine W_scp ?_ | ((first | refine W_regL ?_ | refine W_skip ?_ | refine W_exit ?_); simp (maxSteps := 400000) (disch := omega) only [push_cast, ↓reduceIte, reduceCtorEq, Nat.reduceAdd, Nat.reduceSub, Nat.reduceEqDiff, Nat.reduceLeDiff, Nat.reduceLT, Nat.reduceBEq, Nat.reduceDiv, Nat.reduceMod, Nat.reducePow, Nat.reduceMul, Int.reduceToNat, Int.reduceLT, Int.reduceLE]) | refine And.intro (by omega) ?_ | refine And.intro (by intro hq; (try simp only [Bool.and_eq_true, Bool.or_eq_true, Bool.and_eq_false_iff, Bool.or_eq_false_iff, decide_eq_true_eq, decide_eq_false_iff_not, Bool.not_eq_true', Bool.not_eq_false', beq_iff_eq, beq_eq_false_iff_ne, ne_eq] at hq); omega) ?_ | fail)
    refine W_condD (by rfl) (fun h6 => ?_) (fun h6 => ?_)
    · have hlt : z < N := by omega
      have hma := mnL_at (x := MT) (show z < BD.length by omega)
      have hms := mnL_set (x := MT) (show z < BD.length by omega)
      have hbz := hDB.le hlt
      repeat' (first | refine WK_go ?_ | refine W_seqL ?_ | refine W_seq ?_ | refine W_block ?_ | refine W_scp ?_ | ((first | refine W_regL ?_ | refine W_skip ?_ | refine W_exit ?_); simp (maxSteps := 400000) (disch := omega) only [push_cast, ↓reduceIte, reduceCtorEq, Nat.reduceAdd, Nat.reduceSub, Nat.reduceEqDiff, Nat.reduceLeDiff, Nat.reduceLT, Nat.reduceBEq, Nat.reduceDiv, Nat.reduceMod, Nat.reducePow, Nat.reduceMul, Int.reduceToNat, Int.reduceLT, Int.reduceLE, hml, hma]) | refine And.intro (by omega) ?_ | refine And.intro (by intro hq; (try simp only [Bool.and_eq_true, Bool.or_eq_true, Bool.and_eq_false_iff, Bool.or_eq_false_iff, decide_eq_true_eq, decide_eq_false_iff_not, Bool.not_eq_true', Bool.not_eq_false', beq_iff_eq, beq_eq_false_iff_ne, ne_eq] at hq); omega) ?_ | fail)
      refine ⟨rfl, ⟨Nat.le_of_ble_eq_true rfl, rfl⟩, by omega, min (BD.getD z 0) MT, rfl, rfl, ?_⟩
      rw [hms]
      simp (maxSteps := 400000) (disch := omega) only [push_cast, ↓reduceIte, reduceCtorEq, Nat.reduceAdd, Nat.reduceSub, Nat.reduceEqDiff, Nat.reduceLeDiff, Nat.reduceLT, Nat.reduceBEq, Nat.reduceDiv, Nat.reduceMod, Nat.reducePow, Nat.reduceMul, Int.reduceToNat, Int.reduceLT, Int.reduceLE]
      repeat' (first | refine WK_go ?_ | refine W_seqL ?_ | refine W_seq ?_ | refine W_block ?_ | refine W_scp ?_ | ((first | refine W_regL ?_ | refine W_skip ?_ | refine W_exit ?_); simp (maxSteps := 400000) (disch := omega) only [push_cast, ↓reduceIte, reduceCtorEq, Nat.reduceAdd, Nat.reduceSub, Nat.reduceEqDiff, Nat.reduceLeDiff, Nat.reduceLT, Nat.reduceBEq, Nat.reduceDiv, Nat.reduceMod, Nat.reducePow, Nat.reduceMul, Int.reduceToNat, Int.reduceLT, Int.reduceLE]) | refine And.intro (by omega) ?_ | refine And.intro (by intro hq; (try simp only [Bool.and_eq_true, Bool.or_eq_true, Bool.and_eq_false_iff, Bool.or_eq_false_iff, decide_eq_true_eq, decide_eq_false_iff_not, Bool.not_eq_true', Bool.not_eq_false', beq_iff_eq, beq_eq_false_iff_ne, ne_eq] at hq); omega) ?_ | fail)
      refine ⟨z + 1, by omega, by omega, by rfl, ?_⟩
      simp (maxSteps := 400000) (disch := omega) only [push_cast, ↓reduceIte, reduceCtorEq, Nat.reduceAdd, Nat.reduceSub, Nat.reduceEqDiff, Nat.reduceLeDiff, Nat.reduceLT, Nat.reduceBEq, Nat.reduceDiv, Nat.reduceMod, Nat.reducePow, Nat.reduceMul, Int.reduceToNat, Int.reduceLT, Int.reduceLE, S.mk.injEq, List.cons.injEq, Prod.mk.injEq, AV.v.injEq, Value.int.injEq, Value.bool.injEq, Blk.cells.injEq]
    · rw [show z = N by omega]
      repeat' (first | refine WK_go ?_ | refine W_seqL ?_ | refine W_seq ?_ | refine W_block ?_ | refine W_scp ?_ | ((first | refine W_regL ?_ | refine W_skip ?_ | refine W_exit ?_); simp (maxSteps := 400000) (disch := omega) only [push_cast, ↓reduceIte, reduceCtorEq, Nat.reduceAdd, Nat.reduceSub, Nat.reduceEqDiff, Nat.reduceLeDiff, Nat.reduceLT, Nat.reduceBEq, Nat.reduceDiv, Nat.reduceMod, Nat.reducePow, Nat.reduceMul, Int.reduceToNat, Int.reduceLT, Int.reduceLE]) | refine And.intro (by omega) ?_ | refine And.intro (by intro hq; (try simp only [Bool.and_eq_true, Bool.or_eq_true, Bool.and_eq_false_iff, Bool.or_eq_false_iff, decide_eq_true_eq, decide_eq_false_iff_not, Bool.not_eq_true', Bool.not_eq_false', beq_iff_eq, beq_eq_false_iff_ne, ne_eq] at hq); omega) ?_ | fail)
      refine W_ret ⟨[_, _], ⟨⟨by simp, rfl⟩, rfl, rfl⟩, ?_⟩
      simp (maxSteps := 400000) (disch := omega) only [push_cast, ↓reduceIte, reduceCtorEq, Nat.reduceAdd, Nat.reduceSub, Nat.reduceEqDiff, Nat.reduceLeDiff, Nat.reduceLT, Nat.reduceBEq, Nat.reduceDiv, Nat.reduceMod, Nat.reducePow, Nat.reduceMul, Int.reduceToNat, Int.reduceLT, Int.reduceLE, pack]
      try rfl
end Go.Proofs.Ytfbdlmenhoagmaa

namespace Go.Proofs.Ytfbdlmenhoagmaa
open Go Sy
set_option maxRecDepth 100000
set_option maxHeartbeats 8000000
set_option linter.unusedVariables false
set_option linter.unusedSimpArgs false
end Go.Proofs.Ytfbdlmenhoagmaa

namespace Go.Proofs.Ytfbdlmenhoagmaa
open Go Sy
set_option maxRecDepth 100000
set_option maxHeartbeats 4000000
set_option linter.unusedVariables false
set_option linter.unusedSimpArgs false
end Go.Proofs.Ytfbdlmenhoagmaa

namespace Go.Proofs.Ytfbdlmenhoagmaa
open Go Sy
set_option maxRecDepth 100000
set_option maxHeartbeats 4000000
set_option linter.unusedVariables false
set_option linter.unusedSimpArgs false
theorem ch_no {m : Mp} {f : Nat → Int} {fr to : Int} (h : chE m f fr to ≠ 0) : chV m f fr to = none := by
  unfold chE at h
  unfold chV
  by_cases h0 : opE m f = 0
  · rw [if_pos h0] at h ⊢
    by_cases hp : plB m.n fr = true ∧ plB m.n to = true
    · rw [if_pos hp] at h ⊢
      rcases hb : bestS m f fr to with _ | p
      · rfl
      · rw [hb] at h; exact absurd rfl h
    · rw [if_neg hp]
  · rw [if_neg h0]
structure ChYes (m : Mp) (f : Nat → Int) (fr to : Int) (s : List Int) (n : Int) : Prop where
  v : chV m f fr to = some (s, n)
  b : bestS m f fr to = some (s, n)
  ok : OkM m
  z : szE f = 0
  f : 0 ≤ fr ∧ fr < m.n
  t : 0 ≤ to ∧ to < m.n
theorem ch_yes {m : Mp} {f : Nat → Int} {fr to : Int} (h : chE m f fr to = 0) : ∃ s n, ChYes m f fr to s n := by
  unfold chE at h
  by_cases h0 : opE m f = 0
  · rw [if_pos h0] at h
    by_cases hp : plB m.n fr = true ∧ plB m.n to = true
    · rw [if_pos hp] at h
      rcases hb : bestS m f fr to with _ | ⟨s, n⟩
      · rw [hb] at h; cases h
      · have hc : chkM m = 0 ∧ szE f = 0 := by
          unfold opE at h0
          by_cases q : chkM m = 0
          · rw [if_pos q] at h0; exact ⟨q, h0⟩
          · rw [if_neg q] at h0; exact absurd h0 q
        have hpr := hp
        unfold plB at hpr
        simp only [Bool.and_eq_true, decide_eq_true_eq] at hpr
        exact ⟨s, n, by unfold chV; rw [if_pos h0, if_pos hp, hb], hb, chkM_ok hc.1, hc.2, hpr.1, hpr.2⟩
    · rw [if_neg hp] at h; cases h
  · rw [if_neg h0] at h; exact absurd h h0
theorem rcV_len (m : Mp) (f : Nat → Int) (s : List Int) (a : Int) : (rcV m f s a).length ≤ 64 := by
  unfold rcV
  by_cases q : rcE m f s a = 0
  · rw [if_pos q]
    unfold rcE at q
    by_cases h0 : opE m f = 0
    · have hc : chkM m = 0 := by
        unfold opE at h0
        by_cases q : chkM m = 0
        · exact q
        · rw [if_neg q] at h0; exact absurd h0 q
      have hn := (chkM_ok hc).n
      unfold rcL
      have := List.length_filter_le (rcP m f s a) (evL m.n.toNat)
      rw [ev_len] at this
      omega
    · rw [if_neg h0] at q; exact absurd q h0
  · rw [if_neg q]; simp
theorem bnH_len {m : Mp} (h : OkM m) (f : Nat → Int) (fr to : Int) (hf : 0 ≤ fr ∧ fr < m.n) : ((bnH m f fr to).length : Int) = m.n := by
  obtain ⟨k1, k2⟩ := edgC_ok h false (c := rdC m f) (fun i hi => (rdC_rng h f hi).1)
  have hDB : Dst (edgC m false (rdC m f)) fr.toNat m.n.toNat (bnD m f fr) := dst_dst k1 (by omega)
  unfold bnH
  rw [mnL_len, hDB.len]
  omega
theorem fn10 (m : Mp) (f : Nat → Int) (st pl : List Int) (fr to : Int) (h : Big m) (hl : st.length ≤ 140737488355328) (hl2 : pl.length ≤ 140737488355328) : Sy.Fn Try.prog 10 [aM m, .agg (c6 f), aI st, aI pl, iv fr, iv to] (bv true) := by
  refine Fn_of_W mixed Xt10 rfl ?_
  have c25 := fn25 m h.r h.w h.s
  by_cases hg : greatB m = false ∧ st.length ≤ 100 ∧ pl.length ≤ 100
  rotate_left
  · repeat' (first | refine WK_go ?_ | refine W_seqL ?_ | refine W_seq ?_ | refine W_block ?_ | refine W_scp ?_ | ((first | refine W_regL ?_ | refine W_skip ?_ | refine W_exit ?_ | refine CallC.now (c25) ?_); simp (maxSteps := 400000) (disch := omega) only [push_cast, ↓reduceIte, reduceCtorEq, Nat.reduceAdd, Nat.reduceSub, Nat.reduceEqDiff, Nat.reduceLeDiff, Nat.reduceLT, Nat.reduceBEq, Nat.reduceDiv, Nat.reduceMod, Nat.reducePow, Nat.reduceMul, Int.reduceToNat, Int.reduceLT, Int.reduceLE]) | refine And.intro (by omega) ?_ | refine And.intro (by intro hq; (try simp only [Bool.and_eq_true, Bool.or_eq_true, Bool.and_eq_false_iff, Bool.or_eq_false_iff, decide_eq_true_eq, decide_eq_false_iff_not, Bool.not_eq_true', Bool.not_eq_false', beq_iff_eq, beq_eq_false_iff_ne, ne_eq] at hq); omega) ?_ | fail)
    refine W_cond (by rfl) (fun _ => ?_) (fun hz => ?_)
    · repeat' (first | refine WK_go ?_ | refine W_seqL ?_ | refine W_seq ?_ | refine W_block ?_ | refine W_scp ?_ | ((first | refine W_regL ?_ | refine W_skip ?_ | refine W_exit ?_ | refine CallC.now (fn14) ?_); simp (maxSteps := 400000) (disch := omega) only [push_cast, ↓reduceIte, reduceCtorEq, Nat.reduceAdd, Nat.reduceSub, Nat.reduceEqDiff, Nat.reduceLeDiff, Nat.reduceLT, Nat.reduceBEq, Nat.reduceDiv, Nat.reduceMod, Nat.reducePow, Nat.reduceMul, Int.reduceToNat, Int.reduceLT, Int.reduceLE]) | refine And.intro (by omega) ?_ | refine And.intro (by intro hq; (try simp only [Bool.and_eq_true, Bool.or_eq_true, Bool.and_eq_false_iff, Bool.or_eq_false_iff, decide_eq_true_eq, decide_eq_false_iff_not, Bool.not_eq_true', Bool.not_eq_false', beq_iff_eq, beq_eq_false_iff_ne, ne_eq] at hq); omega) ?_ | fail)
      exact W_ret ⟨[_], ⟨rfl, rfl⟩, rfl⟩
    · rw [Bool.or_eq_false_iff, Bool.or_eq_false_iff, decide_eq_false_iff_not, decide_eq_false_iff_not] at hz
      exact absurd ⟨hz.1.1, by omega, by omega⟩ hg
  obtain ⟨h0, hs1, hr1⟩ := hg
  obtain ⟨hm, hlow⟩ := great_no h0
  rw [h0] at c25
  have d1 : decide ((100 : Int) < st.length) = false := decide_eq_false (by omega)
  have d2 : decide ((100 : Int) < pl.length) = false := decide_eq_false (by omega)
  have n3 : ∀ x : Int, (x == x) = true := fun x => by simp
  have n4 : ∀ x : Int, (x != x) = false := fun x => by simp
  have c15 := fn15 m f fr to hm
  have c40 := fn40 m f fr to hm
  have c39 := fn39 m f fr to hm
  have c41 := fn41 m f fr to hm
  have c24 := fn24 m f st fr hm (by omega)
  have c43 := fn43 m f st fr hm (by omega)
  have c23 := fn23 m f fr to pl hm (by omega)
  have c44 := fn44 m f fr to pl hm (by omega)
  have hrl := rcV_len m f st fr
  have c33r := fn33 (rcV m f st fr) (rcV m f st fr) (by omega) (by omega)
  have dRR : decide (rcV m f st fr = rcV m f st fr) = true := decide_eq_true rfl
  rw [dRR] at c33r
  generalize rcV m f st fr = RV at *
  generalize rcE m f st fr = RE at *
  generalize ctE m f fr to pl = CE at *
  by_cases hE : chE m f fr to = 0
  rotate_left
  · have hb : bnV m f fr to = [.v (.slice none 0 0), .v (.slice none 0 0)] := by unfold bnV; rw [if_neg hE]
    rw [ch_no hE] at c15 c40
    rw [hb] at c39 c41
    unfold rtC zRt at c15 c40
    have c33n : Sy.Fn Try.prog 33 [.v (.slice none 0 0), .v (.slice none 0 0)] (bv true) := Fn_nil (pre := []) (Fn_nil (pre := [aI []]) (fn33 [] [] (by simp) (by simp)))
    have c42n : Sy.Fn Try.prog 42 [.v (.slice none 0 0), .v (.slice none 0 0)] (bv true) := Fn_nil (pre := []) (Fn_nil (pre := [aI []]) (fn42 [] [] (by simp) (by simp)))
    generalize chE m f fr to = E at *
    repeat' (first | refine WK_go ?_ | refine W_seqL ?_ | refine W_seq ?_ | refine W_block ?_ | refine W_scp ?_ | ((first | refine W_regL ?_ | refine W_skip ?_ | refine W_exit ?_ | refine CallC.now (c25) ?_); simp (maxSteps := 400000) (disch := omega) only [push_cast, ↓reduceIte, reduceCtorEq, Nat.reduceAdd, Nat.reduceSub, Nat.reduceEqDiff, Nat.reduceLeDiff, Nat.reduceLT, Nat.reduceBEq, Nat.reduceDiv, Nat.reduceMod, Nat.reducePow, Nat.reduceMul, Int.reduceToNat, Int.reduceLT, Int.reduceLE, d1, d2]) | refine And.intro (by omega) ?_ | refine And.intro (by intro hq; (try simp only [Bool.and_eq_true, Bool.or_eq_true, Bool.and_eq_false_iff, Bool.or_eq_false_iff, decide_eq_true_eq, decide_eq_false_iff_not, Bool.not_eq_true', Bool.not_eq_false', beq_iff_eq, beq_eq_false_iff_ne, ne_eq] at hq); omega) ?_ | fail)
    refine W_cond (by rfl) (fun h => by simp at h) (fun _ => ?_)
    repeat' (first | refine WK_go ?_ | refine W_seqL ?_ | refine W_seq ?_ | refine W_block ?_ | refine W_scp ?_ | ((first | refine W_regL ?_ | refine W_skip ?_ | refine W_exit ?_ | refine CallC.now (c15) ?_); simp (maxSteps := 400000) (disch := omega) only [push_cast, ↓reduceIte, reduceCtorEq, Nat.reduceAdd, Nat.reduceSub, Nat.reduceEqDiff, Nat.reduceLeDiff, Nat.reduceLT, Nat.reduceBEq, Nat.reduceDiv, Nat.reduceMod, Nat.reducePow, Nat.reduceMul, Int.reduceToNat, Int.reduceLT, Int.reduceLE]) | refine And.intro (by omega) ?_ | refine And.intro (by intro hq; (try simp only [Bool.and_eq_true, Bool.or_eq_true, Bool.and_eq_false_iff, Bool.or_eq_false_iff, decide_eq_true_eq, decide_eq_false_iff_not, Bool.not_eq_true', Bool.not_eq_false', beq_iff_eq, beq_eq_false_iff_ne, ne_eq] at hq); omega) ?_ | fail)
    repeat' (first | refine WK_go ?_ | refine W_seqL ?_ | refine W_seq ?_ | refine W_block ?_ | refine W_scp ?_ | ((first | refine W_regL ?_ | refine W_skip ?_ | refine W_exit ?_ | refine CallC.now (c40) ?_); simp (maxSteps := 400000) (disch := omega) only [push_cast, ↓reduceIte, reduceCtorEq, Nat.reduceAdd, Nat.reduceSub, Nat.reduceEqDiff, Nat.reduceLeDiff, Nat.reduceLT, Nat.reduceBEq, Nat.reduceDiv, Nat.reduceMod, Nat.reducePow, Nat.reduceMul, Int.reduceToNat, Int.reduceLT, Int.reduceLE]) | refine And.intro (by omega) ?_ | refine And.intro (by intro hq; (try simp only [Bool.and_eq_true, Bool.or_eq_true, Bool.and_eq_false_iff, Bool.or_eq_false_iff, decide_eq_true_eq, decide_eq_false_iff_not, Bool.not_eq_true', Bool.not_eq_false', beq_iff_eq, beq_eq_false_iff_ne, ne_eq] at hq); omega) ?_ | fail)
    repeat' (first | refine WK_go ?_ | refine W_seqL ?_ | refine W_seq ?_ | refine W_block ?_ | refine W_scp ?_ | ((first | refine W_regL ?_ | refine W_skip ?_ | refine W_exit ?_ | refine CallC.go _ (fun _ => ⟨trivial, c33n⟩) rfl ?_); simp (maxSteps := 400000) (disch := omega) only [push_cast, ↓reduceIte, reduceCtorEq, Nat.reduceAdd, Nat.reduceSub, Nat.reduceEqDiff, Nat.reduceLeDiff, Nat.reduceLT, Nat.reduceBEq, Nat.reduceDiv, Nat.reduceMod, Nat.reducePow, Nat.reduceMul, Int.reduceToNat, Int.reduceLT, Int.reduceLE, n4, bne_self_eq_false]) | refine And.intro (by omega) ?_ | refine And.intro (by intro hq; (try simp only [Bool.and_eq_true, Bool.or_eq_true, Bool.and_eq_false_iff, Bool.or_eq_false_iff, decide_eq_true_eq, decide_eq_false_iff_not, Bool.not_eq_true', Bool.not_eq_false', beq_iff_eq, beq_eq_false_iff_ne, ne_eq] at hq); omega) ?_ | fail)
    refine W_cond (by rfl) (fun h => by cases h) (fun _ => ?_)
    repeat' (first | refine WK_go ?_ | refine W_seqL ?_ | refine W_seq ?_ | refine W_block ?_ | refine W_scp ?_ | ((first | refine W_regL ?_ | refine W_skip ?_ | refine W_exit ?_ | refine CallC.now (c39) ?_); simp (maxSteps := 400000) (disch := omega) only [push_cast, ↓reduceIte, reduceCtorEq, Nat.reduceAdd, Nat.reduceSub, Nat.reduceEqDiff, Nat.reduceLeDiff, Nat.reduceLT, Nat.reduceBEq, Nat.reduceDiv, Nat.reduceMod, Nat.reducePow, Nat.reduceMul, Int.reduceToNat, Int.reduceLT, Int.reduceLE]) | refine And.intro (by omega) ?_ | refine And.intro (by intro hq; (try simp only [Bool.and_eq_true, Bool.or_eq_true, Bool.and_eq_false_iff, Bool.or_eq_false_iff, decide_eq_true_eq, decide_eq_false_iff_not, Bool.not_eq_true', Bool.not_eq_false', beq_iff_eq, beq_eq_false_iff_ne, ne_eq] at hq); omega) ?_ | fail)
    repeat' (first | refine WK_go ?_ | refine W_seqL ?_ | refine W_seq ?_ | refine W_block ?_ | refine W_scp ?_ | ((first | refine W_regL ?_ | refine W_skip ?_ | refine W_exit ?_ | refine CallC.now (c41) ?_); simp (maxSteps := 400000) (disch := omega) only [push_cast, ↓reduceIte, reduceCtorEq, Nat.reduceAdd, Nat.reduceSub, Nat.reduceEqDiff, Nat.reduceLeDiff, Nat.reduceLT, Nat.reduceBEq, Nat.reduceDiv, Nat.reduceMod, Nat.reducePow, Nat.reduceMul, Int.reduceToNat, Int.reduceLT, Int.reduceLE]) | refine And.intro (by omega) ?_ | refine And.intro (by intro hq; (try simp only [Bool.and_eq_true, Bool.or_eq_true, Bool.and_eq_false_iff, Bool.or_eq_false_iff, decide_eq_true_eq, decide_eq_false_iff_not, Bool.not_eq_true', Bool.not_eq_false', beq_iff_eq, beq_eq_false_iff_ne, ne_eq] at hq); omega) ?_ | fail)
    repeat' (first | refine WK_go ?_ | refine W_seqL ?_ | refine W_seq ?_ | refine W_block ?_ | refine W_scp ?_ | ((first | refine W_regL ?_ | refine W_skip ?_ | refine W_exit ?_ | refine CallC.go _ (fun _ => ⟨trivial, c42n⟩) rfl ?_); simp (maxSteps := 400000) (disch := omega) only [push_cast, ↓reduceIte, reduceCtorEq, Nat.reduceAdd, Nat.reduceSub, Nat.reduceEqDiff, Nat.reduceLeDiff, Nat.reduceLT, Nat.reduceBEq, Nat.reduceDiv, Nat.reduceMod, Nat.reducePow, Nat.reduceMul, Int.reduceToNat, Int.reduceLT, Int.reduceLE, n4, bne_self_eq_false]) | refine And.intro (by omega) ?_ | refine And.intro (by intro hq; (try simp only [Bool.and_eq_true, Bool.or_eq_true, Bool.and_eq_false_iff, Bool.or_eq_false_iff, decide_eq_true_eq, decide_eq_false_iff_not, Bool.not_eq_true', Bool.not_eq_false', beq_iff_eq, beq_eq_false_iff_ne, ne_eq] at hq); omega) ?_ | fail)
    refine W_cond (by rfl) (fun h => by simp at h) (fun _ => ?_)
    repeat' (first | refine WK_go ?_ | refine W_seqL ?_ | refine W_seq ?_ | refine W_block ?_ | refine W_scp ?_ | ((first | refine W_regL ?_ | refine W_skip ?_ | refine W_exit ?_); simp (maxSteps := 400000) (disch := omega) only [push_cast, ↓reduceIte, reduceCtorEq, Nat.reduceAdd, Nat.reduceSub, Nat.reduceEqDiff, Nat.reduceLeDiff, Nat.reduceLT, Nat.reduceBEq, Nat.reduceDiv, Nat.reduceMod, Nat.reducePow, Nat.reduceMul, Int.reduceToNat, Int.reduceLT, Int.reduceLE]) | refine And.intro (by omega) ?_ | refine And.intro (by intro hq; (try simp only [Bool.and_eq_true, Bool.or_eq_true, Bool.and_eq_false_iff, Bool.or_eq_false_iff, decide_eq_true_eq, decide_eq_false_iff_not, Bool.not_eq_true', Bool.not_eq_false', beq_iff_eq, beq_eq_false_iff_ne, ne_eq] at hq); omega) ?_ | fail)
    refine W_loopU (fun z : Nat => [(19, iv z)]) (fun z => []) (fun z => z = 0) (fun z => 0) 0 rfl (by rfl) (by rfl) (fun z hz => ?_)
    simp (maxSteps := 400000) (disch := omega) only [push_cast, ↓reduceIte, reduceCtorEq, Nat.reduceAdd, Nat.reduceSub, Nat.reduceEqDiff, Nat.reduceLeDiff, Nat.reduceLT, Nat.reduceBEq, Nat.reduceDiv, Nat.reduceMod, Nat.reducePow, Nat.reduceMul, Int.reduceToNat, Int.reduceLT, Int.reduceLE]
    repeat' (first | refine WK_go ?_ | refine W_seqL ?_ | refine W_seq ?_ | refine W_block ?_ | refine W_scp ?_ | ((first | refine W_regL ?_ | refine W_skip ?_ | refine W_exit ?_); simp (maxSteps := 400000) (disch := omega) only [push_cast, ↓reduceIte, reduceCtorEq, Nat.reduceAdd, Nat.reduceSub, Nat.reduceEqDiff, Nat.reduceLeDiff, Nat.reduceLT, Nat.reduceBEq, Nat.reduceDiv, Nat.reduceMod, Nat.reducePow, Nat.reduceMul, Int.reduceToNat, Int.reduceLT, Int.reduceLE]) | refine And.intro (by omega) ?_ | refine And.intro (by intro hq; (try simp only [Bool.and_eq_true, Bool.or_eq_true, Bool.and_eq_false_iff, Bool.or_eq_false_iff, decide_eq_true_eq, decide_eq_false_iff_not, Bool.not_eq_true', Bool.not_eq_false', beq_iff_eq, beq_eq_false_iff_ne, ne_eq] at hq); omega) ?_ | fail)
    refine W_condD (by rfl) (fun h6 => absurd h6 (by omega)) (fun h6 => ?_)
    repeat' (first | refine WK_go ?_ | refine W_seqL ?_ | refine W_seq ?_ | refine W_block ?_ | refine W_scp ?_ | ((first | refine W_regL ?_ | refine W_skip ?_ | refine W_exit ?_ | refine CallC.now (c24) ?_); simp (maxSteps := 400000) (disch := omega) only [push_cast, ↓reduceIte, reduceCtorEq, Nat.reduceAdd, Nat.reduceSub, Nat.reduceEqDiff, Nat.reduceLeDiff, Nat.reduceLT, Nat.reduceBEq, Nat.reduceDiv, Nat.reduceMod, Nat.reducePow, Nat.reduceMul, Int.reduceToNat, Int.reduceLT, Int.reduceLE]) | refine And.intro (by omega) ?_ | refine And.intro (by intro hq; (try simp only [Bool.and_eq_true, Bool.or_eq_true, Bool.and_eq_false_iff, Bool.or_eq_false_iff, decide_eq_true_eq, decide_eq_false_iff_not, Bool.not_eq_true', Bool.not_eq_false', beq_iff_eq, beq_eq_false_iff_ne, ne_eq] at hq); omega) ?_ | fail)
    repeat' (first | refine WK_go ?_ | refine W_seqL ?_ | refine W_seq ?_ | refine W_block ?_ | refine W_scp ?_ | ((first | refine W_regL ?_ | refine W_skip ?_ | refine W_exit ?_ | refine CallC.now (c43) ?_); simp (maxSteps := 400000) (disch := omega) only [push_cast, ↓reduceIte, reduceCtorEq, Nat.reduceAdd, Nat.reduceSub, Nat.reduceEqDiff, Nat.reduceLeDiff, Nat.reduceLT, Nat.reduceBEq, Nat.reduceDiv, Nat.reduceMod, Nat.reducePow, Nat.reduceMul, Int.reduceToNat, Int.reduceLT, Int.reduceLE]) | refine And.intro (by omega) ?_ | refine And.intro (by intro hq; (try simp only [Bool.and_eq_true, Bool.or_eq_true, Bool.and_eq_false_iff, Bool.or_eq_false_iff, decide_eq_true_eq, decide_eq_false_iff_not, Bool.not_eq_true', Bool.not_eq_false', beq_iff_eq, beq_eq_false_iff_ne, ne_eq] at hq); omega) ?_ | fail)
    repeat' (first | refine WK_go ?_ | refine W_seqL ?_ | refine W_seq ?_ | refine W_block ?_ | refine W_scp ?_ | ((first | refine W_regL ?_ | refine W_skip ?_ | refine W_exit ?_ | refine CallC.now (c33r) ?_ | refine CallC.go _ (fun _ => ⟨trivial, c23⟩) rfl ?_ | refine CallC.go _ (fun _ => ⟨trivial, c44⟩) rfl ?_ | refine CallC.go _ (fun _ => ⟨trivial, fn14⟩) rfl ?_); simp (maxSteps := 400000) (disch := omega) only [push_cast, ↓reduceIte, reduceCtorEq, Nat.reduceAdd, Nat.reduceSub, Nat.reduceEqDiff, Nat.reduceLeDiff, Nat.reduceLT, Nat.reduceBEq, Nat.reduceDiv, Nat.reduceMod, Nat.reducePow, Nat.reduceMul, Int.reduceToNat, Int.reduceLT, Int.reduceLE, n3, dRR]) | refine And.intro (by omega) ?_ | refine And.intro (by intro hq; (try simp only [Bool.and_eq_true, Bool.or_eq_true, Bool.and_eq_false_iff, Bool.or_eq_false_iff, decide_eq_true_eq, decide_eq_false_iff_not, Bool.not_eq_true', Bool.not_eq_false', beq_iff_eq, beq_eq_false_iff_ne, ne_eq] at hq); omega) ?_ | fail)
    exact W_ret ⟨[_], ⟨rfl, rfl⟩, rfl⟩
  · obtain ⟨s, n, Y⟩ := ch_yes hE
    have hb : bnV m f fr to = cBd (evA m f m.ws.length) (bnH m f fr to) := by unfold bnV; rw [if_pos hE]
    rw [Y.v, hE] at c15 c40
    rw [hb, hE] at c39 c41
    have c15 : Sy.Fn Try.prog 15 [aM m, .agg (c6 f), iv fr, iv to] (.tup [.agg (cRt (wayS m f fr to s) s n (minL m (wayS m f fr to s))), iv 0]) := c15
    have c40 : Sy.Fn Try.prog 40 [aM m, .agg (c6 f), iv fr, iv to] (.tup [.agg (cRt (wayS m f fr to s) s n (minL m (wayS m f fr to s))), iv 0]) := c40
    unfold cRt at c15 c40
    unfold cBd at c39 c41
    obtain ⟨w1, w2, w3, w4, w5⟩ := best_way Y.ok Y.f Y.t Y.b
    have hsl := w1.len (by omega)
    have hnw := Y.ok.nw
    have hnr := Y.ok.nr
    have hBl := bnH_len Y.ok f fr to Y.f
    have hmn := Y.ok.n
    have hPl := Nat.le_trans (evA_len m f m.ws.length) (Nat.mul_le_mul (Nat.mul_le_mul (Nat.le_refl 6) hnr) hnw)
    have c33w := fn33 (wayS m f fr to s) (wayS m f fr to s) (by omega) (by omega)
    have c33s := fn33 s s (by omega) (by omega)
    have c42b := fn42 (bnH m f fr to) (bnH m f fr to) (by omega) (by omega)
    rw [decide_eq_true rfl] at c33w c33s c42b
    generalize wayS m f fr to s = WS at *
    generalize minL m WS = ML at *
    generalize bnH m f fr to = BH at *
    generalize evA m f m.ws.length = PS at *
    repeat' (first | refine WK_go ?_ | refine W_seqL ?_ | refine W_seq ?_ | refine W_block ?_ | refine W_scp ?_ | ((first | refine W_regL ?_ | refine W_skip ?_ | refine W_exit ?_ | refine CallC.now (c25) ?_); simp (maxSteps := 400000) (disch := omega) only [push_cast, ↓reduceIte, reduceCtorEq, Nat.reduceAdd, Nat.reduceSub, Nat.reduceEqDiff, Nat.reduceLeDiff, Nat.reduceLT, Nat.reduceBEq, Nat.reduceDiv, Nat.reduceMod, Nat.reducePow, Nat.reduceMul, Int.reduceToNat, Int.reduceLT, Int.reduceLE, d1, d2]) | refine And.intro (by omega) ?_ | refine And.intro (by intro hq; (try simp only [Bool.and_eq_true, Bool.or_eq_true, Bool.and_eq_false_iff, Bool.or_eq_false_iff, decide_eq_true_eq, decide_eq_false_iff_not, Bool.not_eq_true', Bool.not_eq_false', beq_iff_eq, beq_eq_false_iff_ne, ne_eq] at hq); omega) ?_ | fail)
    refine W_cond (by rfl) (fun h => by simp at h) (fun _ => ?_)
    repeat' (first | refine WK_go ?_ | refine W_seqL ?_ | refine W_seq ?_ | refine W_block ?_ | refine W_scp ?_ | ((first | refine W_regL ?_ | refine W_skip ?_ | refine W_exit ?_ | refine CallC.now (c15) ?_); simp (maxSteps := 400000) (disch := omega) only [push_cast, ↓reduceIte, reduceCtorEq, Nat.reduceAdd, Nat.reduceSub, Nat.reduceEqDiff, Nat.reduceLeDiff, Nat.reduceLT, Nat.reduceBEq, Nat.reduceDiv, Nat.reduceMod, Nat.reducePow, Nat.reduceMul, Int.reduceToNat, Int.reduceLT, Int.reduceLE]) | refine And.intro (by omega) ?_ | refine And.intro (by intro hq; (try simp only [Bool.and_eq_true, Bool.or_eq_true, Bool.and_eq_false_iff, Bool.or_eq_false_iff, decide_eq_true_eq, decide_eq_false_iff_not, Bool.not_eq_true', Bool.not_eq_false', beq_iff_eq, beq_eq_false_iff_ne, ne_eq] at hq); omega) ?_ | fail)
    repeat' (first | refine WK_go ?_ | refine W_seqL ?_ | refine W_seq ?_ | refine W_block ?_ | refine W_scp ?_ | ((first | refine W_regL ?_ | refine W_skip ?_ | refine W_exit ?_ | refine CallC.now (c40) ?_); simp (maxSteps := 400000) (disch := omega) only [push_cast, ↓reduceIte, reduceCtorEq, Nat.reduceAdd, Nat.reduceSub, Nat.reduceEqDiff, Nat.reduceLeDiff, Nat.reduceLT, Nat.reduceBEq, Nat.reduceDiv, Nat.reduceMod, Nat.reducePow, Nat.reduceMul, Int.reduceToNat, Int.reduceLT, Int.reduceLE]) | refine And.intro (by omega) ?_ | refine And.intro (by intro hq; (try simp only [Bool.and_eq_true, Bool.or_eq_true, Bool.and_eq_false_iff, Bool.or_eq_false_iff, decide_eq_true_eq, decide_eq_false_iff_not, Bool.not_eq_true', Bool.not_eq_false', beq_iff_eq, beq_eq_false_iff_ne, ne_eq] at hq); omega) ?_ | fail)
    repeat' (first | refine WK_go ?_ | refine W_seqL ?_ | refine W_seq ?_ | refine W_block ?_ | refine W_scp ?_ | ((first | refine W_regL ?_ | refine W_skip ?_ | refine W_exit ?_ | refine CallC.go _ (fun _ => ⟨trivial, c33w⟩) rfl ?_ | refine CallC.go _ (fun _ => ⟨trivial, c33s⟩) rfl ?_); simp (maxSteps := 400000) (disch := omega) only [push_cast, ↓reduceIte, reduceCtorEq, Nat.reduceAdd, Nat.reduceSub, Nat.reduceEqDiff, Nat.reduceLeDiff, Nat.reduceLT, Nat.reduceBEq, Nat.reduceDiv, Nat.reduceMod, Nat.reducePow, Nat.reduceMul, Int.reduceToNat, Int.reduceLT, Int.reduceLE, n4, bne_self_eq_false]) | refine And.intro (by omega) ?_ | refine And.intro (by intro hq; (try simp only [Bool.and_eq_true, Bool.or_eq_true, Bool.and_eq_false_iff, Bool.or_eq_false_iff, decide_eq_true_eq, decide_eq_false_iff_not, Bool.not_eq_true', Bool.not_eq_false', beq_iff_eq, beq_eq_false_iff_ne, ne_eq] at hq); omega) ?_ | fail)
    refine W_cond (by rfl) (fun h => by simp at h) (fun _ => ?_)
    repeat' (first | refine WK_go ?_ | refine W_seqL ?_ | refine W_seq ?_ | refine W_block ?_ | refine W_scp ?_ | ((first | refine W_regL ?_ | refine W_skip ?_ | refine W_exit ?_ | refine CallC.now (c39) ?_); simp (maxSteps := 400000) (disch := omega) only [push_cast, ↓reduceIte, reduceCtorEq, Nat.reduceAdd, Nat.reduceSub, Nat.reduceEqDiff, Nat.reduceLeDiff, Nat.reduceLT, Nat.reduceBEq, Nat.reduceDiv, Nat.reduceMod, Nat.reducePow, Nat.reduceMul, Int.reduceToNat, Int.reduceLT, Int.reduceLE]) | refine And.intro (by omega) ?_ | refine And.intro (by intro hq; (try simp only [Bool.and_eq_true, Bool.or_eq_true, Bool.and_eq_false_iff, Bool.or_eq_false_iff, decide_eq_true_eq, decide_eq_false_iff_not, Bool.not_eq_true', Bool.not_eq_false', beq_iff_eq, beq_eq_false_iff_ne, ne_eq] at hq); omega) ?_ | fail)
    repeat' (first | refine WK_go ?_ | refine W_seqL ?_ | refine W_seq ?_ | refine W_block ?_ | refine W_scp ?_ | ((first | refine W_regL ?_ | refine W_skip ?_ | refine W_exit ?_ | refine CallC.now (c41) ?_); simp (maxSteps := 400000) (disch := omega) only [push_cast, ↓reduceIte, reduceCtorEq, Nat.reduceAdd, Nat.reduceSub, Nat.reduceEqDiff, Nat.reduceLeDiff, Nat.reduceLT, Nat.reduceBEq, Nat.reduceDiv, Nat.reduceMod, Nat.reducePow, Nat.reduceMul, Int.reduceToNat, Int.reduceLT, Int.reduceLE]) | refine And.intro (by omega) ?_ | refine And.intro (by intro hq; (try simp only [Bool.and_eq_true, Bool.or_eq_true, Bool.and_eq_false_iff, Bool.or_eq_false_iff, decide_eq_true_eq, decide_eq_false_iff_not, Bool.not_eq_true', Bool.not_eq_false', beq_iff_eq, beq_eq_false_iff_ne, ne_eq] at hq); omega) ?_ | fail)
    repeat' (first | refine WK_go ?_ | refine W_seqL ?_ | refine W_seq ?_ | refine W_block ?_ | refine W_scp ?_ | ((first | refine W_regL ?_ | refine W_skip ?_ | refine W_exit ?_ | refine CallC.go _ (fun _ => ⟨trivial, c42b⟩) rfl ?_); simp (maxSteps := 400000) (disch := omega) only [push_cast, ↓reduceIte, reduceCtorEq, Nat.reduceAdd, Nat.reduceSub, Nat.reduceEqDiff, Nat.reduceLeDiff, Nat.reduceLT, Nat.reduceBEq, Nat.reduceDiv, Nat.reduceMod, Nat.reducePow, Nat.reduceMul, Int.reduceToNat, Int.reduceLT, Int.reduceLE, n4, bne_self_eq_false]) | refine And.intro (by omega) ?_ | refine And.intro (by intro hq; (try simp only [Bool.and_eq_true, Bool.or_eq_true, Bool.and_eq_false_iff, Bool.or_eq_false_iff, decide_eq_true_eq, decide_eq_false_iff_not, Bool.not_eq_true', Bool.not_eq_false', beq_iff_eq, beq_eq_false_iff_ne, ne_eq] at hq); omega) ?_ | fail)
    refine W_cond (by rfl) (fun h => by simp at h) (fun _ => ?_)
    repeat' (first | refine WK_go ?_ | refine W_seqL ?_ | refine W_seq ?_ | refine W_block ?_ | refine W_scp ?_ | ((first | refine W_regL ?_ | refine W_skip ?_ | refine W_exit ?_); simp (maxSteps := 400000) (disch := omega) only [push_cast, ↓reduceIte, reduceCtorEq, Nat.reduceAdd, Nat.reduceSub, Nat.reduceEqDiff, Nat.reduceLeDiff, Nat.reduceLT, Nat.reduceBEq, Nat.reduceDiv, Nat.reduceMod, Nat.reducePow, Nat.reduceMul, Int.reduceToNat, Int.reduceLT, Int.reduceLE]) | refine And.intro (by omega) ?_ | refine And.intro (by intro hq; (try simp only [Bool.and_eq_true, Bool.or_eq_true, Bool.and_eq_false_iff, Bool.or_eq_false_iff, decide_eq_true_eq, decide_eq_false_iff_not, Bool.not_eq_true', Bool.not_eq_false', beq_iff_eq, beq_eq_false_iff_ne, ne_eq] at hq); omega) ?_ | fail)
    refine W_loopU (fun z : Nat => [(19, iv z)]) (fun z => []) (fun z => z ≤ PS.length) (fun z => PS.length - z) 0 (by omega) (by rfl) (by rfl) (fun z hz => ?_)
    simp (maxSteps := 400000) (disch := omega) only [push_cast, ↓reduceIte, reduceCtorEq, Nat.reduceAdd, Nat.reduceSub, Nat.reduceEqDiff, Nat.reduceLeDiff, Nat.reduceLT, Nat.reduceBEq, Nat.reduceDiv, Nat.reduceMod, Nat.reducePow, Nat.reduceMul, Int.reduceToNat, Int.reduceLT, Int.reduceLE]
    repeat' (first | refine WK_go ?_ | refine W_seqL ?_ | refine W_seq ?_ | refine W_block ?_ | refine W_scp ?_ | ((first | refine W_regL ?_ | refine W_skip ?_ | refine W_exit ?_); simp (maxSteps := 400000) (disch := omega) only [push_cast, ↓reduceIte, reduceCtorEq, Nat.reduceAdd, Nat.reduceSub, Nat.reduceEqDiff, Nat.reduceLeDiff, Nat.reduceLT, Nat.reduceBEq, Nat.reduceDiv, Nat.reduceMod, Nat.reducePow, Nat.reduceMul, Int.reduceToNat, Int.reduceLT, Int.reduceLE]) | refine And.intro (by omega) ?_ | refine And.intro (by intro hq; (try simp only [Bool.and_eq_true, Bool.or_eq_true, Bool.and_eq_false_iff, Bool.or_eq_false_iff, decide_eq_true_eq, decide_eq_false_iff_not, Bool.not_eq_true', Bool.not_eq_false', beq_iff_eq, beq_eq_false_iff_ne, ne_eq] at hq); omega) ?_ | fail)
    refine W_condD (by rfl) (fun h6 => ?_) (fun h6 => ?_)
    · obtain ⟨⟨x1, x2, x3, x4⟩, hX⟩ : ∃ X, PS.getD z dP = X := ⟨_, rfl⟩
      repeat' (first | refine WK_go ?_ | refine W_seqL ?_ | refine W_seq ?_ | refine W_block ?_ | refine W_scp ?_ | ((first | refine W_regL ?_ | refine W_skip ?_ | refine W_exit ?_); simp (maxSteps := 400000) (disch := omega) only [push_cast, ↓reduceIte, reduceCtorEq, Nat.reduceAdd, Nat.reduceSub, Nat.reduceEqDiff, Nat.reduceLeDiff, Nat.reduceLT, Nat.reduceBEq, Nat.reduceDiv, Nat.reduceMod, Nat.reducePow, Nat.reduceMul, Int.reduceToNat, Int.reduceLT, Int.reduceLE, hX, cP, n3]) | refine And.intro (by omega) ?_ | refine And.intro (by intro hq; (try simp only [Bool.and_eq_true, Bool.or_eq_true, Bool.and_eq_false_iff, Bool.or_eq_false_iff, decide_eq_true_eq, decide_eq_false_iff_not, Bool.not_eq_true', Bool.not_eq_false', beq_iff_eq, beq_eq_false_iff_ne, ne_eq] at hq); omega) ?_ | fail)
      refine W_cond (by rfl) (fun h => by simp at h) (fun _ => ?_)
      repeat' (first | refine WK_go ?_ | refine W_seqL ?_ | refine W_seq ?_ | refine W_block ?_ | refine W_scp ?_ | ((first | refine W_regL ?_ | refine W_skip ?_ | refine W_exit ?_); simp (maxSteps := 400000) (disch := omega) only [push_cast, ↓reduceIte, reduceCtorEq, Nat.reduceAdd, Nat.reduceSub, Nat.reduceEqDiff, Nat.reduceLeDiff, Nat.reduceLT, Nat.reduceBEq, Nat.reduceDiv, Nat.reduceMod, Nat.reducePow, Nat.reduceMul, Int.reduceToNat, Int.reduceLT, Int.reduceLE]) | refine And.intro (by omega) ?_ | refine And.intro (by intro hq; (try simp only [Bool.and_eq_true, Bool.or_eq_true, Bool.and_eq_false_iff, Bool.or_eq_false_iff, decide_eq_true_eq, decide_eq_false_iff_not, Bool.not_eq_true', Bool.not_eq_false', beq_iff_eq, beq_eq_false_iff_ne, ne_eq] at hq); omega) ?_ | fail)
      refine ⟨z + 1, by omega, by omega, by rfl, ?_⟩
      simp (maxSteps := 400000) (disch := omega) only [push_cast, ↓reduceIte, reduceCtorEq, Nat.reduceAdd, Nat.reduceSub, Nat.reduceEqDiff, Nat.reduceLeDiff, Nat.reduceLT, Nat.reduceBEq, Nat.reduceDiv, Nat.reduceMod, Nat.reducePow, Nat.reduceMul, Int.reduceToNat, Int.reduceLT, Int.reduceLE, S.mk.injEq, List.cons.injEq, Prod.mk.injEq, AV.v.injEq, Value.int.injEq, Value.bool.injEq, Blk.cells.injEq]
    · repeat' (first | refine WK_go ?_ | refine W_seqL ?_ | refine W_seq ?_ | refine W_block ?_ | refine W_scp ?_ | ((first | refine W_regL ?_ | refine W_skip ?_ | refine W_exit ?_ | refine CallC.now (c24) ?_); simp (maxSteps := 400000) (disch := omega) only [push_cast, ↓reduceIte, reduceCtorEq, Nat.reduceAdd, Nat.reduceSub, Nat.reduceEqDiff, Nat.reduceLeDiff, Nat.reduceLT, Nat.reduceBEq, Nat.reduceDiv, Nat.reduceMod, Nat.reducePow, Nat.reduceMul, Int.reduceToNat, Int.reduceLT, Int.reduceLE]) | refine And.intro (by omega) ?_ | refine And.intro (by intro hq; (try simp only [Bool.and_eq_true, Bool.or_eq_true, Bool.and_eq_false_iff, Bool.or_eq_false_iff, decide_eq_true_eq, decide_eq_false_iff_not, Bool.not_eq_true', Bool.not_eq_false', beq_iff_eq, beq_eq_false_iff_ne, ne_eq] at hq); omega) ?_ | fail)
      repeat' (first | refine WK_go ?_ | refine W_seqL ?_ | refine W_seq ?_ | refine W_block ?_ | refine W_scp ?_ | ((first | refine W_regL ?_ | refine W_skip ?_ | refine W_exit ?_ | refine CallC.now (c43) ?_); simp (maxSteps := 400000) (disch := omega) only [push_cast, ↓reduceIte, reduceCtorEq, Nat.reduceAdd, Nat.reduceSub, Nat.reduceEqDiff, Nat.reduceLeDiff, Nat.reduceLT, Nat.reduceBEq, Nat.reduceDiv, Nat.reduceMod, Nat.reducePow, Nat.reduceMul, Int.reduceToNat, Int.reduceLT, Int.reduceLE]) | refine And.intro (by omega) ?_ | refine And.intro (by intro hq; (try simp only [Bool.and_eq_true, Bool.or_eq_true, Bool.and_eq_false_iff, Bool.or_eq_false_iff, decide_eq_true_eq, decide_eq_false_iff_not, Bool.not_eq_true', Bool.not_eq_false', beq_iff_eq, beq_eq_false_iff_ne, ne_eq] at hq); omega) ?_ | fail)
      repeat' (first | refine WK_go ?_ | refine W_seqL ?_ | refine W_seq ?_ | refine W_block ?_ | refine W_scp ?_ | ((first | refine W_regL ?_ | refine W_skip ?_ | refine W_exit ?_ | refine CallC.now (c33r) ?_ | refine CallC.go _ (fun _ => ⟨trivial, c23⟩) rfl ?_ | refine CallC.go _ (fun _ => ⟨trivial, c44⟩) rfl ?_ | refine CallC.go _ (fun _ => ⟨trivial, fn14⟩) rfl ?_); simp (maxSteps := 400000) (disch := omega) only [push_cast, ↓reduceIte, reduceCtorEq, Nat.reduceAdd, Nat.reduceSub, Nat.reduceEqDiff, Nat.reduceLeDiff, Nat.reduceLT, Nat.reduceBEq, Nat.reduceDiv, Nat.reduceMod, Nat.reducePow, Nat.reduceMul, Int.reduceToNat, Int.reduceLT, Int.reduceLE, n3, dRR]) | refine And.intro (by omega) ?_ | refine And.intro (by intro hq; (try simp only [Bool.and_eq_true, Bool.or_eq_true, Bool.and_eq_false_iff, Bool.or_eq_false_iff, decide_eq_true_eq, decide_eq_false_iff_not, Bool.not_eq_true', Bool.not_eq_false', beq_iff_eq, beq_eq_false_iff_ne, ne_eq] at hq); omega) ?_ | fail)
      exact W_ret ⟨[_], ⟨rfl, rfl⟩, rfl⟩
end Go.Proofs.Ytfbdlmenhoagmaa

namespace Go.Proofs.Ytfbdlmenhoagmaa
open Go Sy Go.ChangeShapes Go.WideShapes Go.RowKit
set_option maxRecDepth 100000
set_option linter.unusedVariables false
theorem own : ownKnob Try.prog.godebug = none := by kernel_rfl
theorem laidOut : laidOutB Try.prog = true := by kernel_rfl
theorem walk10 (W : World) (v0 v1 v2 v3 v4 v5 : Value) (m : Mp) (f : Nat → Int) (st : List Int) (pl : List Int) (fr : Int) (to : Int) (h0 : fsat (inW W) W (aM m) v0) (h1 : fsat (inW W) W (.agg (c6 f)) v1) (h2 : fsat (inW W) W (aI st) v2) (h3 : fsat (inW W) W (aI pl) v3) (h4 : fsat (inW W) W (iv fr) v4) (h5 : fsat (inW W) W (iv to) v5) (om : OM m) (of : ∀ k, k < 6 → I64 (f k)) (ost : st.length * 8 ≤ 140737488351232) (opl : pl.length * 8 ≤ 140737488351232) (ofr : I64 fr) (oto : I64 to) :
    Calls Try.prog 10 #[v0, v1, v2, v3, v4, v5] W fun e w' => e = .returned (.bool true) ∧ Below W.heap.size W w' := by
  have hf : Sy.Fn Try.prog 10 [aM m, .agg (c6 f), aI st, aI pl, iv fr, iv to] (bv true) := fn10 m f st pl fr to om.big (by omega) (by omega)
  refine (hf.2 (inW W) W [v0, v1, v2, v3, v4, v5] (fun b hb => hb) ?_).mono ?_
  · simp only [fsatT]
    exact ⟨v0, _, rfl, h0, v1, _, rfl, h1, v2, _, rfl, h2, v3, _, rfl, h3, v4, _, rfl, h4, v5, _, rfl, h5, rfl⟩
  · rintro e w' ⟨v, rfl, hb, hv⟩
    simp only [fsat] at hv
    exact ⟨by rw [hv], hb⟩
theorem lifted10 (os : Os) (started : os.Started) (H : Type) (enc : TypeId × Value → H) :
    ReturnsInHanded {} Try.checked os 10 .any (Rows.roadCheapestSpec.pre6 enc Try.prog Try.f10 Rows.roadCheapestRow.domain false) (Rows.roadCheapestSpec.post enc Try.prog Try.f10 false true false false) := by
  refine returnsInHanded_of_change_sized (C := Try.checked) own started (by kernel_rfl) Try.func10
    (ChangeSpec.witness6 (enc := enc) (C := Try.checked) false ⟨#[], #[.agg #[.int .i64 0, .slice none 0 0, .slice none 0 0], .agg #[.int .i64 0, .int .i64 0, .int .i64 0, .int .i64 0, .int .i64 0, .int .i64 0], .slice none 0 0, .slice none 0 0, .int .i64 0, .int .i64 0], []⟩ 8 (by kernel_rfl) (by kernel_rfl) (by kernel_rfl) (by kernel_rfl)) ?_
  intro W base args ds gs before hval0 hW hcnd hsz _
  have hval : ∀ (j : Nat) t v, Try.f10.params[j]? = some t → args[j]? = some v → Value.okWide Try.prog W .any base t v := hval0
  have hW' := hW
  obtain ⟨p, q, hA0, hV, rfl, hfz, hnd⟩ := hW
  have hA : DataW.TrodAll enc Try.prog W 0 (fun _ => true) true Try.f10.params.toList args.toList ds p := hA0
  rw [Try.params10] at hA hval
  obtain ⟨v0, vs0, d0, ds0, p0, q0, hargs, rfl, rfl, h0, r0⟩ := trodAll_cons hA
  obtain ⟨v1, vs1, d1, ds1, p1, q1, rfl, rfl, rfl, h1, r1⟩ := trodAll_cons r0
  obtain ⟨v2, vs2, d2, ds2, p2, q2, rfl, rfl, rfl, h2, r2⟩ := trodAll_cons r1
  obtain ⟨v3, vs3, d3, ds3, p3, q3, rfl, rfl, rfl, h3, r3⟩ := trodAll_cons r2
  obtain ⟨v4, vs4, d4, ds4, p4, q4, rfl, rfl, rfl, h4, r4⟩ := trodAll_cons r3
  obtain ⟨v5, vs5, d5, ds5, p5, q5, rfl, rfl, rfl, h5, r5⟩ := trodAll_cons r4
  obtain ⟨rfl, rfl, rfl⟩ := trodAll_nil r5
  obtain rfl : args = #[v0, v1, v2, v3, v4, v5] := by cases args; simp_all
  obtain ⟨rfl, rfl⟩ := trodVars_none hV
  have hs : ∀ (j : Nat) t (d : DataW H), [25, 26, 27, 27, 3, 3][j]? = some t → [d0, d1, d2, d3, d4, d5][j]? = some d → ∀ n ∈ d.weights Try.prog t, n ≤ reachBytes := fun j t d ht hd n hn => by
    have hall := List.all_eq_true.1 hsz n (DataW.weights_mem_each (j := j) (t := t) (d := d) (by rw [Try.params10]; simpa using (List.getElem?_append_left (l₂ := _) (by have := (List.getElem?_eq_some_iff.1 ht).1; simpa using this)).trans ht) (by simpa using (List.getElem?_append_left (l₂ := _) (by have := (List.getElem?_eq_some_iff.1 hd).1; simpa using this)).trans hd) n hn)
    simpa using hall
  have lt0 : ∀ x ∈ p0, x.block < W.heap.size := by obtain ⟨m, hm⟩ := h0; exact DataW.trod_lt m _ _ _ hm
  have lt1 : ∀ x ∈ p1, x.block < W.heap.size := by obtain ⟨m, hm⟩ := h1; exact DataW.trod_lt m _ _ _ hm
  have lt2 : ∀ x ∈ p2, x.block < W.heap.size := by obtain ⟨m, hm⟩ := h2; exact DataW.trod_lt m _ _ _ hm
  have lt3 : ∀ x ∈ p3, x.block < W.heap.size := by obtain ⟨m, hm⟩ := h3; exact DataW.trod_lt m _ _ _ hm
  have lt4 : ∀ x ∈ p4, x.block < W.heap.size := by obtain ⟨m, hm⟩ := h4; exact DataW.trod_lt m _ _ _ hm
  have lt5 : ∀ x ∈ p5, x.block < W.heap.size := by obtain ⟨m, hm⟩ := h5; exact DataW.trod_lt m _ _ _ hm
  obtain ⟨m, om, s0⟩ := k25.arg (by kernel_rfl) (hval 0 25 v0 rfl rfl) h0 (hs 0 25 d0 rfl rfl)
  obtain ⟨f, of, s1⟩ := k26.arg (by kernel_rfl) (hval 1 26 v1 rfl rfl) h1 (hs 1 26 d1 rfl rfl)
  obtain ⟨st, ost, s2⟩ := k27.arg1 (by kernel_rfl) (hval 2 27 v2 rfl rfl) h2 (hs 2 27 d2 rfl rfl)
  obtain ⟨pl, opl, s3⟩ := k27.arg1 (by kernel_rfl) (hval 3 27 v3 rfl rfl) h3 (hs 3 27 d3 rfl rfl)
  obtain ⟨fr, ofr, s4⟩ := k3.arg1 (by kernel_rfl) (hval 4 3 v4 rfl rfl) h4 (hs 4 3 d4 rfl rfl)
  obtain ⟨to, oto, s5⟩ := k3.arg1 (by kernel_rfl) (hval 5 3 v5 rfl rfl) h5 (hs 5 3 d5 rfl rfl)
  clear hA0 hval0
  refine (walk10 W v0 v1 v2 v3 v4 v5 m f st pl fr to s0 s1 s2 s3 s4 s5 om of ost opl ofr oto).mono fun e W' ⟨he, bel⟩ => ?_
  subst he
  exact ⟨_, rfl, _, _, _, [], _, [], hW', trodAll_mk1 (shut_bool Try.underlying4 _), (trodAll_cons_mk (Below.trod laidOut (by kernel_rfl) (of_decide_eq_true (by kernel_rfl)) h0 bel lt0) (trodAll_cons_mk (Below.trod laidOut (by kernel_rfl) (of_decide_eq_true (by kernel_rfl)) h1 bel lt1) (trodAll_cons_mk (Below.trod laidOut (by kernel_rfl) (of_decide_eq_true (by kernel_rfl)) h2 bel lt2) (trodAll_cons_mk (Below.trod laidOut (by kernel_rfl) (of_decide_eq_true (by kernel_rfl)) h3 bel lt3) (trodAll_cons_mk (Below.trod laidOut (by kernel_rfl) (of_decide_eq_true (by kernel_rfl)) h4 bel lt4) (trodAll_cons_mk (Below.trod laidOut (by kernel_rfl) (of_decide_eq_true (by kernel_rfl)) h5 bel lt5) trodAll_mk0)))))), rfl, bel.frame _, fun h => by cases h⟩
theorem over10 : Rows.roadCheapestRow.holds Try.pinned (OpenSpec.ofChange Rows.roadCheapestSpec) :=
  OpenClaim.holds_of_wide 10 Try.f10 rfl rfl rfl rfl rfl rfl rfl ⟨rfl, rfl, rfl, rfl, rfl⟩ rfl rfl rfl rfl rfl (by kernel_rfl) Try.func10 (by kernel_rfl)
    (of_decide_eq_true (by kernel_rfl)) (by unfold Func.isWrapper; first | (rw [if_pos (by decide +kernel)]; kernel_rfl) | (rw [if_neg (by decide +kernel)]; exact ⟨rfl, rfl⟩))
    (fun os started H enc _ => lifted10 os started H enc)
theorem road_cheapest_holds : Rows.RoadCheapestSaid := over10
end Go.Proofs.Ytfbdlmenhoagmaa

