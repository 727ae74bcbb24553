/- For all jobs with at most 130 orders, or too many, both programs return the same best order, plan and end, or the same error: the law ScheduleBest holds. -/
import Derived.Test.YtoiohkjomcbadaaP5
import Derived.Test.YtoiohkjomcbadaaRows
import Derived.ShutString
namespace Go.Proofs.Ytoiohkjomcbadaa
open Go Sy
set_option maxRecDepth 100000
set_option maxHeartbeats 4000000
set_option linter.unusedVariables false
set_option linter.unusedSimpArgs false
def prm : Nat → List Int → List Int → List (List Int)
  | 0, h, _ => [h]
  | k + 1, h, r => (List.range r.length).flatMap fun i => prm k (h ++ [gi r i]) (r.eraseIdx i)
def prmI (k : Nat) (h r : List Int) (n : Nat) : List (List Int) := (List.range n).flatMap fun i => prm k (h ++ [gi r i]) (r.eraseIdx i)
theorem prmI_succ (k : Nat) (h r : List Int) (n : Nat) : prmI k h r (n + 1) = prmI k h r n ++ prm k (h ++ [gi r n]) (r.eraseIdx n) := by
  unfold prmI
  rw [List.range_succ, List.flatMap_append]
  simp
theorem setm_appr {A B : Mem} {k : Nat} (b : Blk) (h : lm A k = none) : setm (A ++ B) k b = A ++ setm B k b := by
  induction A with
  | nil => rfl
  | cons p A ih =>
    obtain ⟨s, c⟩ := p
    simp only [lm] at h
    by_cases q : k = s
    · rw [if_pos q] at h; cases h
    · rw [if_neg q] at h
      simp only [List.cons_append, setm]
      rw [if_neg q, ih h]
theorem w130 (l : List Int) (hl : l.length ≤ 1000000) : W Try.prog 8 Xn130_0 (init [aI l]) (FinO [.t 2] 3 1 0 cI l) := by
  repeat (first | refine WK_go ?_ | refine W_seqL ?_ | refine W_seq ?_ | refine W_block ?_)
  refine W_regL ?_
  (refine sy1 ?_; try exact True.intro)
  repeat (first | refine WK_go ?_ | refine W_seqL ?_ | refine W_seq ?_ | refine W_block ?_)
  refine W_regX [1] ?_
  simp (maxSteps := 400000) (disch := omega) only [push_cast, ↓reduceIte, reduceCtorEq, Nat.reduceAdd, Nat.reduceSub, Nat.reduceEqDiff, Nat.reduceLeDiff, Nat.reduceLT, Nat.reduceBEq, Nat.reduceDiv, Nat.reduceMod, Nat.reducePow, Nat.reduceMul, Int.reduceToNat, Int.reduceLT, Int.reduceLE, chainX, SpM, List.take_succ_cons, List.take_zero, List.drop_succ_cons, List.drop_zero]
  refine ⟨[], rfl, 1, Int, 0, cI, l, rfl, fun b hb => ?_⟩
  (refine sy1 ?_; try exact True.intro)
  cases b
  · refine W_cond (by rfl) (fun h => by cases h) (fun _ => ?_)
    repeat' (first | refine w1g ?_ | refine w1l ?_ | refine w1q ?_ | refine w1b ?_ | refine w1p ?_ | ((first | refine w1r ?_ | refine w1k ?_ | refine w1e ?_); (refine sy1 ?_; try exact True.intro)) | refine an2 ?_ | fail)
    refine ⟨rfl, trivial, Int, 0, cI, [], rfl, by omega, fun x _ => ⟨rfl, rfl⟩, rfl, ?_⟩
    (refine sy1 ?_; try exact True.intro)
    refine ⟨rfl, ⟨Nat.le_of_ble_eq_true rfl, rfl⟩, trivial, l, rfl, by first | omega | (simp; omega), by first | omega | (simp; omega), ?_⟩
    (refine sy1 ?_; try exact True.intro)
    exact W_ret ⟨_, _, ⟨rfl, rfl⟩, rfl⟩
  · refine W_cond (by rfl) (fun _ => ?_) (fun h => by cases h)
    have e : l = [] := by
      cases l with
      | nil => rfl
      | cons x r => have := hb (by simp); cases this
    subst e
    repeat' (first | refine w1g ?_ | refine w1l ?_ | refine w1q ?_ | refine w1b ?_ | refine w1p ?_ | ((first | refine w1r ?_ | refine w1k ?_ | refine w1e ?_); (refine sy1 ?_; try exact True.intro)) | refine an2 ?_ | fail)
    refine W_le (le_adopt 2 3 1 0 cI (by omega) rfl) ?_
    (refine sy1 ?_; try exact True.intro)
    exact W_ret ⟨_, _, ⟨rfl, rfl⟩, rfl⟩
theorem fw130 (l : List Int) (hl : l.length ≤ 1000000) : FnN Try.prog 130 [aI l] (aI l) :=
  FnN_of_W mixed Xt130 rfl (W_mono' (w130 l hl) (finN_of_finO fun x _ => rfl))
section
variable {ι : Type} {B : ι → Mem} {step : ι → List Int → ι} {N0 l : Nat} {P : List Int → Prop}
abbrev YP (B : ι → Mem) (step : ι → List Int → ι) (N0 l : Nat) (P : List Int → Prop) : Prop := ∀ b x, P x → ∀ tm R nx, Opq N0 R nx → Yl Try.prog l [aI x] ⟨tm, B b ++ R, nx⟩ (MidY N0 tm nx R (fun r B' => r = true ∧ B' = B (step b x)))
abbrev goB (l kw : Nat) : Blk := .cells [.cq 129 [] [.fp [yv l] 0, .own kw 0]]
abbrev i129P (B : ι → Mem) (step : ι → List Int → ι) (N0 l : Nat) (P : List Int → Prop) (k : Nat) : Prop := ∀ (h r : List Int) (b : ι), r.length = k → (∀ x ∈ prm k h r, P x) → h.length + k ≤ 1000 →
  ∀ (tm : List (Nat × AV)) (R : Mem) (nx kw kh sh kr sr : Nat), Opq N0 R nx → (N0 ≤ kw ∧ kw < nx) → lm R kw = some (goB l kw) → (N0 ≤ kh ∧ kh < nx) → lm R kh = some (.row sh 3 1 0 cI h) → (N0 ≤ kr ∧ kr < nx) → lm R kr = some (.row sr 3 1 0 cI r) →
    Inl Try.prog 129 [.row kh sh, .row kr sr, .fp [yv l] 0, .own kw 0] ⟨tm, B b ++ R, nx⟩ (MidX N0 tm nx R fun v B' => v = bv true ∧ B' = B ((prm k h r).foldl step b))
theorem i129 (hBas : ∀ b, Bas N0 (B b)) (HY : YP B step N0 l P) (k : Nat) (ih : ∀ j, j < k → i129P B step N0 l P j) : i129P B step N0 l P k := by
  intro h r b hrl hP hlen tm R nx kw kh sh kr sr hR hkw hW hkh hH hkr hRr
  refine Inl_opqE mixed Xt129 rfl hR (hBas b) (fun R' nx' hR' hlt hE => ?_)
  have hW1 : lm R' kw = some (goB l kw) := (hE kw hkw.2).trans hW
  have hH1 : lm R' kh = some (.row sh 3 1 0 cI h) := (hE kh hkh.2).trans hH
  have hR1 : lm R' kr = some (.row sr 3 1 0 cI r) := (hE kr hkr.2).trans hRr
  have hN := hR'.n
  have hlb : ∀ (b : ι) (R : Mem) (j : Nat), N0 ≤ j → lm (B b ++ R) j = lm R j := fun b R j hj => lm_app_r (hBas b j hj)
  have hsb : ∀ (b : ι) (R : Mem) (j : Nat) (x : Blk), N0 ≤ j → setm (B b ++ R) j x = B b ++ setm R j x := fun b R j x hj => setm_appr x (hBas b j hj)
  have hbl := @bq_l
  obtain ⟨KK, hKK⟩ : ∃ KK : AV → Mem → Prop, KK = fun v B' => v = bv true ∧ B' = B ((prm k h r).foldl step b) := ⟨_, rfl⟩
  rw [← hKK]
  simp (maxSteps := 400000) (disch := omega) only [push_cast, ↓reduceIte, reduceCtorEq, Nat.reduceAdd, Nat.reduceSub, Nat.reduceEqDiff, Nat.reduceLeDiff, Nat.reduceLT, Nat.reduceBEq, Nat.reduceDiv, Nat.reduceMod, Nat.reducePow, Nat.reduceMul, Int.reduceToNat, Int.reduceLT, Int.reduceLE, initT]
  repeat' (first | refine w1g ?_ | refine w1l ?_ | refine w1q ?_ | refine w1b ?_ | refine w1p ?_ | ((first | refine w1r ?_ | refine w1k ?_ | refine w1e ?_); simp (maxSteps := 400000) (disch := omega) only [push_cast, ↓reduceIte, reduceCtorEq, Nat.reduceAdd, Nat.reduceSub, Nat.reduceEqDiff, Nat.reduceLeDiff, Nat.reduceLT, Nat.reduceBEq, Nat.reduceDiv, Nat.reduceMod, Nat.reducePow, Nat.reduceMul, Int.reduceToNat, Int.reduceLT, Int.reduceLE, ne_l, ne_r, bq_l, bq_r, ls_l, ls_r, lm_set_same, hlb, hsb, hH1, hR1]) | refine an2 ?_ | fail)
  by_cases hk0 : k = 0
  · subst hk0
    rw [show ((r.length : Int) == 0) = true by rw [beq_iff_eq]; omega]
    have cN := fw130 h (by omega)
    have hx : P h := hP h (List.mem_singleton.2 rfl)
    refine W_cond (by rfl) (fun _ => ?_) (fun h => by cases h)
    repeat' (first | refine w1g ?_ | refine w1l ?_ | refine w1q ?_ | refine w1b ?_ | refine w1p ?_ | ((first | refine W_regS 3 (by decide) (by decide) ?_ | refine w1r ?_ | refine w1k ?_ | refine w1e ?_); simp (maxSteps := 400000) (disch := omega) only [push_cast, ↓reduceIte, reduceCtorEq, Nat.reduceAdd, Nat.reduceSub, Nat.reduceEqDiff, Nat.reduceLeDiff, Nat.reduceLT, Nat.reduceBEq, Nat.reduceDiv, Nat.reduceMod, Nat.reducePow, Nat.reduceMul, Int.reduceToNat, Int.reduceLT, Int.reduceLE, ne_l, ne_r, bq_l, bq_r, ls_l, ls_r, lm_set_same, hlb, hsb, hH1, hR1]) | refine an2 ?_ | fail)
    refine CallC.new _ (fun _ => ⟨trivial, cN⟩) ?_
    simp (maxSteps := 400000) (disch := omega) only [push_cast, ↓reduceIte, reduceCtorEq, Nat.reduceAdd, Nat.reduceSub, Nat.reduceEqDiff, Nat.reduceLeDiff, Nat.reduceLT, Nat.reduceBEq, Nat.reduceDiv, Nat.reduceMod, Nat.reducePow, Nat.reduceMul, Int.reduceToNat, Int.reduceLT, Int.reduceLE, ne_l, ne_r, bq_l, bq_r, ls_l, ls_r, lm_set_same, hlb, hsb, hH1, hR1]
    refine StopC.yld (fun hpc => ⟨trivial, Yl_le (HY b h hx _ R' _ (hR'.le (by omega))) (fun v s' hs => ?_)⟩) (fun hpc => absurd trivial hpc)
    obtain ⟨B', R2, nx2, hB', hX, ⟨rfl, rfl⟩, hl⟩ := hs
    refine ⟨_, ?_, hl⟩
    (refine sy1 ?_; try exact True.intro)
    repeat' (first | refine w1g ?_ | refine w1l ?_ | refine w1q ?_ | refine w1b ?_ | refine w1p ?_ | ((first | refine w1r ?_ | refine w1k ?_ | refine w1e ?_); (refine sy1 ?_; try exact True.intro)) | refine an2 ?_ | fail)
    refine W_ret ?_
    exact ⟨[_], _, R2, ⟨rfl, rfl⟩, sameM.refl _, hBas _, (hX.dn (by omega)).up (by first | omega | (dsimp only; omega)), by rw [hKK]; exact ⟨rfl, rfl⟩⟩
  · rw [show ((r.length : Int) == 0) = false by rw [beq_eq_false_iff_ne]; omega]
    obtain ⟨k1, rfl⟩ : ∃ k1, k = k1 + 1 := ⟨k - 1, by omega⟩
    refine W_cond (by rfl) (fun h => by cases h) (fun _ => ?_)
    repeat' (first | refine w1g ?_ | refine w1l ?_ | refine w1q ?_ | refine w1b ?_ | refine w1p ?_ | ((first | refine w1r ?_ | refine w1k ?_ | refine w1e ?_); simp (maxSteps := 400000) (disch := omega) only [push_cast, ↓reduceIte, reduceCtorEq, Nat.reduceAdd, Nat.reduceSub, Nat.reduceEqDiff, Nat.reduceLeDiff, Nat.reduceLT, Nat.reduceBEq, Nat.reduceDiv, Nat.reduceMod, Nat.reducePow, Nat.reduceMul, Int.reduceToNat, Int.reduceLT, Int.reduceLE, ne_l, ne_r, bq_l, bq_r, ls_l, ls_r, lm_set_same, hlb, hsb, hH1, hR1]) | refine an2 ?_ | fail)
    refine W_loopX N0 (fun v : Nat × ι => [(19, iv v.1)]) (fun v => B v.2) (fun v => v.1 ≤ r.length ∧ v.2 = (prmI k1 h r v.1).foldl step b) (fun v => r.length - v.1) (fun v _ => hBas _) (hR'.le (show nx' ≤ nx' + 7 by omega)) (0, b) ⟨by dsimp only; omega, rfl⟩ (by rfl) (sameM.refl _) (fun v R1 nx1 hv hX => ?_)
    obtain ⟨i, c⟩ := v
    obtain ⟨hi, hc⟩ := hv
    dsimp only at hi hc ⊢
    have hX' : Ext nx' R' nx1 R1 := ((Ext.refl hR').up (show nx' ≤ nx' + 7 by omega)).trans hX
    have hN1 := hX'.n
    have hW2 : lm R1 kw = some (goB l kw) := (hX'.eq kw (by omega)).trans hW1
    have hH2 : lm R1 kh = some (.row sh 3 1 0 cI h) := (hX'.eq kh (by omega)).trans hH1
    have hR2 : lm R1 kr = some (.row sr 3 1 0 cI r) := (hX'.eq kr (by omega)).trans hR1
    have hO1 : Opq N0 R1 nx1 := hX'.opq hR'
    simp (maxSteps := 400000) (disch := omega) only [push_cast, ↓reduceIte, reduceCtorEq, Nat.reduceAdd, Nat.reduceSub, Nat.reduceEqDiff, Nat.reduceLeDiff, Nat.reduceLT, Nat.reduceBEq, Nat.reduceDiv, Nat.reduceMod, Nat.reducePow, Nat.reduceMul, Int.reduceToNat, Int.reduceLT, Int.reduceLE, keepL]
    repeat' (first | refine w1g ?_ | refine w1l ?_ | refine w1q ?_ | refine w1b ?_ | refine w1p ?_ | ((first | refine w1r ?_ | refine w1k ?_ | refine w1e ?_); simp (maxSteps := 400000) (disch := omega) only [push_cast, ↓reduceIte, reduceCtorEq, Nat.reduceAdd, Nat.reduceSub, Nat.reduceEqDiff, Nat.reduceLeDiff, Nat.reduceLT, Nat.reduceBEq, Nat.reduceDiv, Nat.reduceMod, Nat.reducePow, Nat.reduceMul, Int.reduceToNat, Int.reduceLT, Int.reduceLE, keepL, ne_l, ne_r, bq_l, bq_r, ls_l, ls_r, lm_set_same, hlb, hsb, hH2, hR2]) | refine an2 ?_ | fail)
    refine W_condD (by rfl) (fun h5 => ?_) (fun h5 => ?_)
    · have hil : i < r.length := by omega
      have g1 : r.getD i 0 = gi r i := rfl
      generalize hx : gi r i = x at *
      have hps : prmI k1 h r (i + 1) = prmI k1 h r i ++ prm k1 (h ++ [x]) (r.eraseIdx i) := by rw [prmI_succ, hx]
      have hel : (r.eraseIdx i).length = k1 := by rw [List.length_eraseIdx, if_pos hil]; omega
      have hPi : ∀ y ∈ prm k1 (h ++ [x]) (r.eraseIdx i), P y := fun y hy => hP y (List.mem_flatMap.2 ⟨i, List.mem_range.2 hil, by rw [hx]; exact hy⟩)
      have hI := ih k1 (Nat.lt_succ_self _) (h ++ [x]) (r.eraseIdx i) c hel hPi (by rw [List.length_append, List.length_singleton]; omega)
      repeat' (first | refine w1g ?_ | refine w1l ?_ | refine w1q ?_ | refine w1b ?_ | refine w1p ?_ | ((first | refine w1r ?_ | refine w1k ?_ | refine w1e ?_); simp (maxSteps := 400000) (disch := omega) only [push_cast, ↓reduceIte, reduceCtorEq, Nat.reduceAdd, Nat.reduceSub, Nat.reduceEqDiff, Nat.reduceLeDiff, Nat.reduceLT, Nat.reduceBEq, Nat.reduceDiv, Nat.reduceMod, Nat.reducePow, Nat.reduceMul, Int.reduceToNat, Int.reduceLT, Int.reduceLE, keepL, ne_l, ne_r, bq_l, bq_r, ls_l, ls_r, lm_set_same, hlb, hsb, hH2, hR2, g1]) | refine an2 ?_ | fail)
      refine CallC.row (fo130 r (by omega)) ?_
      simp (maxSteps := 400000) (disch := omega) only [push_cast, ↓reduceIte, reduceCtorEq, Nat.reduceAdd, Nat.reduceSub, Nat.reduceEqDiff, Nat.reduceLeDiff, Nat.reduceLT, Nat.reduceBEq, Nat.reduceDiv, Nat.reduceMod, Nat.reducePow, Nat.reduceMul, Int.reduceToNat, Int.reduceLT, Int.reduceLE, ne_l, ne_r, bq_l, bq_r, ls_l, ls_r, lm_set_same, hlb, hsb, hH2, hR2, g1]
      refine CallC.inl (Inl_del (by rw [hlb _ _ _ (by omega), lm_set_same]) hil ?_)
      simp (maxSteps := 400000) (disch := omega) only [push_cast, ↓reduceIte, reduceCtorEq, Nat.reduceAdd, Nat.reduceSub, Nat.reduceEqDiff, Nat.reduceLeDiff, Nat.reduceLT, Nat.reduceBEq, Nat.reduceDiv, Nat.reduceMod, Nat.reducePow, Nat.reduceMul, Int.reduceToNat, Int.reduceLT, Int.reduceLE, ne_l, ne_r, bq_l, bq_r, ls_l, ls_r, lm_set_same, hlb, hsb, hH2, hR2, g1, setm_setm]
      repeat' (first | refine w1g ?_ | refine w1l ?_ | refine w1q ?_ | refine w1b ?_ | refine w1p ?_ | ((first | refine W_regS 7 (by decide) (by decide) ?_ | refine w1r ?_ | refine w1k ?_ | refine w1e ?_); simp (maxSteps := 400000) (disch := omega) only [push_cast, ↓reduceIte, reduceCtorEq, Nat.reduceAdd, Nat.reduceSub, Nat.reduceEqDiff, Nat.reduceLeDiff, Nat.reduceLT, Nat.reduceBEq, Nat.reduceDiv, Nat.reduceMod, Nat.reducePow, Nat.reduceMul, Int.reduceToNat, Int.reduceLT, Int.reduceLE, ne_l, ne_r, bq_l, bq_r, ls_l, ls_r, lm_set_same, hlb, hsb, hH2, hR2, hW2, g1]) | refine an2 ?_ | fail)
      refine CallC.row (fo130 h (by omega)) ?_
      simp (maxSteps := 400000) (disch := omega) only [push_cast, ↓reduceIte, reduceCtorEq, Nat.reduceAdd, Nat.reduceSub, Nat.reduceEqDiff, Nat.reduceLeDiff, Nat.reduceLT, Nat.reduceBEq, Nat.reduceDiv, Nat.reduceMod, Nat.reducePow, Nat.reduceMul, Int.reduceToNat, Int.reduceLT, Int.reduceLE, ne_l, ne_r, bq_l, bq_r, ls_l, ls_r, lm_set_same, hlb, hsb, hH2, hR2, hW2, g1]
      refine ⟨rfl, trivial, Int, 0, cI, [x], rfl, by omega, fun x _ => ⟨rfl, rfl⟩, rfl, ?_⟩
      simp (maxSteps := 400000) (disch := omega) only [push_cast, ↓reduceIte, reduceCtorEq, Nat.reduceAdd, Nat.reduceSub, Nat.reduceEqDiff, Nat.reduceLeDiff, Nat.reduceLT, Nat.reduceBEq, Nat.reduceDiv, Nat.reduceMod, Nat.reducePow, Nat.reduceMul, Int.reduceToNat, Int.reduceLT, Int.reduceLE, ne_l, ne_r, bq_l, bq_r, ls_l, ls_r, lm_set_same, hlb, hsb, hH2, hR2, hW2, g1]
      refine ⟨rfl, ⟨by dsimp only; omega, (hasM_iff _ _).2 (by rw [hlb _ _ _ (by omega)]; simp (disch := omega) [lm, ne_l, ne_r, ls_l, ls_r, lm_set_same])⟩, trivial, [x], rfl, by first | omega | (simp; omega), by first | omega | (simp; omega), ?_⟩
      simp (maxSteps := 400000) (disch := omega) only [push_cast, ↓reduceIte, reduceCtorEq, Nat.reduceAdd, Nat.reduceSub, Nat.reduceEqDiff, Nat.reduceLeDiff, Nat.reduceLT, Nat.reduceBEq, Nat.reduceDiv, Nat.reduceMod, Nat.reducePow, Nat.reduceMul, Int.reduceToNat, Int.reduceLT, Int.reduceLE, ne_l, ne_r, bq_l, bq_r, ls_l, ls_r, lm_set_same, hlb, hsb, hH2, hR2, hW2, g1]
      have hX2 := fun (k1 k2 k3 N2 : Nat) (g1 g2 g3 g4 : Blk) (q1 : nx1 ≤ k1) (q2 : nx1 ≤ k2) (q3 : nx1 ≤ k3) (q4 : k1 < N2) (q5 : k2 < N2) (q6 : k3 < N2) => (((((Ext.refl hO1).put (g := g1) q1 q4 (by omega)).put (g := g2) q2 q5 (Nat.le_refl _)).put (g := g3) q3 q6 (Nat.le_refl _)).put (g := g4) q2 q5 (Nat.le_refl _))
      refine CallC.inl (Inl_le' (hI _ _ _ kw _ _ _ _ (Ext.opq (hX2 _ _ _ _ _ _ _ _ (by omega) (by omega) (by omega) (by omega) (by omega) (by omega)) hO1) ⟨by omega, by omega⟩ (by simp (disch := omega) only [ls_l, ls_r]; exact hW2) ⟨by omega, by omega⟩ (lm_set_same _ _ _) ⟨by omega, by omega⟩ (by rw [lm_set_other _ _ (by omega), lm_set_other _ _ (by omega), lm_set_other _ _ (by omega), lm_set_same])) (fun v s' hs2 => ?_))
      obtain ⟨B', R3, nx3, hB', hX3, ⟨rfl, rfl⟩, hl⟩ := hs2
      refine ⟨_, ?_, hl⟩
      (refine sy1 ?_; try exact True.intro)
      refine W_cond (by rfl) (fun h => by cases h) (fun _ => ?_)
      repeat' (first | refine w1g ?_ | refine w1l ?_ | refine w1q ?_ | refine w1b ?_ | refine w1p ?_ | ((first | refine w1r ?_ | refine w1k ?_ | refine w1e ?_); simp (maxSteps := 400000) (disch := omega) only [push_cast, ↓reduceIte, reduceCtorEq, Nat.reduceAdd, Nat.reduceSub, Nat.reduceEqDiff, Nat.reduceLeDiff, Nat.reduceLT, Nat.reduceBEq, Nat.reduceDiv, Nat.reduceMod, Nat.reducePow, Nat.reduceMul, Int.reduceToNat, Int.reduceLT, Int.reduceLE, keepL]) | refine an2 ?_ | fail)
      refine ⟨(i + 1, (prm k1 (h ++ [x]) (r.eraseIdx i)).foldl step c), R3, ⟨by dsimp only; omega, by dsimp only; rw [hps, List.foldl_append, ← hc]⟩, by dsimp only; omega, by rfl, sameM.refl _, ?_⟩
      exact ((hX2 _ _ _ _ _ _ _ _ (by omega) (by omega) (by omega) (by omega) (by omega) (by omega)).trans hX3).up (by first | omega | (dsimp only; omega))
    · obtain rfl : i = r.length := by omega
      repeat' (first | refine w1g ?_ | refine w1l ?_ | refine w1q ?_ | refine w1b ?_ | refine w1p ?_ | ((first | refine w1r ?_ | refine w1k ?_ | refine w1e ?_); (refine sy1 ?_; try exact True.intro)) | refine an2 ?_ | fail)
      refine W_ret ?_
      exact ⟨[_], _, R1, ⟨rfl, rfl⟩, sameM.refl _, hBas _, hX'.up (by first | omega | (dsimp only; omega)), by rw [hKK]; exact ⟨rfl, by rw [hc]; rfl⟩⟩
theorem i129_all (hBas : ∀ b, Bas N0 (B b)) (HY : YP B step N0 l P) (k : Nat) : i129P B step N0 l P k := by
  induction k using Nat.strongRecOn with
  | _ k ih => exact i129 hBas HY k ih
theorem i129F (hBas : ∀ b, Bas N0 (B b)) (HY : YP B step N0 l P) (k : Nat) (ih : ∀ j, i129P B step N0 l P j) (h r : List Int) (b : ι) (hrl : r.length = k) (hP : ∀ x ∈ prm k h r, P x) (hlen : h.length + k ≤ 1000) (tm : List (Nat × AV)) (R : Mem) (nx kw kh sh : Nat) (hR : Opq N0 R nx) (hkw : N0 ≤ kw ∧ kw < nx) (hW : lm R kw = some (goB l kw)) (hkh : N0 ≤ kh ∧ kh < nx) (hH : lm R kh = some (.row sh 3 1 0 cI h)) :
    Inl Try.prog 129 [.row kh sh, aI r, .fp [yv l] 0, .own kw 0] ⟨tm, B b ++ R, nx⟩ (MidX N0 tm nx R fun v B' => v = bv true ∧ B' = B ((prm k h r).foldl step b)) := by
  refine Inl_opqE mixed Xt129 rfl hR (hBas b) (fun R' nx' hR' hlt hE => ?_)
  have hW1 : lm R' kw = some (goB l kw) := (hE kw hkw.2).trans hW
  have hH1 : lm R' kh = some (.row sh 3 1 0 cI h) := (hE kh hkh.2).trans hH
  have hN := hR'.n
  have hlb : ∀ (b : ι) (R : Mem) (j : Nat), N0 ≤ j → lm (B b ++ R) j = lm R j := fun b R j hj => lm_app_r (hBas b j hj)
  have hsb : ∀ (b : ι) (R : Mem) (j : Nat) (x : Blk), N0 ≤ j → setm (B b ++ R) j x = B b ++ setm R j x := fun b R j x hj => setm_appr x (hBas b j hj)
  have hbl := @bq_l
  obtain ⟨KK, hKK⟩ : ∃ KK : AV → Mem → Prop, KK = fun v B' => v = bv true ∧ B' = B ((prm k h r).foldl step b) := ⟨_, rfl⟩
  rw [← hKK]
  simp (maxSteps := 400000) (disch := omega) only [push_cast, ↓reduceIte, reduceCtorEq, Nat.reduceAdd, Nat.reduceSub, Nat.reduceEqDiff, Nat.reduceLeDiff, Nat.reduceLT, Nat.reduceBEq, Nat.reduceDiv, Nat.reduceMod, Nat.reducePow, Nat.reduceMul, Int.reduceToNat, Int.reduceLT, Int.reduceLE, initT]
  repeat' (first | refine w1g ?_ | refine w1l ?_ | refine w1q ?_ | refine w1b ?_ | refine w1p ?_ | ((first | refine w1r ?_ | refine w1k ?_ | refine w1e ?_); simp (maxSteps := 400000) (disch := omega) only [push_cast, ↓reduceIte, reduceCtorEq, Nat.reduceAdd, Nat.reduceSub, Nat.reduceEqDiff, Nat.reduceLeDiff, Nat.reduceLT, Nat.reduceBEq, Nat.reduceDiv, Nat.reduceMod, Nat.reducePow, Nat.reduceMul, Int.reduceToNat, Int.reduceLT, Int.reduceLE, ne_l, ne_r, bq_l, bq_r, ls_l, ls_r, lm_set_same, hlb, hsb, hH1]) | refine an2 ?_ | fail)
  by_cases hk0 : k = 0
  · subst hk0
    rw [show ((r.length : Int) == 0) = true by rw [beq_iff_eq]; omega]
    have cN := fw130 h (by omega)
    have hx : P h := hP h (List.mem_singleton.2 rfl)
    refine W_cond (by rfl) (fun _ => ?_) (fun h => by cases h)
    repeat' (first | refine w1g ?_ | refine w1l ?_ | refine w1q ?_ | refine w1b ?_ | refine w1p ?_ | ((first | refine W_regS 3 (by decide) (by decide) ?_ | refine w1r ?_ | refine w1k ?_ | refine w1e ?_); simp (maxSteps := 400000) (disch := omega) only [push_cast, ↓reduceIte, reduceCtorEq, Nat.reduceAdd, Nat.reduceSub, Nat.reduceEqDiff, Nat.reduceLeDiff, Nat.reduceLT, Nat.reduceBEq, Nat.reduceDiv, Nat.reduceMod, Nat.reducePow, Nat.reduceMul, Int.reduceToNat, Int.reduceLT, Int.reduceLE, ne_l, ne_r, bq_l, bq_r, ls_l, ls_r, lm_set_same, hlb, hsb, hH1]) | refine an2 ?_ | fail)
    refine CallC.new _ (fun _ => ⟨trivial, cN⟩) ?_
    simp (maxSteps := 400000) (disch := omega) only [push_cast, ↓reduceIte, reduceCtorEq, Nat.reduceAdd, Nat.reduceSub, Nat.reduceEqDiff, Nat.reduceLeDiff, Nat.reduceLT, Nat.reduceBEq, Nat.reduceDiv, Nat.reduceMod, Nat.reducePow, Nat.reduceMul, Int.reduceToNat, Int.reduceLT, Int.reduceLE, ne_l, ne_r, bq_l, bq_r, ls_l, ls_r, lm_set_same, hlb, hsb, hH1]
    refine StopC.yld (fun hpc => ⟨trivial, Yl_le (HY b h hx _ R' _ (hR'.le (by omega))) (fun v s' hs => ?_)⟩) (fun hpc => absurd trivial hpc)
    obtain ⟨B', R2, nx2, hB', hX, ⟨rfl, rfl⟩, hl⟩ := hs
    refine ⟨_, ?_, hl⟩
    (refine sy1 ?_; try exact True.intro)
    repeat' (first | refine w1g ?_ | refine w1l ?_ | refine w1q ?_ | refine w1b ?_ | refine w1p ?_ | ((first | refine w1r ?_ | refine w1k ?_ | refine w1e ?_); (refine sy1 ?_; try exact True.intro)) | refine an2 ?_ | fail)
    refine W_ret ?_
    exact ⟨[_], _, R2, ⟨rfl, rfl⟩, sameM.refl _, hBas _, (hX.dn (by omega)).up (by first | omega | (dsimp only; omega)), by rw [hKK]; exact ⟨rfl, rfl⟩⟩
  · rw [show ((r.length : Int) == 0) = false by rw [beq_eq_false_iff_ne]; omega]
    obtain ⟨k1, rfl⟩ : ∃ k1, k = k1 + 1 := ⟨k - 1, by omega⟩
    refine W_cond (by rfl) (fun h => by cases h) (fun _ => ?_)
    repeat' (first | refine w1g ?_ | refine w1l ?_ | refine w1q ?_ | refine w1b ?_ | refine w1p ?_ | ((first | refine w1r ?_ | refine w1k ?_ | refine w1e ?_); simp (maxSteps := 400000) (disch := omega) only [push_cast, ↓reduceIte, reduceCtorEq, Nat.reduceAdd, Nat.reduceSub, Nat.reduceEqDiff, Nat.reduceLeDiff, Nat.reduceLT, Nat.reduceBEq, Nat.reduceDiv, Nat.reduceMod, Nat.reducePow, Nat.reduceMul, Int.reduceToNat, Int.reduceLT, Int.reduceLE, ne_l, ne_r, bq_l, bq_r, ls_l, ls_r, lm_set_same, hlb, hsb, hH1]) | refine an2 ?_ | fail)
    refine W_loopX N0 (fun v : Nat × ι => [(19, iv v.1)]) (fun v => B v.2) (fun v => v.1 ≤ r.length ∧ v.2 = (prmI k1 h r v.1).foldl step b) (fun v => r.length - v.1) (fun v _ => hBas _) (hR'.le (show nx' ≤ nx' + 7 by omega)) (0, b) ⟨by dsimp only; omega, rfl⟩ (by rfl) (sameM.refl _) (fun v R1 nx1 hv hX => ?_)
    obtain ⟨i, c⟩ := v
    obtain ⟨hi, hc⟩ := hv
    dsimp only at hi hc ⊢
    have hX' : Ext nx' R' nx1 R1 := ((Ext.refl hR').up (show nx' ≤ nx' + 7 by omega)).trans hX
    have hN1 := hX'.n
    have hW2 : lm R1 kw = some (goB l kw) := (hX'.eq kw (by omega)).trans hW1
    have hH2 : lm R1 kh = some (.row sh 3 1 0 cI h) := (hX'.eq kh (by omega)).trans hH1
    have hO1 : Opq N0 R1 nx1 := hX'.opq hR'
    simp (maxSteps := 400000) (disch := omega) only [push_cast, ↓reduceIte, reduceCtorEq, Nat.reduceAdd, Nat.reduceSub, Nat.reduceEqDiff, Nat.reduceLeDiff, Nat.reduceLT, Nat.reduceBEq, Nat.reduceDiv, Nat.reduceMod, Nat.reducePow, Nat.reduceMul, Int.reduceToNat, Int.reduceLT, Int.reduceLE, keepL]
    repeat' (first | refine w1g ?_ | refine w1l ?_ | refine w1q ?_ | refine w1b ?_ | refine w1p ?_ | ((first | refine w1r ?_ | refine w1k ?_ | refine w1e ?_); simp (maxSteps := 400000) (disch := omega) only [push_cast, ↓reduceIte, reduceCtorEq, Nat.reduceAdd, Nat.reduceSub, Nat.reduceEqDiff, Nat.reduceLeDiff, Nat.reduceLT, Nat.reduceBEq, Nat.reduceDiv, Nat.reduceMod, Nat.reducePow, Nat.reduceMul, Int.reduceToNat, Int.reduceLT, Int.reduceLE, keepL, ne_l, ne_r, bq_l, bq_r, ls_l, ls_r, lm_set_same, hlb, hsb, hH2]) | refine an2 ?_ | fail)
    refine W_condD (by rfl) (fun h5 => ?_) (fun h5 => ?_)
    · have hil : i < r.length := by omega
      have g1 : r.getD i 0 = gi r i := rfl
      generalize hx : gi r i = x at *
      have hps : prmI k1 h r (i + 1) = prmI k1 h r i ++ prm k1 (h ++ [x]) (r.eraseIdx i) := by rw [prmI_succ, hx]
      have hel : (r.eraseIdx i).length = k1 := by rw [List.length_eraseIdx, if_pos hil]; omega
      have hPi : ∀ y ∈ prm k1 (h ++ [x]) (r.eraseIdx i), P y := fun y hy => hP y (List.mem_flatMap.2 ⟨i, List.mem_range.2 hil, by rw [hx]; exact hy⟩)
      have hI := ih k1 (h ++ [x]) (r.eraseIdx i) c hel hPi (by rw [List.length_append, List.length_singleton]; omega)
      repeat' (first | refine w1g ?_ | refine w1l ?_ | refine w1q ?_ | refine w1b ?_ | refine w1p ?_ | ((first | refine w1r ?_ | refine w1k ?_ | refine w1e ?_); simp (maxSteps := 400000) (disch := omega) only [push_cast, ↓reduceIte, reduceCtorEq, Nat.reduceAdd, Nat.reduceSub, Nat.reduceEqDiff, Nat.reduceLeDiff, Nat.reduceLT, Nat.reduceBEq, Nat.reduceDiv, Nat.reduceMod, Nat.reducePow, Nat.reduceMul, Int.reduceToNat, Int.reduceLT, Int.reduceLE, keepL, ne_l, ne_r, bq_l, bq_r, ls_l, ls_r, lm_set_same, hlb, hsb, hH2, g1]) | refine an2 ?_ | fail)
      refine CallC.row (fo130 r (by omega)) ?_
      simp (maxSteps := 400000) (disch := omega) only [push_cast, ↓reduceIte, reduceCtorEq, Nat.reduceAdd, Nat.reduceSub, Nat.reduceEqDiff, Nat.reduceLeDiff, Nat.reduceLT, Nat.reduceBEq, Nat.reduceDiv, Nat.reduceMod, Nat.reducePow, Nat.reduceMul, Int.reduceToNat, Int.reduceLT, Int.reduceLE, ne_l, ne_r, bq_l, bq_r, ls_l, ls_r, lm_set_same, hlb, hsb, hH2, g1]
      refine CallC.inl (Inl_del (by rw [hlb _ _ _ (by omega), lm_set_same]) hil ?_)
      simp (maxSteps := 400000) (disch := omega) only [push_cast, ↓reduceIte, reduceCtorEq, Nat.reduceAdd, Nat.reduceSub, Nat.reduceEqDiff, Nat.reduceLeDiff, Nat.reduceLT, Nat.reduceBEq, Nat.reduceDiv, Nat.reduceMod, Nat.reducePow, Nat.reduceMul, Int.reduceToNat, Int.reduceLT, Int.reduceLE, ne_l, ne_r, bq_l, bq_r, ls_l, ls_r, lm_set_same, hlb, hsb, hH2, g1, setm_setm]
      repeat' (first | refine w1g ?_ | refine w1l ?_ | refine w1q ?_ | refine w1b ?_ | refine w1p ?_ | ((first | refine W_regS 7 (by decide) (by decide) ?_ | refine w1r ?_ | refine w1k ?_ | refine w1e ?_); simp (maxSteps := 400000) (disch := omega) only [push_cast, ↓reduceIte, reduceCtorEq, Nat.reduceAdd, Nat.reduceSub, Nat.reduceEqDiff, Nat.reduceLeDiff, Nat.reduceLT, Nat.reduceBEq, Nat.reduceDiv, Nat.reduceMod, Nat.reducePow, Nat.reduceMul, Int.reduceToNat, Int.reduceLT, Int.reduceLE, ne_l, ne_r, bq_l, bq_r, ls_l, ls_r, lm_set_same, hlb, hsb, hH2, hW2, g1]) | refine an2 ?_ | fail)
      refine CallC.row (fo130 h (by omega)) ?_
      simp (maxSteps := 400000) (disch := omega) only [push_cast, ↓reduceIte, reduceCtorEq, Nat.reduceAdd, Nat.reduceSub, Nat.reduceEqDiff, Nat.reduceLeDiff, Nat.reduceLT, Nat.reduceBEq, Nat.reduceDiv, Nat.reduceMod, Nat.reducePow, Nat.reduceMul, Int.reduceToNat, Int.reduceLT, Int.reduceLE, ne_l, ne_r, bq_l, bq_r, ls_l, ls_r, lm_set_same, hlb, hsb, hH2, hW2, g1]
      refine ⟨rfl, trivial, Int, 0, cI, [x], rfl, by omega, fun x _ => ⟨rfl, rfl⟩, rfl, ?_⟩
      simp (maxSteps := 400000) (disch := omega) only [push_cast, ↓reduceIte, reduceCtorEq, Nat.reduceAdd, Nat.reduceSub, Nat.reduceEqDiff, Nat.reduceLeDiff, Nat.reduceLT, Nat.reduceBEq, Nat.reduceDiv, Nat.reduceMod, Nat.reducePow, Nat.reduceMul, Int.reduceToNat, Int.reduceLT, Int.reduceLE, ne_l, ne_r, bq_l, bq_r, ls_l, ls_r, lm_set_same, hlb, hsb, hH2, hW2, g1]
      refine ⟨rfl, ⟨by dsimp only; omega, (hasM_iff _ _).2 (by rw [hlb _ _ _ (by omega)]; simp (disch := omega) [lm, ne_l, ne_r, ls_l, ls_r, lm_set_same])⟩, trivial, [x], rfl, by first | omega | (simp; omega), by first | omega | (simp; omega), ?_⟩
      simp (maxSteps := 400000) (disch := omega) only [push_cast, ↓reduceIte, reduceCtorEq, Nat.reduceAdd, Nat.reduceSub, Nat.reduceEqDiff, Nat.reduceLeDiff, Nat.reduceLT, Nat.reduceBEq, Nat.reduceDiv, Nat.reduceMod, Nat.reducePow, Nat.reduceMul, Int.reduceToNat, Int.reduceLT, Int.reduceLE, ne_l, ne_r, bq_l, bq_r, ls_l, ls_r, lm_set_same, hlb, hsb, hH2, hW2, g1]
      have hX2 := fun (k1 k2 k3 N2 : Nat) (g1 g2 g3 g4 : Blk) (q1 : nx1 ≤ k1) (q2 : nx1 ≤ k2) (q3 : nx1 ≤ k3) (q4 : k1 < N2) (q5 : k2 < N2) (q6 : k3 < N2) => (((((Ext.refl hO1).put (g := g1) q1 q4 (by omega)).put (g := g2) q2 q5 (Nat.le_refl _)).put (g := g3) q3 q6 (Nat.le_refl _)).put (g := g4) q2 q5 (Nat.le_refl _))
      refine CallC.inl (Inl_le' (hI _ _ _ kw _ _ _ _ (Ext.opq (hX2 _ _ _ _ _ _ _ _ (by omega) (by omega) (by omega) (by omega) (by omega) (by omega)) hO1) ⟨by omega, by omega⟩ (by simp (disch := omega) only [ls_l, ls_r]; exact hW2) ⟨by omega, by omega⟩ (lm_set_same _ _ _) ⟨by omega, by omega⟩ (by rw [lm_set_other _ _ (by omega), lm_set_other _ _ (by omega), lm_set_other _ _ (by omega), lm_set_same])) (fun v s' hs2 => ?_))
      obtain ⟨B', R3, nx3, hB', hX3, ⟨rfl, rfl⟩, hl⟩ := hs2
      refine ⟨_, ?_, hl⟩
      (refine sy1 ?_; try exact True.intro)
      refine W_cond (by rfl) (fun h => by cases h) (fun _ => ?_)
      repeat' (first | refine w1g ?_ | refine w1l ?_ | refine w1q ?_ | refine w1b ?_ | refine w1p ?_ | ((first | refine w1r ?_ | refine w1k ?_ | refine w1e ?_); simp (maxSteps := 400000) (disch := omega) only [push_cast, ↓reduceIte, reduceCtorEq, Nat.reduceAdd, Nat.reduceSub, Nat.reduceEqDiff, Nat.reduceLeDiff, Nat.reduceLT, Nat.reduceBEq, Nat.reduceDiv, Nat.reduceMod, Nat.reducePow, Nat.reduceMul, Int.reduceToNat, Int.reduceLT, Int.reduceLE, keepL]) | refine an2 ?_ | fail)
      refine ⟨(i + 1, (prm k1 (h ++ [x]) (r.eraseIdx i)).foldl step c), R3, ⟨by dsimp only; omega, by dsimp only; rw [hps, List.foldl_append, ← hc]⟩, by dsimp only; omega, by rfl, sameM.refl _, ?_⟩
      exact ((hX2 _ _ _ _ _ _ _ _ (by omega) (by omega) (by omega) (by omega) (by omega) (by omega)).trans hX3).up (by first | omega | (dsimp only; omega))
    · obtain rfl : i = r.length := by omega
      repeat' (first | refine w1g ?_ | refine w1l ?_ | refine w1q ?_ | refine w1b ?_ | refine w1p ?_ | ((first | refine w1r ?_ | refine w1k ?_ | refine w1e ?_); (refine sy1 ?_; try exact True.intro)) | refine an2 ?_ | fail)
      refine W_ret ?_
      exact ⟨[_], _, R1, ⟨rfl, rfl⟩, sameM.refl _, hBas _, hX'.up (by first | omega | (dsimp only; omega)), by rw [hKK]; exact ⟨rfl, by rw [hc]; rfl⟩⟩
theorem i128 (hBas : ∀ b, Bas N0 (B b)) (HY : YP B step N0 l P) (L : List Int) (b : ι) (hP : ∀ x ∈ prm L.length [] L, P x) (hlen : L.length ≤ 1000) (tm : List (Nat × AV)) (R : Mem) (nx : Nat) (hR : Opq N0 R nx) :
    Inl Try.prog 128 [yv l, .fp [aI L] 0] ⟨tm, B b ++ R, nx⟩ (MidX N0 tm nx R fun v B' => v = pack [] ∧ B' = B ((prm L.length [] L).foldl step b)) := by
  refine Inl_opqE mixed Xt128 rfl hR (hBas b) (fun R' nx' hR' hlt hE => ?_)
  have hN := hR'.n
  have hlb : ∀ (b : ι) (R : Mem) (j : Nat), N0 ≤ j → lm (B b ++ R) j = lm R j := fun b R j hj => lm_app_r (hBas b j hj)
  have hsb : ∀ (b : ι) (R : Mem) (j : Nat) (x : Blk), N0 ≤ j → setm (B b ++ R) j x = B b ++ setm R j x := fun b R j x hj => setm_appr x (hBas b j hj)
  have hI := i129F hBas HY L.length (i129_all hBas HY) [] L b rfl hP (by simpa using hlen)
  obtain ⟨KK, hKK⟩ : ∃ KK : AV → Mem → Prop, KK = fun v B' => v = pack [] ∧ B' = B ((prm L.length [] L).foldl step b) := ⟨_, rfl⟩
  rw [← hKK]
  simp (maxSteps := 400000) (disch := omega) only [push_cast, ↓reduceIte, reduceCtorEq, Nat.reduceAdd, Nat.reduceSub, Nat.reduceEqDiff, Nat.reduceLeDiff, Nat.reduceLT, Nat.reduceBEq, Nat.reduceDiv, Nat.reduceMod, Nat.reducePow, Nat.reduceMul, Int.reduceToNat, Int.reduceLT, Int.reduceLE, initT]
  repeat' (first | refine w1g ?_ | refine w1l ?_ | refine w1q ?_ | refine w1b ?_ | refine w1p ?_ | ((first | refine w1r ?_ | refine w1k ?_ | refine w1e ?_); simp (maxSteps := 400000) (disch := omega) only [push_cast, ↓reduceIte, reduceCtorEq, Nat.reduceAdd, Nat.reduceSub, Nat.reduceEqDiff, Nat.reduceLeDiff, Nat.reduceLT, Nat.reduceBEq, Nat.reduceDiv, Nat.reduceMod, Nat.reducePow, Nat.reduceMul, Int.reduceToNat, Int.reduceLT, Int.reduceLE, ne_l, ne_r, bq_l, bq_r, ls_l, ls_r, lm_set_same, setm_setm, hlb, hsb]) | refine an2 ?_ | fail)
  refine ⟨⟨by omega, (hasM_iff _ _).2 (by rw [hlb _ _ _ (by omega), lm_set_same]; simp)⟩, ?_⟩
  repeat' (first | refine w1g ?_ | refine w1l ?_ | refine w1q ?_ | refine w1b ?_ | refine w1p ?_ | ((first | refine w1r ?_ | refine w1k ?_ | refine w1e ?_); simp (maxSteps := 400000) (disch := omega) only [push_cast, ↓reduceIte, reduceCtorEq, Nat.reduceAdd, Nat.reduceSub, Nat.reduceEqDiff, Nat.reduceLeDiff, Nat.reduceLT, Nat.reduceBEq, Nat.reduceDiv, Nat.reduceMod, Nat.reducePow, Nat.reduceMul, Int.reduceToNat, Int.reduceLT, Int.reduceLE, ne_l, ne_r, bq_l, bq_r, ls_l, ls_r, lm_set_same, setm_setm, hlb, hsb]) | refine an2 ?_ | fail)
  have hX1 := fun (k1 N2 : Nat) (g1 : Blk) (q1 : nx' ≤ k1) (q3 : k1 < N2) => (Ext.refl hR').put (g := g1) q1 q3 (by omega)
  have hX2 := fun (k1 N2 : Nat) (g1 : Blk) (q1 : nx' ≤ k1) (q3 : k1 < N2) => Ext.opq (hX1 k1 N2 g1 q1 q3) hR'
  refine CallC.inl (Inl_adopt 3 1 0 cI (by omega) (Inl_sameM (B b ++ ((nx' + 1 + 1 + 1 + 1 + 1 + 1, .row 0 3 1 0 cI []) :: setm R' (nx' + 1) (goB l (nx' + 1)))) _ (fun k => ((sm_push (hBas b) (by omega)) k).symm) (((hX2 (nx' + 1) (nx' + 1 + 1 + 1 + 1 + 1 + 1) _ (by omega) (by omega)).push _).mem (hBas b)) (Inl_le' (hI _ _ _ (nx' + 1) (nx' + 1 + 1 + 1 + 1 + 1 + 1) 0 ((hX2 (nx' + 1) (nx' + 1 + 1 + 1 + 1 + 1 + 1) _ (by omega) (by omega)).push _) ⟨by omega, by omega⟩ (by simp only [lm]; rw [if_neg (by omega)]; exact lm_set_same _ _ _) ⟨by omega, by omega⟩ (by simp [lm])) (fun v s' hs2 => ?_))))
  obtain ⟨B', R3, nx3, hB', hX3, ⟨rfl, rfl⟩, hl⟩ := hs2
  refine ⟨_, ?_, hl⟩
  (refine sy1 ?_; try exact True.intro)
  exact ⟨[], _, R3, rfl, sameM.refl _, hBas _, (((hX1 (nx' + 1) (nx' + 1 + 1 + 1 + 1 + 1 + 1) _ (by omega) (by omega)).push (Nat.le_refl _) (Nat.lt_succ_self _)).trans hX3).up (by first | omega | (dsimp only; omega)), by rw [hKK]; exact ⟨rfl, rfl⟩⟩
end
end Go.Proofs.Ytoiohkjomcbadaa

namespace Go.Proofs.Ytoiohkjomcbadaa
open Go Sy
set_option maxRecDepth 100000
set_option maxHeartbeats 4000000
set_option linter.unusedVariables false
set_option linter.unusedSimpArgs false
theorem pure_cV : ∀ x : List Value, pureAll (cV x) = true
  | [] => rfl
  | v :: x => by
    have := pure_cV x
    simp only [cV, List.map_cons, pureAll, pureB, Bool.true_and] at this ⊢
    exact this
theorem c108 : FnC Try.prog 108 52 1 := fun l hlv hl => by
  refine FnO_of_W mixed Xt108 rfl (fun x _ => pure_cV x) ?_
  repeat (first | refine WK_go ?_ | refine W_seqL ?_ | refine W_seq ?_ | refine W_block ?_)
  refine W_regL ?_
  (refine sy1 ?_; try exact True.intro)
  repeat (first | refine WK_go ?_ | refine W_seqL ?_ | refine W_seq ?_ | refine W_block ?_)
  refine W_regX [1] ?_
  simp (maxSteps := 400000) (disch := omega) only [push_cast, ↓reduceIte, reduceCtorEq, Nat.reduceAdd, Nat.reduceSub, Nat.reduceEqDiff, Nat.reduceLeDiff, Nat.reduceLT, Nat.reduceBEq, Nat.reduceDiv, Nat.reduceMod, Nat.reducePow, Nat.reduceMul, Int.reduceToNat, Int.reduceLT, Int.reduceLE, chainX, SpM, List.take_succ_cons, List.take_zero, List.drop_succ_cons, List.drop_zero]
  refine ⟨[], rfl, 1, List Value, [], cV, l, rfl, fun b hb => ?_⟩
  (refine sy1 ?_; try exact True.intro)
  cases b
  · refine W_cond (by rfl) (fun h => by cases h) (fun _ => ?_)
    repeat' (first | refine w1g ?_ | refine w1l ?_ | refine w1q ?_ | refine w1b ?_ | refine w1p ?_ | ((first | refine w1r ?_ | refine w1k ?_ | refine w1e ?_); (refine sy1 ?_; try exact True.intro)) | refine an2 ?_ | fail)
    refine ⟨rfl, trivial, List Value, [], cV, [], rfl, by omega, fun x hx => (by cases hx), rfl, ?_⟩
    (refine sy1 ?_; try exact True.intro)
    refine ⟨rfl, ⟨Nat.le_of_ble_eq_true rfl, rfl⟩, trivial, l, rfl, by first | omega | (simp; omega), by first | omega | (simp; omega), ?_⟩
    (refine sy1 ?_; try exact True.intro)
    exact W_ret ⟨_, _, ⟨rfl, rfl⟩, rfl⟩
  · refine W_cond (by rfl) (fun _ => ?_) (fun h => by cases h)
    have e : l = [] := by
      cases l with
      | nil => rfl
      | cons x r => have := hb (by simp); cases this
    subst e
    repeat' (first | refine w1g ?_ | refine w1l ?_ | refine w1q ?_ | refine w1b ?_ | refine w1p ?_ | ((first | refine w1r ?_ | refine w1k ?_ | refine w1e ?_); (refine sy1 ?_; try exact True.intro)) | refine an2 ?_ | fail)
    refine W_le (le_adopt 2 52 1 [] cV (by omega) rfl) ?_
    (refine sy1 ?_; try exact True.intro)
    exact W_ret ⟨_, _, ⟨rfl, rfl⟩, rfl⟩
theorem fn59 (j : Jb) : Sy.Fn Try.prog 59 [aJ j] (.clo 106 [] [.fp (cJ j) 0]) := by
  refine Fn_of_W mixed Xt59 rfl ?_
  repeat' (first | refine w1g ?_ | refine w1l ?_ | refine w1q ?_ | refine w1b ?_ | refine w1p ?_ | ((first | refine w1r ?_ | refine w1k ?_ | refine w1e ?_); (refine sy1 ?_; try exact True.intro)) | refine an2 ?_ | fail)
  exact W_ret ⟨[_], ⟨rfl, rfl⟩, rfl⟩
theorem fn109 (l : List Int) : Sy.Fn Try.prog 109 [aI l] (.clo 128 [] [.fp [aI l] 0]) := by
  refine Fn_of_W mixed Xt109 rfl ?_
  repeat' (first | refine w1g ?_ | refine w1l ?_ | refine w1q ?_ | refine w1b ?_ | refine w1p ?_ | ((first | refine w1r ?_ | refine w1k ?_ | refine w1e ?_); (refine sy1 ?_; try exact True.intro)) | refine an2 ?_ | fail)
  exact W_ret ⟨[_], ⟨rfl, rfl⟩, rfl⟩
def ordsK (j : Jb) : Nat → List (List Int) → List (List (List Int))
  | 0, h => [h]
  | k + 1, h => (prm (memT j h.length).length [] (memT j h.length)).flatMap fun x => ordsK j k (h ++ [x])
theorem RndX_of {N0 kl l nx nx3 : Nat} {L : Loop} {K : Bool → Mem → Prop} {Bk R R1 R3 : Mem} {tm2 : List (Nat × AV)} {s' : S} (hB : Bas N0 Bk) (h01 : N0 ≤ kl) (hR1 : ∀ j, kl ≤ j → lm R1 j = none) (hR : Opq (kl + 1) R nx)
    (hX : Ext nx (((kl, .oth (.lp l (busyL L) tm2)) :: R1) ++ R) nx3 R3) (hs : s'.mem = Bk ++ R3) (hn : nx3 ≤ s'.nx) (hK : K true (Bk ++ ((kl, .oth (.lp l L tm2)) :: R1))) : RndX (kl + 1) kl l L nx R K .n s' := by
  have hBk : ∀ j, kl ≤ j → lm Bk j = none := fun j hj => hB j (by omega)
  have hRn := hR.n
  have hXn := hX.n
  have hlo : ∀ j, j < kl + 1 → lm R3 j = lm ((kl, Blk.oth (.lp l (busyL L) tm2)) :: R1) j := fun j hj => by
    rw [hX.eq j (by omega), lm_app, hR.lo j hj]
    cases lm ((kl, Blk.oth (.lp l (busyL L) tm2)) :: R1) j <;> rfl
  have hhi : ∀ j, kl + 1 ≤ j → lm ((kl, Blk.oth (.lp l (busyL L) tm2)) :: R1) j = none := fun j hj => by
    simp only [lm]
    rw [if_neg (by omega)]
    exact hR1 j (by omega)
  refine ⟨Bk ++ ((kl, .oth (.lp l (busyL L) tm2)) :: R1), hiM (kl + 1) R3, tm2, fun j => ?_, fun j hj => ?_, ⟨by omega, fun j hj => ?_, fun j hj => ?_⟩, ?_, ?_⟩
  · rw [hs, List.append_assoc]
    cases hb : lm Bk j with
    | some b => rw [lm_app, hb, lm_app Bk R3, hb]
    | none =>
      rw [lm_app_r hb, lm_app_r hb]
      rcases Nat.lt_or_ge j (kl + 1) with q | q
      · rw [hlo j q, lm_app, lm_hiM, if_neg (by omega)]
        cases lm ((kl, Blk.oth (.lp l (busyL L) tm2)) :: R1) j <;> rfl
      · rw [lm_app_r (hhi j q), lm_hiM, if_pos q]
  · rw [lm_app_r (hBk j (by omega)), hhi j hj]
  · rw [lm_hiM]
    by_cases q : kl + 1 ≤ j
    · rw [if_pos q, hX.eq j hj, lm_app_r (hhi j q)]
    · rw [if_neg q, hR.lo j (by omega)]
  · rw [lm_hiM]
    split
    · exact hX.hi j (by omega)
    · rfl
  · rw [lm_app_r (hBk kl (Nat.le_refl _))]
    simp [lm]
  · show K true (setm (Bk ++ ((kl, .oth (.lp l (busyL L) tm2)) :: R1)) kl (.oth (.lp l L tm2)))
    rw [setm_appr _ (hBk kl (Nat.le_refl _))]
    simp only [setm, if_true]
    exact hK
section
variable {ι : Type} {B : ι → Mem} {step : ι → List (List Int) → ι} {N0 l : Nat} {P : List (List Int) → Prop}
abbrev YO (B : ι → Mem) (step : ι → List (List Int) → ι) (N0 l : Nat) (P : List (List Int) → Prop) : Prop := ∀ b x, P x → ∀ tm R nx, Opq N0 R nx → Yl Try.prog l [aO x] ⟨tm, B b ++ R, nx⟩ (MidY N0 tm nx R (fun r B' => r = true ∧ B' = B (step b x)))
abbrev goO (j : Jb) (l kw : Nat) : Blk := .cells [.cq 107 [] [.fp (cJ j) 0, .fp [yv l] 0, .own kw 0]]
abbrev i107P (j : Jb) (B : ι → Mem) (step : ι → List (List Int) → ι) (N0 l : Nat) (P : List (List Int) → Prop) (k : Nat) : Prop := ∀ (h : List (List Int)) (b : ι), h.length + k = j.tm.length → (∀ x ∈ ordsK j k h, P x) →
  ∀ (tm : List (Nat × AV)) (R : Mem) (nx kw kh sh : Nat), Opq N0 R nx → (N0 ≤ kw ∧ kw < nx) → lm R kw = some (goO j l kw) → (N0 ≤ kh ∧ kh < nx) → lm R kh = some (.row sh 52 1 [] cO h) →
    Inl Try.prog 107 [.row kh sh, .fp (cJ j) 0, .fp [yv l] 0, .own kw 0] ⟨tm, B b ++ R, nx⟩ (MidX N0 tm nx R fun v B' => v = bv true ∧ B' = B ((ordsK j k h).foldl step b))
theorem i107 {j : Jb} (hG : OkJ j) (hBas : ∀ b, Bas N0 (B b)) (HY : YO B step N0 l P) (k : Nat) (ih : ∀ k', k' < k → i107P j B step N0 l P k') : i107P j B step N0 l P k := by
  intro h b hlen hP tm R nx kw kh sh hR hkw hW hkh hH
  refine Inl_opqE mixed Xt107 rfl hR (hBas b) (fun R' nx' hR' hlt hE => ?_)
  have hW1 : lm R' kw = some (goO j l kw) := (hE kw hkw.2).trans hW
  have hH1 : lm R' kh = some (.row sh 52 1 [] cO h) := (hE kh hkh.2).trans hH
  have hN := hR'.n
  have hnt := hG.nt
  have hnn := hG.n
  have hlb : ∀ (b : ι) (R : Mem) (j : Nat), N0 ≤ j → lm (B b ++ R) j = lm R j := fun b R j hj => lm_app_r (hBas b j hj)
  have hsb : ∀ (b : ι) (R : Mem) (j : Nat) (x : Blk), N0 ≤ j → setm (B b ++ R) j x = B b ++ setm R j x := fun b R j x hj => setm_appr x (hBas b j hj)
  obtain ⟨KK, hKK⟩ : ∃ KK : AV → Mem → Prop, KK = fun v B' => v = bv true ∧ B' = B ((ordsK j k h).foldl step b) := ⟨_, rfl⟩
  rw [← hKK]
  simp (maxSteps := 400000) (disch := omega) only [push_cast, ↓reduceIte, reduceCtorEq, Nat.reduceAdd, Nat.reduceSub, Nat.reduceEqDiff, Nat.reduceLeDiff, Nat.reduceLT, Nat.reduceBEq, Nat.reduceDiv, Nat.reduceMod, Nat.reducePow, Nat.reduceMul, Int.reduceToNat, Int.reduceLT, Int.reduceLE, initT]
  repeat' (first | refine w1g ?_ | refine w1l ?_ | refine w1q ?_ | refine w1b ?_ | refine w1p ?_ | ((first | refine w1r ?_ | refine w1k ?_ | refine w1e ?_); simp (maxSteps := 400000) (disch := omega) only [push_cast, ↓reduceIte, reduceCtorEq, Nat.reduceAdd, Nat.reduceSub, Nat.reduceEqDiff, Nat.reduceLeDiff, Nat.reduceLT, Nat.reduceBEq, Nat.reduceDiv, Nat.reduceMod, Nat.reducePow, Nat.reduceMul, Int.reduceToNat, Int.reduceLT, Int.reduceLE, ne_l, ne_r, bq_l, bq_r, ls_l, ls_r, lm_set_same, hlb, hsb, hH1]) | refine an2 ?_ | fail)
  by_cases hk0 : k = 0
  · subst hk0
    rw [show ((h.length : Int) == (j.tm.length : Int)) = true by rw [beq_iff_eq]; omega]
    have hx : P h := hP h (List.mem_singleton.2 rfl)
    refine W_cond (by rfl) (fun _ => ?_) (fun h => by cases h)
    repeat' (first | refine w1g ?_ | refine w1l ?_ | refine w1q ?_ | refine w1b ?_ | refine w1p ?_ | ((first | refine W_regS 3 (by decide) (by decide) ?_ | refine w1r ?_ | refine w1k ?_ | refine w1e ?_); simp (maxSteps := 400000) (disch := omega) only [push_cast, ↓reduceIte, reduceCtorEq, Nat.reduceAdd, Nat.reduceSub, Nat.reduceEqDiff, Nat.reduceLeDiff, Nat.reduceLT, Nat.reduceBEq, Nat.reduceDiv, Nat.reduceMod, Nat.reducePow, Nat.reduceMul, Int.reduceToNat, Int.reduceLT, Int.reduceLE, ne_l, ne_r, bq_l, bq_r, ls_l, ls_r, lm_set_same, hlb, hsb, hH1]) | refine an2 ?_ | fail)
    refine CallC.cpz 52 c108 (by omega) ?_
    simp (maxSteps := 400000) (disch := omega) only [push_cast, ↓reduceIte, reduceCtorEq, Nat.reduceAdd, Nat.reduceSub, Nat.reduceEqDiff, Nat.reduceLeDiff, Nat.reduceLT, Nat.reduceBEq, Nat.reduceDiv, Nat.reduceMod, Nat.reducePow, Nat.reduceMul, Int.reduceToNat, Int.reduceLT, Int.reduceLE, ne_l, ne_r, bq_l, bq_r, ls_l, ls_r, lm_set_same, hlb, hsb, hH1]
    have hX1 := fun (k1 N2 : Nat) (g1 : Blk) (q1 : nx' ≤ k1) (q3 : k1 < N2) => (Ext.refl hR').put (g := g1) q1 q3 (by omega)
    refine StopC.yld (fun hpc => ⟨trivial, Yl_le (HY b h hx _ _ _ (Ext.opq (hX1 _ _ _ (by omega) (by omega)) hR')) (fun v s' hs => ?_)⟩) (fun hpc => absurd trivial hpc)
    obtain ⟨B', R2, nx2, hB', hX, ⟨rfl, rfl⟩, hl⟩ := hs
    refine ⟨_, ?_, hl⟩
    have hc2 : lm R2 (nx' + 1) = some (.cells [bv false]) := (hX.eq _ (by omega)).trans (lm_set_same _ _ _)
    have hX2 := (hX1 _ _ _ (by omega) (by omega)).trans hX
    have hn2 := hX.n
    clear hX hl
    simp (maxSteps := 400000) (disch := omega) only [push_cast, ↓reduceIte, reduceCtorEq, Nat.reduceAdd, Nat.reduceSub, Nat.reduceEqDiff, Nat.reduceLeDiff, Nat.reduceLT, Nat.reduceBEq, Nat.reduceDiv, Nat.reduceMod, Nat.reducePow, Nat.reduceMul, Int.reduceToNat, Int.reduceLT, Int.reduceLE, ne_l, ne_r, bq_l, bq_r, ls_l, ls_r, lm_set_same, hlb, hsb, hH1, hc2]
    repeat' (first | refine w1g ?_ | refine w1l ?_ | refine w1q ?_ | refine w1b ?_ | refine w1p ?_ | ((first | refine w1r ?_ | refine w1k ?_ | refine w1e ?_); simp (maxSteps := 400000) (disch := omega) only [push_cast, ↓reduceIte, reduceCtorEq, Nat.reduceAdd, Nat.reduceSub, Nat.reduceEqDiff, Nat.reduceLeDiff, Nat.reduceLT, Nat.reduceBEq, Nat.reduceDiv, Nat.reduceMod, Nat.reducePow, Nat.reduceMul, Int.reduceToNat, Int.reduceLT, Int.reduceLE, ne_l, ne_r, bq_l, bq_r, ls_l, ls_r, lm_set_same, hlb, hsb, hH1, hc2, setm_setm]) | refine an2 ?_ | fail)
    refine ⟨⟨by omega, (hasM_iff _ _).2 (by rw [hlb _ _ _ (by omega), hc2]; simp)⟩, ?_⟩
    repeat' (first | refine w1g ?_ | refine w1l ?_ | refine w1q ?_ | refine w1b ?_ | refine w1p ?_ | ((first | refine w1r ?_ | refine w1k ?_ | refine w1e ?_); simp (maxSteps := 400000) (disch := omega) only [push_cast, ↓reduceIte, reduceCtorEq, Nat.reduceAdd, Nat.reduceSub, Nat.reduceEqDiff, Nat.reduceLeDiff, Nat.reduceLT, Nat.reduceBEq, Nat.reduceDiv, Nat.reduceMod, Nat.reducePow, Nat.reduceMul, Int.reduceToNat, Int.reduceLT, Int.reduceLE, ne_l, ne_r, bq_l, bq_r, ls_l, ls_r, lm_set_same, hlb, hsb, hH1, hc2, setm_setm]) | refine an2 ?_ | fail)
    refine W_ret ?_
    have hlc : lm (B (step b h) ++ setm R2 (nx' + 1) (.cells [bv true])) (nx' + 1) = some (.cells [bv true]) := by rw [hlb _ _ _ (by omega), lm_set_same]
    refine ⟨[bv true], _, setm R2 (nx' + 1) (.cells [bv true]), ⟨?_, rfl⟩, sameM.refl _, hBas _, (hX2.put (nx2 := nx2) (by omega) (by omega) (Nat.le_refl _)).up (by first | omega | (dsimp only; omega)), by rw [hKK]; exact ⟨rfl, rfl⟩⟩
    show isOK (ldA (lm (B (step b h) ++ setm R2 (nx' + 1) (.cells [bv true]))) 1 false (.own (nx' + 1) 0)) (bv true)
    simp only [ldA, hlc]
    exact ⟨⟨trivial, Nat.le_of_ble_eq_true rfl⟩, rfl⟩
  · rw [show ((h.length : Int) == (j.tm.length : Int)) = false by rw [beq_eq_false_iff_ne]; omega]
    obtain ⟨k1, rfl⟩ : ∃ k1, k = k1 + 1 := ⟨k - 1, by omega⟩
    refine W_cond (by rfl) (fun h => by cases h) (fun _ => ?_)
    have c58 := fn58 j h.length (by omega)
    have c109 := fn109 (memT j h.length)
    repeat' (first | refine w1g ?_ | refine w1l ?_ | refine w1q ?_ | refine w1b ?_ | refine w1p ?_ | ((first | refine w1r ?_ | refine w1k ?_ | refine w1e ?_ | refine CallC.now (c58) ?_ | refine CallC.now (c109) ?_); simp (maxSteps := 400000) (disch := omega) only [push_cast, ↓reduceIte, reduceCtorEq, Nat.reduceAdd, Nat.reduceSub, Nat.reduceEqDiff, Nat.reduceLeDiff, Nat.reduceLT, Nat.reduceBEq, Nat.reduceDiv, Nat.reduceMod, Nat.reducePow, Nat.reduceMul, Int.reduceToNat, Int.reduceLT, Int.reduceLE, ne_l, ne_r, bq_l, bq_r, ls_l, ls_r, lm_set_same, hlb, hsb, hH1]) | refine an2 ?_ | fail)
    have hLl : (memT j h.length).length ≤ 24 := by
      have h1 : (memT j h.length).length ≤ j.ts.length := by
        show (((List.range j.ts.length).filter (isM j h.length)).map Int.ofNat).length ≤ _
        rw [List.length_map]
        exact Nat.le_trans (List.length_filter_le _ _) (by rw [List.length_range]; exact Nat.le_refl _)
      omega
    have hPo : ∀ x ∈ prm (memT j h.length).length [] (memT j h.length), ∀ o ∈ ordsK j k1 (h ++ [x]), P o := fun x hx o ho => hP o (List.mem_flatMap.2 ⟨x, hx, ho⟩)
    have hfold : ∀ (l : List (List Int)) (b : ι), (l.flatMap fun x => ordsK j k1 (h ++ [x])).foldl step b = l.foldl (fun b x => (ordsK j k1 (h ++ [x])).foldl step b) b := fun l => by
      induction l with
      | nil => intro b; rfl
      | cons x l il => intro b; rw [List.flatMap_cons, List.foldl_append, il]; rfl
    have hIH := fun x b => ih k1 (Nat.lt_succ_self _) (h ++ [x]) b (by rw [List.length_append, List.length_singleton]; omega)
    have hKf : ordsK j (k1 + 1) h = (prm (memT j h.length).length [] (memT j h.length)).flatMap fun x => ordsK j k1 (h ++ [x]) := rfl
    rw [hKf, hfold] at hKK
    generalize memT j h.length = L at *
    clear hKf hfold hP c58 c109
    have hX1 := fun (k1 N2 : Nat) (g1 : Blk) (q1 : nx' ≤ k1) (q3 : k1 < N2) => (Ext.refl hR').put (g := g1) q1 q3 (by omega)
    refine W_rfn (.inl rfl) (fun lp LP hLP => ?_)
    obtain ⟨TM, hTM⟩ : ∃ TM : List (Nat × AV), TM = [(3, .own kw 0), (4, .fq [.row kh sh] 0), (5, .own (nx' + 1) 0), (21, .clo 128 [] [.fp [aI L] 0])] := ⟨_, rfl⟩
    obtain ⟨R1, hR1⟩ : ∃ R1, R1 = setm R' (nx' + 1) (.cells [bv false]) := ⟨_, rfl⟩
    obtain ⟨kl, hkl⟩ : ∃ kl, kl = nx' + 13 := ⟨_, rfl⟩
    have hXr : Ext nx' R' kl R1 := by rw [hR1]; exact hX1 _ _ _ (by omega) (by omega)
    have hOr : Opq N0 R1 kl := hXr.opq hR'
    have hWr : lm R1 kw = some (goO j l kw) := (hXr.eq kw (by omega)).trans hW1
    have hHr : lm R1 kh = some (.row sh 52 1 [] cO h) := (hXr.eq kh (by omega)).trans hH1
    have hCr : lm R1 (nx' + 1) = some (.cells [bv false]) := by rw [hR1]; exact lm_set_same _ _ _
    obtain ⟨B1, hB1⟩ : ∃ B1 : ι → Mem, B1 = fun b => B b ++ ((kl, .oth (.lp lp LP TM)) :: R1) := ⟨_, rfl⟩
    have hBs1 : ∀ c, Bas (kl + 1) (B1 c) := fun c z hz => by
      rw [hB1, lm_app_r (hBas c z (by omega))]
      simp only [lm]
      rw [if_neg (by omega)]
      exact hOr.hi z (by omega)
    have hk1 : ∀ c, lm (B1 c) kl = some (.oth (.lp lp LP TM)) := fun c => by
      rw [hB1, lm_app_r (hBas c kl (by omega))]
      simp [lm]
    have HY1 : YP B1 (fun b x => (ordsK j k1 (h ++ [x])).foldl step b) (kl + 1) lp (fun x => x ∈ prm L.length [] L) := fun c x hx tmc Rc nxc hRc => by
      refine Yl_opqX mixed hLP (k := kl) (tml := TM) (hk1 c) rfl rfl hRc (hBs1 c) (fun R2 nx2 hR2 hlt2 hE2 => ?_)
      have hN2 := hR2.n
      rw [hTM]
      (refine sy1 ?_; try exact True.intro)
      repeat' (first | refine w1g ?_ | refine w1l ?_ | refine w1q ?_ | refine w1b ?_ | refine w1p ?_ | ((first | refine w1r ?_ | refine w1k ?_ | refine w1e ?_); (refine sy1 ?_; try exact True.intro)) | refine an2 ?_ | fail)
      refine ⟨B1 c, TM, rfl, hk1 c, ?_⟩
      have e : setm (B1 c) kl (.oth (.lp lp (busyL LP) TM)) ++ R2 = B c ++ (((kl, .oth (.lp lp (busyL LP) TM)) :: R1) ++ R2) := by
        rw [hB1, setm_appr _ (hBas c kl (by omega))]
        simp only [setm, if_true]
        rw [List.append_assoc]
      rw [e]
      obtain ⟨Rb, hRb⟩ : ∃ Rb, Rb = ((kl, Blk.oth (.lp lp (busyL LP) TM)) :: R1) ++ R2 := ⟨_, rfl⟩
      rw [← hRb]
      have hlow : ∀ z, z < kl → lm Rb z = lm R1 z := fun z hz => by
        rw [hRb, lm_app]
        simp only [lm]
        rw [if_neg (by omega)]
        cases hq : lm R1 z with
        | some w => rfl
        | none => exact hR2.lo z (by omega)
      have hWb : lm Rb kw = some (goO j l kw) := (hlow kw (by omega)).trans hWr
      have hHb : lm Rb kh = some (.row sh 52 1 [] cO h) := (hlow kh (by omega)).trans hHr
      have hOb : Opq N0 Rb nx2 := ⟨by omega, fun z hz => by rw [hlow z (by omega)]; exact hOr.lo z hz, fun z hz => by
        rw [hRb, lm_app]
        simp only [lm]
        rw [if_neg (by omega), hOr.hi z (by omega)]
        exact hR2.hi z hz⟩
      (refine sy1 ?_; try exact True.intro)
      repeat' (first | refine w1g ?_ | refine w1l ?_ | refine w1q ?_ | refine w1b ?_ | refine w1p ?_ | ((first | refine W_regS 6 (by decide) (by decide) ?_ | refine w1r ?_ | refine w1k ?_ | refine w1e ?_); simp (maxSteps := 400000) (disch := omega) only [push_cast, ↓reduceIte, reduceCtorEq, Nat.reduceAdd, Nat.reduceSub, Nat.reduceEqDiff, Nat.reduceLeDiff, Nat.reduceLT, Nat.reduceBEq, Nat.reduceDiv, Nat.reduceMod, Nat.reducePow, Nat.reduceMul, Int.reduceToNat, Int.reduceLT, Int.reduceLE, ne_l, ne_r, bq_l, bq_r, ls_l, ls_r, lm_set_same, hlb, hsb, hHb, hWb]) | refine an2 ?_ | fail)
      refine CallC.cpy c108 (by omega) ?_
      simp (maxSteps := 400000) (disch := omega) only [push_cast, ↓reduceIte, reduceCtorEq, Nat.reduceAdd, Nat.reduceSub, Nat.reduceEqDiff, Nat.reduceLeDiff, Nat.reduceLT, Nat.reduceBEq, Nat.reduceDiv, Nat.reduceMod, Nat.reducePow, Nat.reduceMul, Int.reduceToNat, Int.reduceLT, Int.reduceLE, ne_l, ne_r, bq_l, bq_r, ls_l, ls_r, lm_set_same, hlb, hsb, hHb, hWb]
      refine ⟨rfl, trivial, (List Int), [], cO, [x], rfl, by omega, fun x _ => ⟨rfl, rfl⟩, rfl, ?_⟩
      simp (maxSteps := 400000) (disch := omega) only [push_cast, ↓reduceIte, reduceCtorEq, Nat.reduceAdd, Nat.reduceSub, Nat.reduceEqDiff, Nat.reduceLeDiff, Nat.reduceLT, Nat.reduceBEq, Nat.reduceDiv, Nat.reduceMod, Nat.reducePow, Nat.reduceMul, Int.reduceToNat, Int.reduceLT, Int.reduceLE, ne_l, ne_r, bq_l, bq_r, ls_l, ls_r, lm_set_same, hlb, hsb, hHb, hWb]
      refine ⟨rfl, ⟨by dsimp only; omega, (hasM_iff _ _).2 (by rw [hlb _ _ _ (by omega)]; simp (disch := omega) [lm, ne_l, ne_r, ls_l, ls_r, lm_set_same])⟩, trivial, [x], rfl, by first | omega | (simp; omega), by first | omega | (simp; omega), ?_⟩
      simp (maxSteps := 400000) (disch := omega) only [push_cast, ↓reduceIte, reduceCtorEq, Nat.reduceAdd, Nat.reduceSub, Nat.reduceEqDiff, Nat.reduceLeDiff, Nat.reduceLT, Nat.reduceBEq, Nat.reduceDiv, Nat.reduceMod, Nat.reducePow, Nat.reduceMul, Int.reduceToNat, Int.reduceLT, Int.reduceLE, ne_l, ne_r, bq_l, bq_r, ls_l, ls_r, lm_set_same, hlb, hsb, hHb, hWb]
      have hX3 := fun (k1 k2 N2 : Nat) (g1 g2 g3 : Blk) (q1 : nx2 ≤ k1) (q2 : nx2 ≤ k2) (q3 : k1 < N2) (q4 : k2 < N2) => ((((Ext.refl hOb).put (g := g1) q1 q3 (by omega)).put (g := g2) q2 q4 (Nat.le_refl _)).put (g := g3) q1 q3 (Nat.le_refl _))
      refine CallC.inl (Inl_le' (hIH x c (hPo x hx) _ _ _ kw _ _ (Ext.opq (hX3 _ _ _ _ _ _ (by omega) (by omega) (by omega) (by omega)) hOb) ⟨by omega, by omega⟩ (by simp (disch := omega) only [ls_l, ls_r]; exact hWb) ⟨by omega, by omega⟩ (lm_set_same _ _ _)) (fun v s' hs2 => ?_))
      obtain ⟨B', R3, nx3, hB', hX4, ⟨rfl, rfl⟩, hl⟩ := hs2
      refine ⟨_, ?_, hl⟩
      have hX5 := (hX3 _ _ _ _ _ _ (by omega) (by omega) (by omega) (by omega)).trans hX4
      rw [hRb] at hX5
      clear hX4 hl
      (refine sy1 ?_; try exact True.intro)
      refine W_cond (by rfl) (fun h => by cases h) (fun _ => ?_)
      refine W_skip ?_
      simp only [blockQ]
      refine RndX_of (R1 := R1) (hBas ((ordsK j k1 (h ++ [x])).foldl step c)) (by omega) hOr.hi hR2 hX5 rfl (by first | omega | (dsimp only; omega)) ⟨rfl, ?_⟩
      rw [hB1]
    show Inl Try.prog 128 [yv lp, .fp [aI L] 0] _ (EndL (nx' + 1 + 1 + 1 + 1 + 1 + 1 + 1 + 1 + 1 + 1 + 1 + 1 + 1) lp _)
    rw [show nx' + 1 + 1 + 1 + 1 + 1 + 1 + 1 + 1 + 1 + 1 + 1 + 1 + 1 = kl by omega]
    refine Inl_sameM (B1 b) (kl + 1) ?_ (hBs1 b) ?_
    · rw [hB1, hkl, hTM, hR1]
      exact fun z => ((sm_push (hBas b) (by omega)) z).symm
    have hI := i128 hBs1 HY1 L b (fun x hx => hx) (by omega) TM [] (kl + 1) (opq_nil (kl + 1))
    rw [List.append_nil, hTM] at hI
    refine Inl_le' hI (fun v s' hs => ?_)
    obtain ⟨B', R2, nx2, hB', hX2, ⟨rfl, rfl⟩, hl⟩ := hs
    have hO2 := hX2.opq (opq_nil (kl + 1))
    have hn2 := hX2.n
    refine ⟨_, ?_, hl⟩
    refine ⟨LP, TM, by dsimp only; rw [lm_app, hk1], by rw [hLP.st]; simp, ?_⟩
    rw [hLP.pe]
    simp (maxSteps := 400000) (disch := omega) only [push_cast, ↓reduceIte, reduceCtorEq, Nat.reduceAdd, Nat.reduceSub, Nat.reduceEqDiff, Nat.reduceLeDiff, Nat.reduceLT, Nat.reduceBEq, Nat.reduceDiv, Nat.reduceMod, Nat.reducePow, Nat.reduceMul, Int.reduceToNat, Int.reduceLT, Int.reduceLE, EndP]
    generalize hb2 : (prm L.length [] L).foldl (fun b x => (ordsK j k1 (h ++ [x])).foldl step b) b = b2 at *
    have hXf : Ext nx' R' nx2 (R1 ++ R2) := ⟨by omega, fun z hz => by
      rw [lm_app, hO2.lo z (by omega), hXr.eq z hz]
      cases lm R' z <;> rfl, fun z hz => by
      rw [lm_app_r (hOr.hi z (by omega))]
      exact hO2.hi z hz⟩
    have hCf : lm (R1 ++ R2) (nx' + 1) = some (.cells [bv false]) := by rw [lm_app, hCr]
    refine WK_go (W_le (leS.le (leS_sameM (B b2 ++ (R1 ++ R2)) nx2 (fun z => ?_) ?_)) ?_)
    · show lm (B b2 ++ (R1 ++ R2)) z = lm (delm (B1 b2 ++ R2) kl) z
      rw [lm_delm]
      by_cases q : z = kl
      · rw [if_pos q, q, lm_app_r (hBas b2 kl (by omega)), lm_app_r (hOr.hi kl (Nat.le_refl _))]
        exact hO2.lo kl (by omega)
      · rw [if_neg q, hB1, List.append_assoc]
        cases hz : lm (B b2) z with
        | some w => rw [lm_app, hz, lm_app (B b2), hz]
        | none =>
          rw [lm_app_r hz, lm_app_r hz]
          show _ = lm ((kl, Blk.oth (.lp lp LP TM)) :: (R1 ++ R2)) z
          simp only [lm]
          rw [if_neg q]
    · exact ((hXf.opq hR').mem (hBas b2))
    repeat' (first | refine w1g ?_ | refine w1l ?_ | refine w1q ?_ | refine w1b ?_ | refine w1p ?_ | ((first | refine w1r ?_ | refine w1k ?_ | refine w1e ?_); simp (maxSteps := 400000) (disch := omega) only [push_cast, ↓reduceIte, reduceCtorEq, Nat.reduceAdd, Nat.reduceSub, Nat.reduceEqDiff, Nat.reduceLeDiff, Nat.reduceLT, Nat.reduceBEq, Nat.reduceDiv, Nat.reduceMod, Nat.reducePow, Nat.reduceMul, Int.reduceToNat, Int.reduceLT, Int.reduceLE, ne_l, ne_r, bq_l, bq_r, ls_l, ls_r, lm_set_same, hlb, hsb, hCf]) | refine an2 ?_ | fail)
    refine ⟨⟨by omega, (hasM_iff _ _).2 (by rw [hlb _ _ _ (by omega), hCf]; simp)⟩, ?_⟩
    refine W_ret ?_
    have hlc : lm (B b2 ++ setm (R1 ++ R2) (nx' + 1) (.cells [bv true])) (nx' + 1) = some (.cells [bv true]) := by rw [hlb _ _ _ (by omega), lm_set_same]
    refine ⟨[bv true], _, setm (R1 ++ R2) (nx' + 1) (.cells [bv true]), ⟨?_, rfl⟩, sameM.refl _, hBas _, (hXf.put (nx2 := nx2) (by omega) (by omega) (Nat.le_refl _)).up (by first | omega | (dsimp only; omega)), by rw [hKK]; exact ⟨rfl, rfl⟩⟩
    show isOK (ldA (lm (B b2 ++ setm (R1 ++ R2) (nx' + 1) (.cells [bv true]))) 1 false (.own (nx' + 1) 0)) (bv true)
    simp only [ldA, hlc]
    exact ⟨⟨trivial, Nat.le_of_ble_eq_true rfl⟩, rfl⟩
theorem i107_all {j : Jb} (hG : OkJ j) (hBas : ∀ b, Bas N0 (B b)) (HY : YO B step N0 l P) (k : Nat) : i107P j B step N0 l P k := by
  induction k using Nat.strongRecOn with
  | _ k ih => exact i107 hG hBas HY k ih
theorem i106 {j : Jb} (hG : OkJ j) (hBas : ∀ b, Bas N0 (B b)) (HY : YO B step N0 l P) (b : ι) (hP : ∀ x ∈ ordsK j j.tm.length [], P x) (tm : List (Nat × AV)) (R : Mem) (nx : Nat) (hR : Opq N0 R nx) :
    Inl Try.prog 106 [yv l, .fp (cJ j) 0] ⟨tm, B b ++ R, nx⟩ (MidX N0 tm nx R fun v B' => v = pack [] ∧ B' = B ((ordsK j j.tm.length []).foldl step b)) := by
  refine Inl_opqE mixed Xt106 rfl hR (hBas b) (fun R' nx' hR' hlt hE => ?_)
  have hN := hR'.n
  have hlb : ∀ (b : ι) (R : Mem) (j : Nat), N0 ≤ j → lm (B b ++ R) j = lm R j := fun b R j hj => lm_app_r (hBas b j hj)
  have hsb : ∀ (b : ι) (R : Mem) (j : Nat) (x : Blk), N0 ≤ j → setm (B b ++ R) j x = B b ++ setm R j x := fun b R j x hj => setm_appr x (hBas b j hj)
  have hI := i107_all hG hBas HY j.tm.length [] b (by simp) hP
  obtain ⟨KK, hKK⟩ : ∃ KK : AV → Mem → Prop, KK = fun v B' => v = pack [] ∧ B' = B ((ordsK j j.tm.length []).foldl step b) := ⟨_, rfl⟩
  rw [← hKK]
  simp (maxSteps := 400000) (disch := omega) only [push_cast, ↓reduceIte, reduceCtorEq, Nat.reduceAdd, Nat.reduceSub, Nat.reduceEqDiff, Nat.reduceLeDiff, Nat.reduceLT, Nat.reduceBEq, Nat.reduceDiv, Nat.reduceMod, Nat.reducePow, Nat.reduceMul, Int.reduceToNat, Int.reduceLT, Int.reduceLE, initT]
  repeat' (first | refine w1g ?_ | refine w1l ?_ | refine w1q ?_ | refine w1b ?_ | refine w1p ?_ | ((first | refine w1r ?_ | refine w1k ?_ | refine w1e ?_); simp (maxSteps := 400000) (disch := omega) only [push_cast, ↓reduceIte, reduceCtorEq, Nat.reduceAdd, Nat.reduceSub, Nat.reduceEqDiff, Nat.reduceLeDiff, Nat.reduceLT, Nat.reduceBEq, Nat.reduceDiv, Nat.reduceMod, Nat.reducePow, Nat.reduceMul, Int.reduceToNat, Int.reduceLT, Int.reduceLE, ne_l, ne_r, bq_l, bq_r, ls_l, ls_r, lm_set_same, setm_setm, hlb, hsb]) | refine an2 ?_ | fail)
  refine ⟨⟨by omega, (hasM_iff _ _).2 (by rw [hlb _ _ _ (by omega), lm_set_same]; simp)⟩, ?_⟩
  repeat' (first | refine w1g ?_ | refine w1l ?_ | refine w1q ?_ | refine w1b ?_ | refine w1p ?_ | ((first | refine w1r ?_ | refine w1k ?_ | refine w1e ?_); simp (maxSteps := 400000) (disch := omega) only [push_cast, ↓reduceIte, reduceCtorEq, Nat.reduceAdd, Nat.reduceSub, Nat.reduceEqDiff, Nat.reduceLeDiff, Nat.reduceLT, Nat.reduceBEq, Nat.reduceDiv, Nat.reduceMod, Nat.reducePow, Nat.reduceMul, Int.reduceToNat, Int.reduceLT, Int.reduceLE, ne_l, ne_r, bq_l, bq_r, ls_l, ls_r, lm_set_same, setm_setm, hlb, hsb]) | refine an2 ?_ | fail)
  have hX1 := fun (k1 N2 : Nat) (g1 : Blk) (q1 : nx' ≤ k1) (q3 : k1 < N2) => (Ext.refl hR').put (g := g1) q1 q3 (by omega)
  have hX2 := fun (k1 N2 : Nat) (g1 : Blk) (q1 : nx' ≤ k1) (q3 : k1 < N2) => Ext.opq (hX1 k1 N2 g1 q1 q3) hR'
  refine CallC.inl (Inl_adopt 52 1 [] cO (by omega) (Inl_sameM (B b ++ ((nx' + 1 + 1 + 1 + 1 + 1, .row 0 52 1 [] cO []) :: setm R' (nx' + 1) (goO j l (nx' + 1)))) _ (fun k => ((sm_push (hBas b) (by omega)) k).symm) (((hX2 (nx' + 1) (nx' + 1 + 1 + 1 + 1 + 1) _ (by omega) (by omega)).push _).mem (hBas b)) (Inl_le' (hI _ _ _ (nx' + 1) (nx' + 1 + 1 + 1 + 1 + 1) 0 ((hX2 (nx' + 1) (nx' + 1 + 1 + 1 + 1 + 1) _ (by omega) (by omega)).push _) ⟨by omega, by omega⟩ (by simp only [lm]; rw [if_neg (by omega)]; exact lm_set_same _ _ _) ⟨by omega, by omega⟩ (by simp [lm])) (fun v s' hs2 => ?_))))
  obtain ⟨B', R3, nx3, hB', hX3, ⟨rfl, rfl⟩, hl⟩ := hs2
  refine ⟨_, ?_, hl⟩
  (refine sy1 ?_; try exact True.intro)
  exact ⟨[], _, R3, rfl, sameM.refl _, hBas _, (((hX1 (nx' + 1) (nx' + 1 + 1 + 1 + 1 + 1) _ (by omega) (by omega)).push (Nat.le_refl _) (Nat.lt_succ_self _)).trans hX3).up (by first | omega | (dsimp only; omega)), by rw [hKK]; exact ⟨rfl, rfl⟩⟩
end
end Go.Proofs.Ytoiohkjomcbadaa

namespace Go.Proofs.Ytoiohkjomcbadaa
open Go Sy
set_option maxRecDepth 100000
set_option maxHeartbeats 4000000
set_option linter.unusedVariables false
set_option linter.unusedSimpArgs false
end Go.Proofs.Ytoiohkjomcbadaa

namespace Go.Proofs.Ytoiohkjomcbadaa
open Go Sy
set_option linter.unusedVariables false
theorem prm_perm : ∀ (k : Nat) (h r x : List Int), r.length = k → x ∈ prm k h r → x.Perm (h ++ r)
  | 0, h, r, x, hr, hx => by
    have hx : x = h := List.mem_singleton.1 hx
    have : r = [] := List.eq_nil_of_length_eq_zero hr
    rw [hx, this, List.append_nil]
  | k + 1, h, r, x, hr, hx => by
    obtain ⟨i, hi, hx⟩ := List.mem_flatMap.1 hx
    have hi := List.mem_range.1 hi
    have h1 := prm_perm k (h ++ [gi r i]) (r.eraseIdx i) x (by rw [List.length_eraseIdx, if_pos hi]; omega) hx
    refine h1.trans ?_
    rw [List.append_assoc]
    refine List.Perm.append_left h ?_
    have e : gi r i = r[i] := by show r.getD i 0 = _; rw [List.getD_eq_getElem?_getD, List.getElem?_eq_getElem hi]; rfl
    rw [e]
    have h2 : r = r.take i ++ r[i] :: r.drop (i + 1) := by rw [← List.drop_eq_getElem_cons hi, List.take_append_drop]
    rw [List.eraseIdx_eq_take_drop_succ]
    show (r[i] :: (r.take i ++ r.drop (i + 1))).Perm r
    refine (List.perm_middle.symm).trans ?_
    rw [← h2]
theorem ords_spec {j : Jb} : ∀ (k : Nat) (h o : List (List Int)), o ∈ ordsK j k h → o.length = h.length + k ∧ (∀ t, t < h.length → o.getD t [] = h.getD t []) ∧ ∀ t, h.length ≤ t → t < h.length + k → (o.getD t []).Perm (memT j t)
  | 0, h, o, ho => by
    have ho : o = h := List.mem_singleton.1 ho
    rw [ho]
    exact ⟨rfl, fun _ _ => rfl, fun t h1 h2 => by omega⟩
  | k + 1, h, o, ho => by
    obtain ⟨x, hx, ho⟩ := List.mem_flatMap.1 ho
    obtain ⟨h1, h2, h3⟩ := ords_spec k (h ++ [x]) o ho
    rw [List.length_append, List.length_singleton] at h1 h2 h3
    refine ⟨by omega, fun t ht => ?_, fun t ht1 ht2 => ?_⟩
    · rw [h2 t (by omega), List.getD_eq_getElem?_getD, List.getD_eq_getElem?_getD, List.getElem?_append_left ht]
    · rcases Nat.lt_or_ge t (h.length + 1) with q | q
      · obtain rfl : t = h.length := by omega
        rw [h2 _ q, List.getD_eq_getElem?_getD, List.getElem?_append_right (Nat.le_refl _), Nat.sub_self]
        have := prm_perm _ [] _ x rfl hx
        rw [List.nil_append] at this
        exact this
      · exact h3 t q (by omega)
theorem ords_ok {j : Jb} (h : OkJ j) {o : List (List Int)} (ho : o ∈ ordsK j j.tm.length []) : OkO j o := by
  obtain ⟨h1, _, h3⟩ := ords_spec _ _ _ ho
  refine ⟨h, by simpa using h1, fun t ht => h3 t (Nat.zero_le _) (by rw [h1] at ht; exact ht)⟩
def enK (j : Jb) (l : List Int) : Nat → Int
  | 0 => 0
  | k + 1 => max (enK j l k) (gi l k + (gt j.ts k).mi)
abbrev enP (j : Jb) (l : List Int) : Int := enK j l l.length
theorem enK_pos (j : Jb) (l : List Int) : ∀ k, 0 ≤ enK j l k
  | 0 => Int.le_refl 0
  | k + 1 => by have := enK_pos j l k; show 0 ≤ max _ _; omega
structure Bo where
  o : List (List Int)
  l : List Int
  e : Int
def bs0 : Bo := ⟨[], [], -1⟩
noncomputable def stB (j : Jb) (b : Bo) (o : List (List Int)) : Bo := if erlB j (lks j o) = true ∧ (b.e < 0 ∨ enP j (erlL j (lks j o)) < b.e) then ⟨o, erlL j (lks j o), enP j (erlL j (lks j o))⟩ else b
noncomputable def bsJ (j : Jb) : Bo := (ordsK j j.tm.length []).foldl (stB j) bs0
def fac : Nat → Nat
  | 0 => 1
  | k + 1 => fac k * (k + 1)
def mnP (j : Jb) : Nat → Nat
  | 0 => 1
  | t + 1 => mnP j t * fac (memT j t).length
theorem fac_pos : ∀ k, 0 < fac k
  | 0 => by decide
  | k + 1 => Nat.mul_pos (fac_pos k) (by omega)
theorem mnP_pos (j : Jb) : ∀ t, 0 < mnP j t
  | 0 => Nat.one_pos
  | t + 1 => Nat.mul_pos (mnP_pos j t) (fac_pos _)
theorem fac_mono {a b : Nat} (h : a ≤ b) : fac a ≤ fac b := by
  induction b with
  | zero =>
    obtain rfl : a = 0 := by omega
    exact Nat.le_refl _
  | succ b ih =>
    rcases Nat.lt_or_ge a (b + 1) with q | q
    · refine Nat.le_trans (ih (by omega)) ?_
      show fac b ≤ fac b * (b + 1)
      exact Nat.le_mul_of_pos_right _ (by omega)
    · obtain rfl : a = b + 1 := by omega
      exact Nat.le_refl _
theorem mnP_mono (j : Jb) {a b : Nat} (h : a ≤ b) : mnP j a ≤ mnP j b := by
  induction b with
  | zero =>
    obtain rfl : a = 0 := by omega
    exact Nat.le_refl _
  | succ b ih =>
    rcases Nat.lt_or_ge a (b + 1) with q | q
    · refine Nat.le_trans (ih (by omega)) ?_
      show mnP j b ≤ mnP j b * fac _
      exact Nat.le_mul_of_pos_right _ (fac_pos _)
    · obtain rfl : a = b + 1 := by omega
      exact Nat.le_refl _
theorem mnP_big (j : Jb) {t k n : Nat} (ht : t < n) (hk : k ≤ (memT j t).length) (h : 5040 < mnP j t * fac k) : 5040 < mnP j n := by
  refine Nat.lt_of_lt_of_le h (Nat.le_trans (Nat.mul_le_mul_left _ (fac_mono hk)) ?_)
  exact mnP_mono j (show t + 1 ≤ n from ht)
noncomputable def btO (j : Jb) : List (List Int) := if chkJ j = 0 ∧ mnP j j.tm.length ≤ 5040 ∧ 0 ≤ (bsJ j).e then (bsJ j).o else []
noncomputable def btL (j : Jb) : List Int := if chkJ j = 0 ∧ mnP j j.tm.length ≤ 5040 ∧ 0 ≤ (bsJ j).e then (bsJ j).l else []
noncomputable def btN (j : Jb) : Int := if chkJ j = 0 ∧ mnP j j.tm.length ≤ 5040 ∧ 0 ≤ (bsJ j).e then (bsJ j).e else 0
noncomputable def btE (j : Jb) : Int := if chkJ j = 0 then (if mnP j j.tm.length ≤ 5040 then (if 0 ≤ (bsJ j).e then 0 else 15) else 6) else chkJ j
end Go.Proofs.Ytoiohkjomcbadaa

namespace Go.Proofs.Ytoiohkjomcbadaa
open Go Sy
set_option maxRecDepth 100000
set_option maxHeartbeats 4000000
set_option linter.unusedVariables false
set_option linter.unusedSimpArgs false
def bO (b : Bo) : AV := if b.e < 0 then .v (.slice none 0 0) else aO b.o
def bL (b : Bo) : AV := if b.e < 0 then .v (.slice none 0 0) else aI b.l
def mB (kl lp : Nat) (LP : Loop) (TM : List (Nat × AV)) (b : Bo) : Mem := [(kl, .oth (.lp lp LP TM)), (16, .cells [bO b]), (17, .cells [bL b]), (18, .cells [iv b.e])]
def mBb (kl lp : Nat) (LP : Loop) (TM : List (Nat × AV)) (b : Bo) : Mem := [(kl, .oth (.lp lp (busyL LP) TM)), (16, .cells [bO b]), (17, .cells [bL b]), (18, .cells [iv b.e])]
theorem fn19 (j : Jb) (hG : Gj j) : Sy.Fn Try.prog 19 [aJ j] (.tup [aO (btO j), aI (btL j), iv (btN j), iv (btE j)]) := by
  refine Fn_of_W mixed Xt19 rfl ?_
  have c39 := fn39 j hG
  have eO : btO j = if chkJ j = 0 ∧ mnP j j.tm.length ≤ 5040 ∧ 0 ≤ (bsJ j).e then (bsJ j).o else [] := rfl
  have eL : btL j = if chkJ j = 0 ∧ mnP j j.tm.length ≤ 5040 ∧ 0 ≤ (bsJ j).e then (bsJ j).l else [] := rfl
  have eN : btN j = if chkJ j = 0 ∧ mnP j j.tm.length ≤ 5040 ∧ 0 ≤ (bsJ j).e then (bsJ j).e else 0 := rfl
  have eE : btE j = if chkJ j = 0 then (if mnP j j.tm.length ≤ 5040 then (if 0 ≤ (bsJ j).e then 0 else 15) else 6) else chkJ j := rfl
  generalize btO j = RO at *
  generalize btL j = RL at *
  generalize btN j = RN at *
  generalize btE j = RE at *
  by_cases h0 : chkJ j = 0
  rotate_left
  · rw [if_neg (fun q => h0 q.1)] at eO eL eN
    rw [if_neg h0] at eE
    subst eO eL eN eE
    generalize chkJ j = E at *
    repeat' (first | refine w1g ?_ | refine w1l ?_ | refine w1q ?_ | refine w1b ?_ | refine w1p ?_ | ((first | refine w1r ?_ | refine w1k ?_ | refine w1e ?_ | refine CallC.now (c39) ?_); (refine sy1 ?_; try exact True.intro)) | refine an2 ?_ | fail)
    refine W_cond (by rfl) (fun _ => ?_) (fun h => absurd (by simpa using h) h0)
    repeat' (first | refine w1g ?_ | refine w1l ?_ | refine w1q ?_ | refine w1b ?_ | refine w1p ?_ | ((first | refine w1r ?_ | refine w1k ?_ | refine w1e ?_); (refine sy1 ?_; try exact True.intro)) | refine an2 ?_ | fail)
    refine W_le (le_nil 2 1 [] cO rfl) ?_
    refine W_le (le_nil 3 1 0 cI rfl) ?_
    exact W_ret ⟨[_, _, _, _], ⟨rfl, rfl, rfl, rfl, rfl⟩, rfl⟩
  have hok := chkJ_ok h0
  have hnt := hok.nt
  have hnn := hok.n
  rw [h0] at c39
  rw [if_pos h0] at eE
  repeat' (first | refine w1g ?_ | refine w1l ?_ | refine w1q ?_ | refine w1b ?_ | refine w1p ?_ | ((first | refine w1r ?_ | refine w1k ?_ | refine w1e ?_ | refine CallC.now (c39) ?_); (refine sy1 ?_; try exact True.intro)) | refine an2 ?_ | fail)
  refine W_cond (by rfl) (fun h => by cases h) (fun _ => ?_)
  repeat' (first | refine w1g ?_ | refine w1l ?_ | refine w1q ?_ | refine w1b ?_ | refine w1p ?_ | ((first | refine w1r ?_ | refine w1k ?_ | refine w1e ?_); (refine sy1 ?_; try exact True.intro)) | refine an2 ?_ | fail)
  refine W_loopU (fun t : Nat => [(7, iv (mnP j t)), (27, iv t)]) (fun t => []) (fun t => t ≤ j.tm.length ∧ mnP j t ≤ 5040) (fun t => j.tm.length - t) 0 ⟨by omega, by show 1 ≤ 5040; omega⟩ (by rfl) (by rfl) (fun t ht => ?_)
  obtain ⟨ht, hm⟩ := ht
  (refine sy1 ?_; try exact True.intro)
  repeat' (first | refine w1g ?_ | refine w1l ?_ | refine w1q ?_ | refine w1b ?_ | refine w1p ?_ | ((first | refine w1r ?_ | refine w1k ?_ | refine w1e ?_); (refine sy1 ?_; try exact True.intro)) | refine an2 ?_ | fail)
  refine W_condD (by rfl) (fun h5 => ?_) (fun h5 => ?_)
  · have htl : t < j.tm.length := by omega
    have c58 := fn58 j (t : Int) (by omega)
    have hLl : (memT j (t : Int)).length ≤ j.ts.length := memK_len j (t : Int) j.ts.length
    have hms : mnP j (t + 1) = mnP j t * fac (memT j t).length := rfl
    have hbig := fun k (hk : k ≤ (memT j t).length) h => mnP_big j (n := j.tm.length) htl hk h
    generalize memT j (t : Int) = L at *
    generalize hM : mnP j t = M at *
    repeat' (first | refine w1g ?_ | refine w1l ?_ | refine w1q ?_ | refine w1b ?_ | refine w1p ?_ | ((first | refine w1r ?_ | refine w1k ?_ | refine w1e ?_ | refine CallC.now (c58) ?_); (refine sy1 ?_; try exact True.intro)) | refine an2 ?_ | fail)
    refine W_loopU (fun k : Nat => [(7, iv ((M * fac k : Nat) : Int)), (34, iv k)]) (fun k => []) (fun k => k ≤ L.length ∧ M * fac k ≤ 5040) (fun k => L.length - k) 0 ⟨by omega, by show M * 1 ≤ 5040; omega⟩ (by rfl) (by rw [show M * fac 0 = M from Nat.mul_one M]; rfl) (fun k hk => ?_)
    obtain ⟨hk, hmk⟩ := hk
    have hfs : M * fac (k + 1) = M * fac k * (k + 1) := (Nat.mul_assoc M (fac k) (k + 1)).symm
    have hbk := hbig (k + 1)
    generalize hF : M * fac k = F at *
    have hFk : ((F * (k + 1) : Nat) : Int) = (F : Int) * ((k : Int) + 1) := by rw [Int.natCast_mul]; rfl
    (refine sy1 ?_; try exact True.intro)
    repeat' (first | refine w1g ?_ | refine w1l ?_ | refine w1q ?_ | refine w1b ?_ | refine w1p ?_ | ((first | refine w1r ?_ | refine w1k ?_ | refine w1e ?_); (refine sy1 ?_; try exact True.intro)) | refine an2 ?_ | fail)
    refine W_condD (by rfl) (fun h6 => ?_) (fun h6 => ?_)
    · have hkl : k < L.length := by omega
      have hFb : F * (k + 1) ≤ 5040 * 25 := Nat.mul_le_mul (by omega) (by omega)
      have hw : IntKind.i64.wrap ((F : Int) * ((k : Int) + 1)) = (F : Int) * ((k : Int) + 1) := wrap64 ⟨by omega, by omega⟩
      have hwk : IntKind.i64.wrap ((k : Int) + 1) = (k : Int) + 1 := wrap64 ⟨by omega, by omega⟩
      repeat' (first | refine w1g ?_ | refine w1l ?_ | refine w1q ?_ | refine w1b ?_ | refine w1p ?_ | ((first | refine w1r ?_ | refine w1k ?_ | refine w1e ?_); simp (maxSteps := 400000) (disch := omega) only [push_cast, ↓reduceIte, reduceCtorEq, Nat.reduceAdd, Nat.reduceSub, Nat.reduceEqDiff, Nat.reduceLeDiff, Nat.reduceLT, Nat.reduceBEq, Nat.reduceDiv, Nat.reduceMod, Nat.reducePow, Nat.reduceMul, Int.reduceToNat, Int.reduceLT, Int.reduceLE, hwk, hw]) | refine an2 ?_ | fail)
      by_cases hq : F * (k + 1) ≤ 5040
      · rw [show decide (5040 < (F : Int) * ((k : Int) + 1)) = false from decide_eq_false (by omega)]
        refine W_cond (by rfl) (fun h => by cases h) (fun _ => ?_)
        repeat' (first | refine w1g ?_ | refine w1l ?_ | refine w1q ?_ | refine w1b ?_ | refine w1p ?_ | ((first | refine w1r ?_ | refine w1k ?_ | refine w1e ?_); (refine sy1 ?_; try exact True.intro)) | refine an2 ?_ | fail)
        refine ⟨k + 1, ⟨by omega, by rw [hfs]; exact hq⟩, by omega, by rfl, ?_⟩
        rw [show (M : Int) * ((fac (k + 1) : Nat) : Int) = (F : Int) * ((k : Int) + 1) by rw [← Int.natCast_mul, hfs, hFk]]
        (refine syE ?_; try exact True.intro)
      · rw [show decide (5040 < (F : Int) * ((k : Int) + 1)) = true from decide_eq_true (by omega)]
        have hb := hbk (by omega) (by rw [hfs]; omega)
        rw [if_neg (fun q => by omega)] at eO eL eN eE
        subst eO eL eN eE
        refine W_cond (by rfl) (fun _ => ?_) (fun h => by cases h)
        repeat' (first | refine w1g ?_ | refine w1l ?_ | refine w1q ?_ | refine w1b ?_ | refine w1p ?_ | ((first | refine w1r ?_ | refine w1k ?_ | refine w1e ?_); (refine sy1 ?_; try exact True.intro)) | refine an2 ?_ | fail)
        refine W_le (le_nil 2 1 [] cO rfl) ?_
        refine W_le (le_nil 3 1 0 cI rfl) ?_
        exact W_ret ⟨[_, _, _, _], ⟨rfl, rfl, rfl, rfl, rfl⟩, rfl⟩
    · obtain rfl : k = L.length := by omega
      repeat' (first | refine w1g ?_ | refine w1l ?_ | refine w1q ?_ | refine w1b ?_ | refine w1p ?_ | ((first | refine w1r ?_ | refine w1k ?_ | refine w1e ?_); (refine sy1 ?_; try exact True.intro)) | refine an2 ?_ | fail)
      refine ⟨t + 1, ⟨by omega, by rw [hms, hF]; exact hmk⟩, by omega, by rfl, ?_⟩
      rw [hms, hF]
      (refine syE ?_; try exact True.intro)
  · obtain rfl : t = j.tm.length := by omega
    repeat' (first | refine w1g ?_ | refine w1l ?_ | refine w1q ?_ | refine w1b ?_ | refine w1p ?_ | ((first | refine w1r ?_ | refine w1k ?_ | refine w1e ?_); (refine sy1 ?_; try exact True.intro)) | refine an2 ?_ | fail)
    refine CallC.now (fn59 j) ?_
    (refine sy1 ?_; try exact True.intro)
    repeat' (first | refine w1g ?_ | refine w1l ?_ | refine w1q ?_ | refine w1b ?_ | refine w1p ?_ | ((first | refine w1r ?_ | refine w1k ?_ | refine w1e ?_); (refine sy1 ?_; try exact True.intro)) | refine an2 ?_ | fail)
    refine W_rfn (.inl rfl) (fun lp LP hLP => ?_)
    obtain ⟨TM, hTM⟩ : ∃ TM : List (Nat × AV), TM = [(1, .fp (cJ j) 0), (10, .own 16 0), (11, .own 17 0), (12, .own 18 0), (46, .clo 106 [] [.fp (cJ j) 0])] := ⟨_, rfl⟩
    have hBs1 : ∀ c, Bas 23 (mB 22 lp LP TM c) := fun c => bas_of rfl
    have HY : YO (mB 22 lp LP TM) (stB j) 23 lp (fun x => x ∈ ordsK j j.tm.length []) := fun b x hx tmc Rc nxc hRc => by
      refine Yl_opqX mixed hLP (k := 22) (tml := TM) rfl rfl rfl hRc (hBs1 b) (fun R2 nx2 hR2 hlt2 hE2 => ?_)
      have hN2 := hR2.n
      have hOx := ords_ok hok hx
      have c50 := fn50 j x hOx
      have hst : stB j b x = if erlB j (lks j x) = true ∧ (b.e < 0 ∨ enP j (erlL j (lks j x)) < b.e) then ⟨x, erlL j (lks j x), enP j (erlL j (lks j x))⟩ else b := rfl
      have hfa := fun hb => erl_facts hok (lks_lk' hOx) hb
      generalize erlB j (lks j x) = EB at *
      generalize hEL : erlL j (lks j x) = EL at *
      rw [hTM]
      (refine sy1 ?_; try exact True.intro)
      repeat' (first | refine w1g ?_ | refine w1l ?_ | refine w1q ?_ | refine w1b ?_ | refine w1p ?_ | ((first | refine w1r ?_ | refine w1k ?_ | refine w1e ?_); (refine sy1 ?_; try exact True.intro)) | refine an2 ?_ | fail)
      refine ⟨mB 22 lp LP _ b, _, rfl, rfl, ?_⟩
      obtain ⟨KY, hKY⟩ : ∃ KY : Bool → Mem → Prop, KY = fun r B' => r = true ∧ B' = mB 22 lp LP TM (stB j b x) := ⟨_, rfl⟩
      rw [← hTM, ← hKY]
      simp (maxSteps := 400000) (disch := omega) only [push_cast, ↓reduceIte, reduceCtorEq, Nat.reduceAdd, Nat.reduceSub, Nat.reduceEqDiff, Nat.reduceLeDiff, Nat.reduceLT, Nat.reduceBEq, Nat.reduceDiv, Nat.reduceMod, Nat.reducePow, Nat.reduceMul, Int.reduceToNat, Int.reduceLT, Int.reduceLE, mB, List.cons_append, List.nil_append]
      repeat' (first | refine w1g ?_ | refine w1l ?_ | refine w1q ?_ | refine w1b ?_ | refine w1p ?_ | ((first | refine w1r ?_ | refine w1k ?_ | refine w1e ?_ | refine CallC.now (c50) ?_); (refine sy1 ?_; try exact True.intro)) | refine an2 ?_ | fail)
      have finR : ∀ (b' : Bo) (R3 : Mem) (nx3 : Nat) (s' : S), s'.mem = mBb 22 lp LP TM b' ++ R3 → Ext nx2 R2 nx3 R3 → nx3 ≤ s'.nx → stB j b x = b' → RndX 23 22 lp LP nx2 R2 KY .n s' := fun b' R3 nx3 s' h1 h2 h3 h4 => ⟨mBb 22 lp LP TM b', R3, TM, by rw [h1]; exact sameM.refl _, bas_of rfl, h2.up h3, rfl, by rw [hKY, h4]; exact ⟨rfl, rfl⟩⟩
      clear hKY
      cases EB
      · rw [if_neg (fun q => by cases q.1)] at hst
        refine W_cond (by rfl) (fun _ => ?_) (fun h => by cases h)
        refine W_exit ?_
        exact finR b R2 nx2 _ rfl (Ext.refl hR2) (by first | omega | (dsimp only; omega)) hst
      · refine W_cond (by rfl) (fun h => by cases h) (fun _ => ?_)
        obtain ⟨l1, l2, _⟩ := hfa rfl
        have hr : ∀ k, k < EL.length → 0 ≤ gi EL k ∧ gi EL k ≤ 1099511627776 := fun k hk => fit_rng (hok.t k (by omega)).1.2.2 (hok.t k (by omega)).1.1 (fitB_iff.2 (l2.f k (by omega)))
        have hmi : ∀ k, k < EL.length → 0 ≤ (gt j.ts k).mi ∧ (gt j.ts k).mi ≤ 10080 := fun k hk => ⟨(hok.t k (by omega)).1.1, (hok.t k (by omega)).1.2.1⟩
        repeat' (first | refine w1g ?_ | refine w1l ?_ | refine w1q ?_ | refine w1b ?_ | refine w1p ?_ | ((first | refine w1r ?_ | refine w1k ?_ | refine w1e ?_); (refine sy1 ?_; try exact True.intro)) | refine an2 ?_ | fail)
        refine W_loopX 23 (fun k : Nat => [(16, iv (enK j EL k)), (58, iv k)]) (fun k => mBb 22 lp LP TM b) (fun k => k ≤ EL.length) (fun k => EL.length - k) (fun k _ => bas_of rfl) (hR2.le (show nx2 ≤ nx2 + 15 by omega)) 0 (by omega) (by rfl) (sameM.refl _) (fun k R1 nx1 hk hX => ?_)
        have hX' : Ext nx2 R2 nx1 R1 := ((Ext.refl hR2).up (show nx2 ≤ nx2 + 15 by omega)).trans hX
        have hN1 := hX'.n
        have hes : enK j EL (k + 1) = max (enK j EL k) (gi EL k + (gt j.ts k).mi) := rfl
        have hen := enK_pos j EL k
        simp (maxSteps := 400000) (disch := omega) only [push_cast, ↓reduceIte, reduceCtorEq, Nat.reduceAdd, Nat.reduceSub, Nat.reduceEqDiff, Nat.reduceLeDiff, Nat.reduceLT, Nat.reduceBEq, Nat.reduceDiv, Nat.reduceMod, Nat.reducePow, Nat.reduceMul, Int.reduceToNat, Int.reduceLT, Int.reduceLE, keepL]
        repeat' (first | refine w1g ?_ | refine w1l ?_ | refine w1q ?_ | refine w1b ?_ | refine w1p ?_ | ((first | refine w1r ?_ | refine w1k ?_ | refine w1e ?_); simp (maxSteps := 400000) (disch := omega) only [push_cast, ↓reduceIte, reduceCtorEq, Nat.reduceAdd, Nat.reduceSub, Nat.reduceEqDiff, Nat.reduceLeDiff, Nat.reduceLT, Nat.reduceBEq, Nat.reduceDiv, Nat.reduceMod, Nat.reducePow, Nat.reduceMul, Int.reduceToNat, Int.reduceLT, Int.reduceLE, keepL]) | refine an2 ?_ | fail)
        refine W_condD (by rfl) (fun h6 => ?_) (fun h6 => ?_)
        · have hkl : k < EL.length := by omega
          have hr := hr k hkl
          have hmi := hmi k hkl
          have g1 : EL.getD k 0 = gi EL k := rfl
          have g2 : j.ts.getD k dTk = gt j.ts k := rfl
          have hkt : k < j.ts.length := by omega
          repeat' (first | refine w1g ?_ | refine w1l ?_ | refine w1q ?_ | refine w1b ?_ | refine w1p ?_ | ((first | refine w1r ?_ | refine w1k ?_ | refine w1e ?_); simp (maxSteps := 400000) (disch := omega) only [push_cast, ↓reduceIte, reduceCtorEq, Nat.reduceAdd, Nat.reduceSub, Nat.reduceEqDiff, Nat.reduceLeDiff, Nat.reduceLT, Nat.reduceBEq, Nat.reduceDiv, Nat.reduceMod, Nat.reducePow, Nat.reduceMul, Int.reduceToNat, Int.reduceLT, Int.reduceLE, keepL, g1, g2]) | refine an2 ?_ | fail)
          exact ⟨k + 1, R1, by omega, by omega, by rw [hes]; rfl, sameM.refl _, (Ext.refl (hX'.opq hR2)).up (by first | omega | (dsimp only; omega))⟩
        · obtain rfl : k = EL.length := by omega
          generalize hen2 : enK j EL EL.length = n at *
          have hst : stB j b x = if b.e < 0 ∨ n < b.e then ⟨x, EL, n⟩ else b := by
            rw [hst]
            by_cases q : b.e < 0 ∨ n < b.e
            · rw [if_pos q, if_pos ⟨rfl, by show b.e < 0 ∨ enK j EL EL.length < b.e; rw [hen2]; exact q⟩]
              show Bo.mk x EL (enK j EL EL.length) = _
              rw [hen2]
            · rw [if_neg q, if_neg (fun z => q (by have := z.2; show b.e < 0 ∨ n < b.e; rw [← hen2]; exact this))]
          repeat' (first | refine w1g ?_ | refine w1l ?_ | refine w1q ?_ | refine w1b ?_ | refine w1p ?_ | ((first | refine w1r ?_ | refine w1k ?_ | refine w1e ?_); simp (maxSteps := 400000) (disch := omega) only [push_cast, ↓reduceIte, reduceCtorEq, Nat.reduceAdd, Nat.reduceSub, Nat.reduceEqDiff, Nat.reduceLeDiff, Nat.reduceLT, Nat.reduceBEq, Nat.reduceDiv, Nat.reduceMod, Nat.reducePow, Nat.reduceMul, Int.reduceToNat, Int.reduceLT, Int.reduceLE, keepL, mBb, List.cons_append, List.nil_append]) | refine an2 ?_ | fail)
          have hn0 : 0 ≤ n := by rw [← hen2]; exact enK_pos j EL _
          by_cases q : b.e < 0 ∨ n < b.e
          · rw [if_pos q] at hst
            rw [show (decide (b.e < 0) || decide (n < b.e)) = true by rw [Bool.or_eq_true, decide_eq_true_eq, decide_eq_true_eq]; exact q]
            refine W_cond (by rfl) (fun _ => ?_) (fun h => by cases h)
            repeat' (first | refine w1g ?_ | refine w1l ?_ | refine w1q ?_ | refine w1b ?_ | refine w1p ?_ | ((first | refine w1r ?_ | refine w1k ?_ | refine w1e ?_); (refine sy1 ?_; try exact True.intro)) | refine an2 ?_ | fail)
            refine finR ⟨x, EL, n⟩ R1 nx1 _ ?_ hX' (by first | omega | (dsimp only; omega)) hst
            unfold mBb bO bL
            rw [if_neg (show ¬ (Bo.mk x EL n).e < 0 from by show ¬ n < 0; omega), if_neg (show ¬ (Bo.mk x EL n).e < 0 from by show ¬ n < 0; omega)]
            rfl
          · rw [if_neg q] at hst
            rw [show (decide (b.e < 0) || decide (n < b.e)) = false by rw [← Bool.not_eq_true, Bool.or_eq_true, decide_eq_true_eq, decide_eq_true_eq]; exact q]
            refine W_cond (by rfl) (fun h => by cases h) (fun _ => ?_)
            refine W_skip ?_
            exact finR b R1 nx1 _ rfl hX' (by first | omega | (dsimp only; omega)) hst
    have hI := i106 hok hBs1 HY bs0 (fun x hx => hx) TM [] 23 (opq_nil 23)
    rw [List.append_nil] at hI
    clear HY hBs1
    subst hTM
    refine Inl_le' hI (fun v s' hs => ?_)
    obtain ⟨B', R2, nx2, hB', hX2, ⟨rfl, rfl⟩, hl⟩ := hs
    have hO2 := hX2.opq (opq_nil 23)
    have hn2 := hX2.n
    refine ⟨_, ?_, hl⟩
    have hbs : (ordsK j j.tm.length []).foldl (stB j) bs0 = bsJ j := rfl
    rw [hbs]
    refine ⟨LP, _, rfl, by rw [hLP.st]; simp, ?_⟩
    rw [hLP.pe]
    clear hl hI hB' hbs
    generalize bsJ j = b2 at *
    simp (maxSteps := 400000) (disch := omega) only [push_cast, ↓reduceIte, reduceCtorEq, Nat.reduceAdd, Nat.reduceSub, Nat.reduceEqDiff, Nat.reduceLeDiff, Nat.reduceLT, Nat.reduceBEq, Nat.reduceDiv, Nat.reduceMod, Nat.reducePow, Nat.reduceMul, Int.reduceToNat, Int.reduceLT, Int.reduceLE, EndP, mB, List.cons_append, List.nil_append]
    repeat' (first | refine w1g ?_ | refine w1l ?_ | refine w1q ?_ | refine w1b ?_ | refine w1p ?_ | ((first | refine w1r ?_ | refine w1k ?_ | refine w1e ?_); (refine sy1 ?_; try exact True.intro)) | refine an2 ?_ | fail)
    by_cases hb : 0 ≤ b2.e
    · rw [if_pos ⟨h0, hm, hb⟩] at eO eL eN
      rw [if_pos hm, if_pos hb] at eE
      subst eO eL eN eE
      rw [show decide (b2.e < 0) = false from decide_eq_false (by omega)]
      have h1 : bO b2 = aO b2.o := if_neg (by omega)
      have h2 : bL b2 = aI b2.l := if_neg (by omega)
      rw [h1, h2]
      refine W_cond (by rfl) (fun h => by cases h) (fun _ => ?_)
      repeat' (first | refine w1g ?_ | refine w1l ?_ | refine w1q ?_ | refine w1b ?_ | refine w1p ?_ | ((first | refine w1r ?_ | refine w1k ?_ | refine w1e ?_); (refine sy1 ?_; try exact True.intro)) | refine an2 ?_ | fail)
      exact W_ret ⟨[_, _, _, _], ⟨rfl, rfl, rfl, rfl, rfl⟩, rfl⟩
    · rw [if_neg (fun q => hb q.2.2)] at eO eL eN
      rw [if_pos hm, if_neg hb] at eE
      subst eO eL eN eE
      rw [show decide (b2.e < 0) = true from decide_eq_true (by omega)]
      refine W_cond (by rfl) (fun _ => ?_) (fun h => by cases h)
      repeat' (first | refine w1g ?_ | refine w1l ?_ | refine w1q ?_ | refine w1b ?_ | refine w1p ?_ | ((first | refine w1r ?_ | refine w1k ?_ | refine w1e ?_); (refine sy1 ?_; try exact True.intro)) | refine an2 ?_ | fail)
      refine W_le (le_nil 2 1 [] cO rfl) ?_
      refine W_le (le_nil 3 1 0 cI rfl) ?_
      exact W_ret ⟨[_, _, _, _], ⟨rfl, rfl, rfl, rfl, rfl⟩, rfl⟩
end Go.Proofs.Ytoiohkjomcbadaa

namespace Go.Proofs.Ytoiohkjomcbadaa
open Go Sy
set_option maxRecDepth 100000
set_option maxHeartbeats 4000000
set_option linter.unusedVariables false
set_option linter.unusedSimpArgs false
theorem fn48 (j : Jb) (l : List Int) (hl : l.length ≤ j.ts.length) (hb : j.ts.length ≤ 1000) (hr : ∀ k, k < l.length → 0 ≤ gi l k ∧ gi l k ≤ 1099511627776) (hm : ∀ k, k < l.length → 0 ≤ (gt j.ts k).mi ∧ (gt j.ts k).mi ≤ 10080) : Sy.Fn Try.prog 48 [aJ j, aI l] (iv (enP j l)) := by
  refine Fn_of_W mixed Xt48 rfl ?_
  repeat' (first | refine w1g ?_ | refine w1l ?_ | refine w1q ?_ | refine w1b ?_ | refine w1p ?_ | ((first | refine w1r ?_ | refine w1k ?_ | refine w1e ?_); (refine sy1 ?_; try exact True.intro)) | refine an2 ?_ | fail)
  refine W_loopU (fun k : Nat => [(5, iv (enK j l k)), (6, iv k)]) (fun k => []) (fun k => k ≤ l.length) (fun k => l.length - k) 0 (by omega) (by rfl) (by rfl) (fun k hk => ?_)
  have hes : enK j l (k + 1) = max (enK j l k) (gi l k + (gt j.ts k).mi) := rfl
  (refine sy1 ?_; try exact True.intro)
  repeat' (first | refine w1g ?_ | refine w1l ?_ | refine w1q ?_ | refine w1b ?_ | refine w1p ?_ | ((first | refine w1r ?_ | refine w1k ?_ | refine w1e ?_); (refine sy1 ?_; try exact True.intro)) | refine an2 ?_ | fail)
  refine W_condD (by rfl) (fun h5 => ?_) (fun h5 => ?_)
  · have hkl : k < l.length := by omega
    have hr := hr k hkl
    have hm := hm k hkl
    have hkt : k < j.ts.length := by omega
    have g1 : l.getD k 0 = gi l k := rfl
    have g2 : j.ts.getD k dTk = gt j.ts k := rfl
    repeat' (first | refine w1g ?_ | refine w1l ?_ | refine w1q ?_ | refine w1b ?_ | refine w1p ?_ | ((first | refine w1r ?_ | refine w1k ?_ | refine w1e ?_); simp (maxSteps := 400000) (disch := omega) only [push_cast, ↓reduceIte, reduceCtorEq, Nat.reduceAdd, Nat.reduceSub, Nat.reduceEqDiff, Nat.reduceLeDiff, Nat.reduceLT, Nat.reduceBEq, Nat.reduceDiv, Nat.reduceMod, Nat.reducePow, Nat.reduceMul, Int.reduceToNat, Int.reduceLT, Int.reduceLE, g1, g2]) | refine an2 ?_ | fail)
    refine ⟨k + 1, by omega, by omega, by rfl, ?_⟩
    rw [hes]
    (refine syE ?_; try exact True.intro)
  · obtain rfl : k = l.length := by omega
    repeat' (first | refine w1g ?_ | refine w1l ?_ | refine w1q ?_ | refine w1b ?_ | refine w1p ?_ | ((first | refine w1r ?_ | refine w1k ?_ | refine w1e ?_); (refine sy1 ?_; try exact True.intro)) | refine an2 ?_ | fail)
    exact W_ret ⟨[_], ⟨rfl, rfl⟩, rfl⟩
def mnM (j : Jb) : Nat := min (mnP j j.tm.length) 5041
theorem min_step (a k : Nat) (hk : 0 < k) : min (min a 5041 * k) 5041 = min (a * k) 5041 := by
  rcases Nat.lt_or_ge a 5041 with h | h
  · rw [Nat.min_eq_left (Nat.le_of_lt h)]
  · rw [Nat.min_eq_right h, Nat.min_eq_right (Nat.le_mul_of_pos_right _ hk), Nat.min_eq_right (Nat.le_trans h (Nat.le_mul_of_pos_right _ hk))]
theorem fn18 (j : Jb) (hn : j.ts.length ≤ 30) (hnt : j.tm.length ≤ 1000) : Sy.Fn Try.prog 18 [aJ j] (iv (mnM j)) := by
  refine Fn_of_W mixed Xt18 rfl ?_
  repeat' (first | refine w1g ?_ | refine w1l ?_ | refine w1q ?_ | refine w1b ?_ | refine w1p ?_ | ((first | refine w1r ?_ | refine w1k ?_ | refine w1e ?_); (refine sy1 ?_; try exact True.intro)) | refine an2 ?_ | fail)
  refine W_loopU (fun t : Nat => [(3, iv ((min (mnP j t) 5041 : Nat) : Int)), (4, iv t)]) (fun t => []) (fun t => t ≤ j.tm.length) (fun t => j.tm.length - t) 0 (by omega) (by rfl) (by rfl) (fun t ht => ?_)
  have hms : mnP j (t + 1) = mnP j t * fac (memT j t).length := rfl
  have hLl : (memT j (t : Int)).length ≤ j.ts.length := memK_len j (t : Int) j.ts.length
  have c57 := fn57 j (t : Int) (by omega)
  (refine sy1 ?_; try exact True.intro)
  repeat' (first | refine w1g ?_ | refine w1l ?_ | refine w1q ?_ | refine w1b ?_ | refine w1p ?_ | ((first | refine w1r ?_ | refine w1k ?_ | refine w1e ?_); (refine sy1 ?_; try exact True.intro)) | refine an2 ?_ | fail)
  refine W_condD (by rfl) (fun h5 => ?_) (fun h5 => ?_)
  · generalize (memT j (t : Int)).length = L at *
    generalize hM : mnP j t = M at *
    repeat' (first | refine w1g ?_ | refine w1l ?_ | refine w1q ?_ | refine w1b ?_ | refine w1p ?_ | ((first | refine w1r ?_ | refine w1k ?_ | refine w1e ?_); (refine sy1 ?_; try exact True.intro)) | refine an2 ?_ | fail)
    refine W_loopU (fun i : Nat => [(3, iv ((min (M * fac (i + 1)) 5041 : Nat) : Int)), (5, iv ((i : Int) + 2))]) (fun i => []) (fun i => i + 1 ≤ max L 1) (fun i => L + 1 - i) 0 (by omega) (by rfl) (by rw [show M * fac (0 + 1) = M by show M * (1 * 1) = M; omega]; rfl) (fun i hi => ?_)
    have hfs : min (M * fac (i + 1 + 1)) 5041 = min (min (M * fac (i + 1)) 5041 * (i + 2)) 5041 := by
      rw [min_step _ _ (by omega), Nat.mul_assoc]
      rfl
    have hF5 : min (M * fac (i + 1)) 5041 ≤ 5041 := Nat.min_le_right _ _
    have hFe : L < i + 2 → M * fac (i + 1) = M * fac L := fun q => by
      congr 1
      rcases Nat.lt_or_ge L 2 with z | z
      · have : i = 0 := by omega
        subst this
        have : L = 0 ∨ L = 1 := by omega
        rcases this with rfl | rfl <;> rfl
      · have : i + 1 = L := by omega
        rw [this]
    have hFe2 : L < i + 2 → min (M * fac (i + 1)) 5041 = min (M * fac L) 5041 := fun q => by rw [hFe q]
    generalize min (M * fac (i + 1)) 5041 = F at *
    (refine sy1 ?_; try exact True.intro)
    repeat' (first | refine w1g ?_ | refine w1l ?_ | refine w1q ?_ | refine w1b ?_ | refine w1p ?_ | ((first | refine w1r ?_ | refine w1k ?_ | refine w1e ?_ | refine CallC.now (c57) ?_); (refine sy1 ?_; try exact True.intro)) | refine an2 ?_ | fail)
    refine W_condD (by rfl) (fun h6 => ?_) (fun h6 => ?_)
    · have hFb : F * (i + 2) ≤ 5041 * 40 := Nat.mul_le_mul hF5 (by omega)
      have hFk : ((F * (i + 2) : Nat) : Int) = (F : Int) * ((i : Int) + 2) := by rw [Int.natCast_mul]; rfl
      have hw : IntKind.i64.wrap ((F : Int) * ((i : Int) + 2)) = (F : Int) * ((i : Int) + 2) := wrap64 ⟨by omega, by omega⟩
      repeat' (first | refine w1g ?_ | refine w1l ?_ | refine w1q ?_ | refine w1b ?_ | refine w1p ?_ | ((first | refine w1r ?_ | refine w1k ?_ | refine w1e ?_); simp (maxSteps := 400000) (disch := omega) only [push_cast, ↓reduceIte, reduceCtorEq, Nat.reduceAdd, Nat.reduceSub, Nat.reduceEqDiff, Nat.reduceLeDiff, Nat.reduceLT, Nat.reduceBEq, Nat.reduceDiv, Nat.reduceMod, Nat.reducePow, Nat.reduceMul, Int.reduceToNat, Int.reduceLT, Int.reduceLE, hw]) | refine an2 ?_ | fail)
      refine ⟨i + 1, by omega, by omega, by rfl, ?_⟩
      have he : ((min (M * fac (i + 1 + 1)) 5041 : Nat) : Int) = min ((F : Int) * ((i : Int) + 2)) 5041 := by rw [hfs]; omega
      rw [he, show (i : Int) + 2 + 1 = ((i + 1 : Nat) : Int) + 2 by omega]
    · have hF2 := hFe2 (by omega)
      repeat' (first | refine w1g ?_ | refine w1l ?_ | refine w1q ?_ | refine w1b ?_ | refine w1p ?_ | ((first | refine w1r ?_ | refine w1k ?_ | refine w1e ?_); (refine sy1 ?_; try exact True.intro)) | refine an2 ?_ | fail)
      refine ⟨t + 1, by omega, by omega, by rfl, ?_⟩
      rw [hms, ← hF2]
      (refine syE ?_; try exact True.intro)
  · obtain rfl : t = j.tm.length := by omega
    repeat' (first | refine w1g ?_ | refine w1l ?_ | refine w1q ?_ | refine w1b ?_ | refine w1p ?_ | ((first | refine w1r ?_ | refine w1k ?_ | refine w1e ?_); (refine sy1 ?_; try exact True.intro)) | refine an2 ?_ | fail)
    exact W_ret ⟨[_], ⟨rfl, rfl⟩, rfl⟩
end Go.Proofs.Ytoiohkjomcbadaa

namespace Go.Proofs.Ytoiohkjomcbadaa
open Go Sy
set_option maxRecDepth 100000
set_option maxHeartbeats 4000000
set_option linter.unusedVariables false
set_option linter.unusedSimpArgs false
theorem prmI_len (k : Nat) (h r : List Int) (hr : r.length = k + 1) (hp : ∀ h r, r.length = k → (prm k h r).length = fac k) : ∀ n, n ≤ r.length → (prmI k h r n).length = n * fac k
  | 0, _ => by simp [prmI]
  | n + 1, hn => by
    rw [prmI_succ, List.length_append, prmI_len k h r hr hp n (by omega), hp _ _ (by rw [List.length_eraseIdx, if_pos (by omega)]; omega), Nat.succ_mul]
theorem prm_len : ∀ (k : Nat) (h r : List Int), r.length = k → (prm k h r).length = fac k
  | 0, h, r, _ => rfl
  | k + 1, h, r, hr => by
    show (prmI k h r r.length).length = _
    rw [prmI_len k h r hr (prm_len k) _ (Nat.le_refl _), hr, Nat.mul_comm]
    rfl
theorem fn110 : ∀ (k : Nat) (h r : List Int), r.length = k → k ≤ 8 → h.length + k ≤ 1000 → Sy.Fn Try.prog 110 [aI h, aI r] (aO (prm k h r)) := by
  intro k
  induction k with
  | zero =>
    intro h r hr hk hl
    refine Fn_of_W mixed Xt110 rfl ?_
    have e : ((r.length : Int) == 0) = true := by rw [beq_iff_eq]; omega
    repeat' (first | refine w1g ?_ | refine w1l ?_ | refine w1q ?_ | refine w1b ?_ | refine w1p ?_ | ((first | refine w1r ?_ | refine w1k ?_ | refine w1e ?_); simp (maxSteps := 400000) (disch := omega) only [push_cast, ↓reduceIte, reduceCtorEq, Nat.reduceAdd, Nat.reduceSub, Nat.reduceEqDiff, Nat.reduceLeDiff, Nat.reduceLT, Nat.reduceBEq, Nat.reduceDiv, Nat.reduceMod, Nat.reducePow, Nat.reduceMul, Int.reduceToNat, Int.reduceLT, Int.reduceLE, e]) | refine an2 ?_ | fail)
    refine W_cond (by rfl) (fun _ => ?_) (fun h => by cases h)
    repeat' (first | refine w1g ?_ | refine w1l ?_ | refine w1q ?_ | refine w1b ?_ | refine w1p ?_ | ((first | refine w1r ?_ | refine w1k ?_ | refine w1e ?_); (refine sy1 ?_; try exact True.intro)) | refine an2 ?_ | fail)
    refine ⟨rfl, trivial, (List Int), [], cO, [h], rfl, by omega, fun x _ => ⟨rfl, rfl⟩, rfl, ?_⟩
    (refine sy1 ?_; try exact True.intro)
    repeat' (first | refine w1g ?_ | refine w1l ?_ | refine w1q ?_ | refine w1b ?_ | refine w1p ?_ | ((first | refine w1r ?_ | refine w1k ?_ | refine w1e ?_); (refine sy1 ?_; try exact True.intro)) | refine an2 ?_ | fail)
    refine W_ret ⟨[_], ⟨rfl, rfl⟩, ?_⟩
    simp (maxSteps := 400000) (disch := omega) only [push_cast, ↓reduceIte, reduceCtorEq, Nat.reduceAdd, Nat.reduceSub, Nat.reduceEqDiff, Nat.reduceLeDiff, Nat.reduceLT, Nat.reduceBEq, Nat.reduceDiv, Nat.reduceMod, Nat.reducePow, Nat.reduceMul, Int.reduceToNat, Int.reduceLT, Int.reduceLE, pack]
    rfl
  | succ k ih =>
    intro h r hr hk hl
    refine Fn_of_W mixed Xt110 rfl ?_
    have e : ((r.length : Int) == 0) = false := by rw [beq_eq_false_iff_ne]; omega
    have hP : prm (k + 1) h r = prmI k h r r.length := rfl
    rw [hP]
    repeat' (first | refine w1g ?_ | refine w1l ?_ | refine w1q ?_ | refine w1b ?_ | refine w1p ?_ | ((first | refine w1r ?_ | refine w1k ?_ | refine w1e ?_); simp (maxSteps := 400000) (disch := omega) only [push_cast, ↓reduceIte, reduceCtorEq, Nat.reduceAdd, Nat.reduceSub, Nat.reduceEqDiff, Nat.reduceLeDiff, Nat.reduceLT, Nat.reduceBEq, Nat.reduceDiv, Nat.reduceMod, Nat.reducePow, Nat.reduceMul, Int.reduceToNat, Int.reduceLT, Int.reduceLE, e]) | refine an2 ?_ | fail)
    refine W_cond (by rfl) (fun h => by cases h) (fun _ => ?_)
    repeat' (first | refine w1g ?_ | refine w1l ?_ | refine w1q ?_ | refine w1b ?_ | refine w1p ?_ | ((first | refine w1r ?_ | refine w1k ?_ | refine w1e ?_); (refine sy1 ?_; try exact True.intro)) | refine an2 ?_ | fail)
    refine W_le (le_adopt 5 52 1 [] cO (by omega) rfl) ?_
    (refine sy1 ?_; try exact True.intro)
    refine W_loopU (fun u : Nat × Nat => [(5, .row 6 u.2), (6, iv u.1)]) (fun u => [(6, .row u.2 52 1 [] cO (prmI k h r u.1))]) (fun u => u.1 ≤ r.length) (fun u => r.length - u.1) (0, 0) (by dsimp only; omega) (by rfl) (by rfl) (fun u hi => ?_)
    obtain ⟨i, v⟩ := u
    dsimp only at hi ⊢
    have hPl := prmI_len k h r hr (prm_len k) i hi
    have hfk : fac k ≤ fac 7 := fac_mono (by omega)
    have hf7 : fac 7 = 5040 := rfl
    have hPb : (prmI k h r i).length ≤ 8 * 5040 := by rw [hPl]; exact Nat.mul_le_mul (by omega) (by omega)
    (refine sy1 ?_; try exact True.intro)
    repeat' (first | refine w1g ?_ | refine w1l ?_ | refine w1q ?_ | refine w1b ?_ | refine w1p ?_ | ((first | refine w1r ?_ | refine w1k ?_ | refine w1e ?_); (refine sy1 ?_; try exact True.intro)) | refine an2 ?_ | fail)
    refine W_condD (by rfl) (fun h5 => ?_) (fun h5 => ?_)
    · have hil : i < r.length := by omega
      have hps := prmI_succ k h r i
      have hel : (r.eraseIdx i).length = k := by rw [List.length_eraseIdx, if_pos hil]; omega
      have hI := ih (h ++ [gi r i]) (r.eraseIdx i) hel (by omega) (by rw [List.length_append, List.length_singleton]; omega)
      have hAl := prm_len k (h ++ [gi r i]) (r.eraseIdx i) hel
      have hge : r.eraseIdx i = r.take i ++ r.drop (i + 1) := List.eraseIdx_eq_take_drop_succ r i
      have g1 : r.getD i 0 = gi r i := rfl
      generalize prm k (h ++ [gi r i]) (r.eraseIdx i) = A at *
      generalize prmI k h r i = O at *
      generalize gi r i = x at *
      generalize hE : r.eraseIdx i = E at *
      repeat' (first | refine w1g ?_ | refine w1l ?_ | refine w1q ?_ | refine w1b ?_ | refine w1p ?_ | ((first | refine w1r ?_ | refine w1k ?_ | refine w1e ?_); simp (maxSteps := 400000) (disch := omega) only [push_cast, ↓reduceIte, reduceCtorEq, Nat.reduceAdd, Nat.reduceSub, Nat.reduceEqDiff, Nat.reduceLeDiff, Nat.reduceLT, Nat.reduceBEq, Nat.reduceDiv, Nat.reduceMod, Nat.reducePow, Nat.reduceMul, Int.reduceToNat, Int.reduceLT, Int.reduceLE, g1]) | refine an2 ?_ | fail)
      refine ⟨rfl, trivial, Int, 0, cI, [], rfl, by omega, fun x _ => ⟨rfl, rfl⟩, rfl, ?_⟩
      (refine sy1 ?_; try exact True.intro)
      repeat refine And.intro (by omega) ?_
      refine ⟨rfl, ⟨Nat.le_of_ble_eq_true rfl, rfl⟩, trivial, (r.take i), rfl, by first | omega | (simp; omega), by first | omega | (simp; omega), ?_⟩
      simp (maxSteps := 400000) (disch := omega) only [push_cast, ↓reduceIte, reduceCtorEq, Nat.reduceAdd, Nat.reduceSub, Nat.reduceEqDiff, Nat.reduceLeDiff, Nat.reduceLT, Nat.reduceBEq, Nat.reduceDiv, Nat.reduceMod, Nat.reducePow, Nat.reduceMul, Int.reduceToNat, Int.reduceLT, Int.reduceLE, List.nil_append]
      repeat refine And.intro (by omega) ?_
      refine ⟨rfl, ⟨Nat.le_of_ble_eq_true rfl, rfl⟩, trivial, (r.drop (i + 1)), rfl, by first | omega | (simp; omega), by first | omega | (simp; omega), ?_⟩
      rw [← hge]
      (refine sy1 ?_; try exact True.intro)
      refine W_le (le_frzR 7 [0, 1, 5, 6] [6] 22 11 2 3 1 0 cI E rfl rfl rfl rfl) ?_
      (refine sy1 ?_; try exact True.intro)
      repeat (first | refine WK_go ?_ | refine W_seqL ?_ | refine W_seq ?_ | refine W_block ?_)
      refine W_regZ 11 0 29 (by decide) rfl rfl rfl (fun _ _ => rfl) (by decide) (by decide) (by decide) ?_
      simp (maxSteps := 400000) (disch := omega) only [push_cast, ↓reduceIte, reduceCtorEq, Nat.reduceAdd, Nat.reduceSub, Nat.reduceEqDiff, Nat.reduceLeDiff, Nat.reduceLT, Nat.reduceBEq, Nat.reduceDiv, Nat.reduceMod, Nat.reducePow, Nat.reduceMul, Int.reduceToNat, Int.reduceLT, Int.reduceLE, g1, List.take_succ_cons, List.take_zero, List.drop_succ_cons, List.drop_zero]
      refine ⟨rfl, trivial, Int, 0, cI, [], rfl, by omega, fun x _ => ⟨rfl, rfl⟩, rfl, ?_⟩
      (refine sy1 ?_; try exact True.intro)
      refine ⟨rfl, ⟨Nat.le_of_ble_eq_true rfl, rfl⟩, trivial, h, rfl, by first | omega | (simp; omega), by first | omega | (simp; omega), ?_⟩
      simp (maxSteps := 400000) (disch := omega) only [push_cast, ↓reduceIte, reduceCtorEq, Nat.reduceAdd, Nat.reduceSub, Nat.reduceEqDiff, Nat.reduceLeDiff, Nat.reduceLT, Nat.reduceBEq, Nat.reduceDiv, Nat.reduceMod, Nat.reducePow, Nat.reduceMul, Int.reduceToNat, Int.reduceLT, Int.reduceLE, List.nil_append, g1]
      repeat refine And.intro (by omega) ?_
      refine ⟨rfl, trivial, Int, 0, cI, [x], rfl, by omega, fun x _ => ⟨rfl, rfl⟩, rfl, ?_⟩
      (refine sy1 ?_; try exact True.intro)
      refine ⟨rfl, ⟨Nat.le_of_ble_eq_true rfl, rfl⟩, trivial, [x], rfl, by first | omega | (simp; omega), by first | omega | (simp; omega), ?_⟩
      simp (maxSteps := 400000) (disch := omega) only [push_cast, ↓reduceIte, reduceCtorEq, Nat.reduceAdd, Nat.reduceSub, Nat.reduceEqDiff, Nat.reduceLeDiff, Nat.reduceLT, Nat.reduceBEq, Nat.reduceDiv, Nat.reduceMod, Nat.reducePow, Nat.reduceMul, Int.reduceToNat, Int.reduceLT, Int.reduceLE, g1]
      refine ⟨⟨_, le_frzR 38 [0, 1, 5, 6, 29, 39] [6] 33 23 2 3 1 0 cI (h ++ [x]) rfl rfl rfl rfl, ?_⟩, ⟨_, le_frzR 38 [0, 1, 5, 6, 39] [6] 33 23 2 3 1 0 cI (h ++ [x]) rfl rfl rfl rfl, ?_, ?_⟩⟩
      all_goals
        simp (maxSteps := 400000) (disch := omega) only [push_cast, ↓reduceIte, reduceCtorEq, Nat.reduceAdd, Nat.reduceSub, Nat.reduceEqDiff, Nat.reduceLeDiff, Nat.reduceLT, Nat.reduceBEq, Nat.reduceDiv, Nat.reduceMod, Nat.reducePow, Nat.reduceMul, Int.reduceToNat, Int.reduceLT, Int.reduceLE, List.take_succ_cons, List.take_zero, List.drop_succ_cons, List.drop_zero]
        refine CallC.now hI ?_
        (refine sy1 ?_; try exact True.intro)
        refine ⟨rfl, ⟨Nat.le_of_ble_eq_true rfl, rfl⟩, trivial, A, rfl, by first | omega | (simp; omega), by first | omega | (simp; omega), ?_⟩
        (refine sy1 ?_; try exact True.intro)
        repeat' (first | refine w1g ?_ | refine w1l ?_ | refine w1q ?_ | refine w1b ?_ | refine w1p ?_ | ((first | refine w1r ?_ | refine w1k ?_ | refine w1e ?_); (refine sy1 ?_; try exact True.intro)) | refine an2 ?_ | fail)
        refine ⟨(i + 1, v + 1), by dsimp only; omega, by dsimp only; omega, by rfl, ?_⟩
        dsimp only
        rw [hps]
        (refine syE ?_; try exact True.intro)
    · obtain rfl : i = r.length := by omega
      repeat' (first | refine w1g ?_ | refine w1l ?_ | refine w1q ?_ | refine w1b ?_ | refine w1p ?_ | ((first | refine w1r ?_ | refine w1k ?_ | refine w1e ?_); (refine sy1 ?_; try exact True.intro)) | refine an2 ?_ | fail)
      refine W_ret ⟨[_], ⟨rfl, rfl⟩, ?_⟩
      simp (maxSteps := 400000) (disch := omega) only [push_cast, ↓reduceIte, reduceCtorEq, Nat.reduceAdd, Nat.reduceSub, Nat.reduceEqDiff, Nat.reduceLeDiff, Nat.reduceLT, Nat.reduceBEq, Nat.reduceDiv, Nat.reduceMod, Nat.reducePow, Nat.reduceMul, Int.reduceToNat, Int.reduceLT, Int.reduceLE, pack]
end Go.Proofs.Ytoiohkjomcbadaa

namespace Go.Proofs.Ytoiohkjomcbadaa
open Go Sy
set_option maxRecDepth 100000
set_option maxHeartbeats 4000000
set_option linter.unusedVariables false
set_option linter.unusedSimpArgs false
theorem le_rowF {s : S} {k st T n : Nat} {α : Type} {d : α} {F : α → List AV} (F2 : α → List AV) {l : List α} (hm : lm s.mem k = some (.row st T n d F l))
    (h : ∀ x ∈ l, ∀ (A : Nat → Prop) (w : World) vs, (F x).length = n → fsatL A w (F x) vs → (F2 x).length = n ∧ fsatL A w (F2 x) vs) : le s ⟨s.tm, setm s.mem k (.row st T n d F2 l), s.nx⟩ := by
  intro G E a w hS
  obtain ⟨v, xs, q1, q2, q3, q4⟩ := hS.st.memv k _ hm
  have hR := hS.st.stampR k st T n α d F l hm
  have step := hS.st.step k (.row st T n d F2 l) E w (Env.le.refl E) (fun _ _ => rfl) (KeepsOthers.refl w) hS.st.ext hS.st.fz (fun _ _ => ⟨rfl, fun _ => rfl⟩)
    (fun k' blk b' hk hm' hb => ⟨rfl, hS.st.nF k' blk b' hm' hb⟩)
    ⟨v, xs, q1, q2, q3, fun i x hx => by
      obtain ⟨g1, g2⟩ := q4 i x hx
      exact h x (List.mem_iff_getElem?.2 ⟨i, hx⟩) _ _ _ g1 g2⟩
    (fun b' hb => ⟨hS.st.nF k _ b' hm hb, fun k' blk hk' hm' hb' => hk' (hS.st.inj k' k blk _ b' hm' hm hb' hb)⟩)
    (fun l' s' h => by cases h) (fun s1 e n' α' d' f' l' h => by cases h; exact hR)
  refine ⟨E, ⟨?_, fun j hj => ?_⟩⟩
  · show Sat G (lk s.tm) (lm (setm s.mem k (.row st T n d F2 l))) E a w
    rw [lm_setm]
    exact step
  · show lm (setm s.mem k (.row st T n d F2 l)) j = none
    rw [lm_set_other]
    · exact hS.nx j hj
    · intro e
      have := hS.nx j hj
      rw [e, hm] at this
      cases this
def cQ (o : List (List Int)) : List AV := [aO o]
theorem nQ0 (x : List (List Int)) : nth (cQ x) 0 = aO x := rfl
theorem lQ (x : List (List Int)) : (cQ x).length = 1 := rfl
theorem frQ (x : List (List Int)) : frzAll (cQ x) = true := rfl
theorem tQ (x : List (List Int)) : List.take 1 (List.drop 0 (cQ x)) = cQ x := rfl
theorem uQ (x : List (List Int)) : List.take 1 (cQ x) = cQ x := rfl
theorem iQ {m : Nat → Option Blk} {n : Nat} (x : List (List Int)) : List.flatMap (ids m n) (cQ x) = [] := flat_frz n _ (frQ x)
theorem vQ {m : Nat → Option Blk} {n : Nat} (x : List (List Int)) : List.map (view m n) (cQ x) = cQ x := viewL_frz n _ (frQ x)
abbrev aQ (l : List (List (List Int))) : AV := .sl 1 [] cQ l
attribute [push_cast] nQ0 lQ frQ tQ uQ iQ vQ
def preQ (j : Jb) : Nat → List (List (List Int))
  | 0 => [[]]
  | t + 1 => (preQ j t).flatMap fun o => (prm (memT j t).length [] (memT j t)).map fun x => o ++ [x]
theorem preQ_len (j : Jb) : ∀ t, ∀ o ∈ preQ j t, o.length = t
  | 0, o, h => by have h : o = [] := List.mem_singleton.1 h; rw [h]; rfl
  | t + 1, o, h => by
    obtain ⟨o1, h1, h2⟩ := List.mem_flatMap.1 h
    obtain ⟨x, _, rfl⟩ := List.mem_map.1 h2
    rw [List.length_append, preQ_len j t o1 h1]; rfl
theorem preQ_ords (j : Jb) : ∀ (t k : Nat), (preQ j t).flatMap (ordsK j k) = ordsK j (t + k) []
  | 0, k => by show ([[]] : List (List (List Int))).flatMap (ordsK j k) = _; simp
  | t + 1, k => by
    rw [show t + 1 + k = t + (k + 1) by omega, ← preQ_ords j t (k + 1)]
    show ((preQ j t).flatMap fun o => (prm (memT j t).length [] (memT j t)).map fun x => o ++ [x]).flatMap (ordsK j k) = _
    have hl := preQ_len j t
    generalize preQ j t = l at *
    induction l with
    | nil => rfl
    | cons o l ih =>
      rw [List.flatMap_cons, List.flatMap_append, ih (fun o h => hl o (List.mem_cons_of_mem _ h)), List.flatMap_cons]
      congr 1
      rw [List.flatMap_map]
      show _ = (prm (memT j o.length).length [] (memT j o.length)).flatMap fun x => ordsK j k (o ++ [x])
      rw [hl o List.mem_cons_self]
theorem preQ_all (j : Jb) (n : Nat) : preQ j n = ordsK j n [] := by
  have := preQ_ords j n 0
  rw [Nat.add_zero] at this
  rw [← this]
  show _ = (preQ j n).flatMap fun h => [h]
  simp
theorem preQ_cnt (j : Jb) : ∀ t, (preQ j t).length = mnP j t
  | 0 => rfl
  | t + 1 => by
    show ((preQ j t).flatMap fun o => (prm (memT j t).length [] (memT j t)).map fun x => o ++ [x]).length = mnP j t * fac _
    rw [← preQ_cnt j t]
    generalize preQ j t = l
    induction l with
    | nil => simp
    | cons o l ih => rw [List.flatMap_cons, List.length_append, ih, List.length_map, prm_len _ _ _ rfl, List.length_cons, Nat.succ_mul]; omega
theorem mem_small {j : Jb} {n t : Nat} (h : mnP j n ≤ 5040) (ht : t < n) : (memT j t).length ≤ 7 := by
  have h1 := mnP_mono j (show t + 1 ≤ n from ht)
  have h2 : fac (memT j t).length ≤ mnP j (t + 1) := Nat.le_mul_of_pos_left _ (mnP_pos j t)
  rcases Nat.lt_or_ge (memT j t).length 8 with q | q
  · omega
  · have h3 := fac_mono q
    have h4 : fac 8 = 40320 := rfl
    omega
def nxQ (O : List (List (List Int))) (R : List (List Int)) (i : Nat) : List (List (List Int)) := (O.take i).flatMap fun o => R.map fun x => o ++ [x]
theorem nxQ_succ (O : List (List (List Int))) (R : List (List Int)) {i : Nat} (hi : i < O.length) : nxQ O R (i + 1) = nxQ O R i ++ R.map fun x => O.getD i [] ++ [x] := by
  unfold nxQ
  have e : O.getD i [] = O[i] := by rw [List.getD_eq_getElem?_getD, List.getElem?_eq_getElem hi]; rfl
  rw [List.take_succ_eq_append_getElem hi, List.flatMap_append, e]
  simp
theorem nxQ_all (O : List (List (List Int))) (R : List (List Int)) : nxQ O R O.length = O.flatMap fun o => R.map fun x => o ++ [x] := by
  unfold nxQ; rw [List.take_length]
theorem nxQ_le (O : List (List (List Int))) (R : List (List Int)) (i : Nat) : (nxQ O R i).length ≤ (O.flatMap fun o => R.map fun x => o ++ [x]).length := by
  unfold nxQ
  conv => rhs; rw [← List.take_append_drop i O]
  rw [List.flatMap_append, List.length_append]
  omega
theorem take_map_succ {α : Type} (f : List Int → α) (R : List (List Int)) {k : Nat} (hk : k < R.length) : (R.take (k + 1)).map f = (R.take k).map f ++ [f (R.getD k [])] := by
  have e : R.getD k [] = R[k] := by rw [List.getD_eq_getElem?_getD, List.getElem?_eq_getElem hk]; rfl
  rw [List.take_succ_eq_append_getElem hk, List.map_append, e]
  rfl
theorem fn60 (j : Jb) (h : OkJ j) (hm : mnP j j.tm.length ≤ 5040) : Sy.Fn Try.prog 60 [aJ j] (aQ (ordsK j j.tm.length [])) := by
  refine Fn_of_W mixed Xt60 rfl ?_
  have hn := h.n
  have hnt := h.nt
  have hcl : ∀ t, t ≤ j.tm.length → (preQ j t).length ≤ 5040 := fun t ht => by rw [preQ_cnt]; exact Nat.le_trans (mnP_mono j ht) hm
  rw [← preQ_all]
  repeat' (first | refine w1g ?_ | refine w1l ?_ | refine w1q ?_ | refine w1b ?_ | refine w1p ?_ | ((first | refine w1r ?_ | refine w1k ?_ | refine w1e ?_); (refine sy1 ?_; try exact True.intro)) | refine an2 ?_ | fail)
  refine ⟨rfl, trivial, List (List Int), [], (fun _ => [.v (.slice none 0 0)]), [[]], rfl, by omega, fun x _ => ⟨rfl, rfl⟩, rfl, ?_⟩
  (refine sy1 ?_; try exact True.intro)
  repeat' (first | refine w1g ?_ | refine w1l ?_ | refine w1q ?_ | refine w1b ?_ | refine w1p ?_ | ((first | refine w1r ?_ | refine w1k ?_ | refine w1e ?_); (refine sy1 ?_; try exact True.intro)) | refine an2 ?_ | fail)
  refine W_le (le_rowF (k := 2) cQ rfl (fun x hx A w vs _ hv => ?_)) ?_
  · obtain rfl : x = [] := List.mem_singleton.1 hx
    refine ⟨rfl, ?_⟩
    simp only [fsatL, fsat, cQ] at hv ⊢
    obtain ⟨y, ys, rfl, g1, rfl, rfl⟩ := hv
    exact ⟨_, [], rfl, g1, ⟨none, 0, rfl, Nat.le_refl _, .inl rfl, .inl trivial⟩, rfl⟩
  (refine sy1 ?_; try exact True.intro)
  refine W_le (le_move 3 2 0 2 0 27 1 [1, 4] [] 5 [] cQ [[]] rfl rfl rfl rfl rfl rfl rfl (by omega)) ?_
  simp (maxSteps := 400000) (disch := omega) only [push_cast, ↓reduceIte, reduceCtorEq, Nat.reduceAdd, Nat.reduceSub, Nat.reduceEqDiff, Nat.reduceLeDiff, Nat.reduceLT, Nat.reduceBEq, Nat.reduceDiv, Nat.reduceMod, Nat.reducePow, Nat.reduceMul, Int.reduceToNat, Int.reduceLT, Int.reduceLE, List.map_cons, List.map_nil, keepM]
  refine W_loopU (fun t : Nat => [(4, iv t)]) (fun t => [(2, .row 0 27 1 [] cQ (preQ j t))]) (fun t => t ≤ j.tm.length) (fun t => j.tm.length - t) 0 (by omega) (by rfl) (by rfl) (fun t ht => ?_)
  (refine sy1 ?_; try exact True.intro)
  repeat' (first | refine w1g ?_ | refine w1l ?_ | refine w1q ?_ | refine w1b ?_ | refine w1p ?_ | ((first | refine w1r ?_ | refine w1k ?_ | refine w1e ?_); (refine sy1 ?_; try exact True.intro)) | refine an2 ?_ | fail)
  refine W_condD (by rfl) (fun h5 => ?_) (fun h5 => ?_)
  · have htl : t < j.tm.length := by omega
    repeat' (first | refine w1g ?_ | refine w1l ?_ | refine w1q ?_ | refine w1b ?_ | refine w1p ?_ | ((first | refine w1r ?_ | refine w1k ?_ | refine w1e ?_); (refine sy1 ?_; try exact True.intro)) | refine an2 ?_ | fail)
    refine W_le (le_adopt 5 3 1 0 cI (by omega) rfl) ?_
    (refine sy1 ?_; try exact True.intro)
    have hps : preQ j (t + 1) = (preQ j t).flatMap fun o => (prm (memT j t).length [] (memT j t)).map fun x => o ++ [x] := rfl
    have hl7 := mem_small hm htl
    have hcs := hcl (t + 1) (by omega)
    have hct := hcl t ht
    have hol := preQ_len j t
    refine W_loopU (fun i : Nat => [(5, .row 12 (memK j t i).length), (6, iv i)]) (fun i => [(12, .row (memK j t i).length 3 1 0 cI (memK j t i))]) (fun i => i ≤ j.ts.length) (fun i => j.ts.length - i) 0 (by omega) (by rfl) (by rfl) (fun i hi => ?_)
    have hl := memK_len j t i
    have hs := memK_succ j t i
    have hmm : isM j t i = ((gt j.ts i).tm == (t : Int)) := rfl
    have hgt : j.ts.getD i dTk = gt j.ts i := rfl
    (refine sy1 ?_; try exact True.intro)
    repeat' (first | refine w1g ?_ | refine w1l ?_ | refine w1q ?_ | refine w1b ?_ | refine w1p ?_ | ((first | refine w1r ?_ | refine w1k ?_ | refine w1e ?_); (refine sy1 ?_; try exact True.intro)) | refine an2 ?_ | fail)
    refine W_condD (by rfl) (fun h6 => ?_) (fun h6 => ?_)
    · have hlt : i < j.ts.length := by omega
      rw [hmm] at hs
      generalize gt j.ts i = x at hs hgt hmm
      repeat' (first | refine w1g ?_ | refine w1l ?_ | refine w1q ?_ | refine w1b ?_ | refine w1p ?_ | ((first | refine w1r ?_ | refine w1k ?_ | refine w1e ?_); simp (maxSteps := 400000) (disch := omega) only [push_cast, ↓reduceIte, reduceCtorEq, Nat.reduceAdd, Nat.reduceSub, Nat.reduceEqDiff, Nat.reduceLeDiff, Nat.reduceLT, Nat.reduceBEq, Nat.reduceDiv, Nat.reduceMod, Nat.reducePow, Nat.reduceMul, Int.reduceToNat, Int.reduceLT, Int.reduceLE, hgt]) | refine an2 ?_ | fail)
      refine W_cond (by rfl) (fun hb => ?_) (fun hb => ?_)
      · rw [hb, if_pos rfl] at hs
        repeat' (first | refine w1g ?_ | refine w1l ?_ | refine w1q ?_ | refine w1b ?_ | refine w1p ?_ | ((first | refine w1r ?_ | refine w1k ?_ | refine w1e ?_); (refine sy1 ?_; try exact True.intro)) | refine an2 ?_ | fail)
        refine ⟨rfl, trivial, Int, 0, cI, [(i : Int)], rfl, by omega, fun x _ => ⟨rfl, rfl⟩, rfl, ?_⟩
        (refine sy1 ?_; try exact True.intro)
        refine ⟨rfl, ⟨Nat.le_of_ble_eq_true rfl, rfl⟩, trivial, [(i : Int)], rfl, by first | omega | (simp; omega), by first | omega | (simp; omega), ?_⟩
        (refine sy1 ?_; try exact True.intro)
        repeat' (first | refine w1g ?_ | refine w1l ?_ | refine w1q ?_ | refine w1b ?_ | refine w1p ?_ | ((first | refine w1r ?_ | refine w1k ?_ | refine w1e ?_); (refine sy1 ?_; try exact True.intro)) | refine an2 ?_ | fail)
        refine ⟨i + 1, by omega, by omega, by rfl, ?_⟩
        rw [hs, List.length_append]
        (refine syE ?_; try exact True.intro)
      · rw [hb, if_neg (by decide), List.append_nil] at hs
        repeat' (first | refine w1g ?_ | refine w1l ?_ | refine w1q ?_ | refine w1b ?_ | refine w1p ?_ | ((first | refine w1r ?_ | refine w1k ?_ | refine w1e ?_); (refine sy1 ?_; try exact True.intro)) | refine an2 ?_ | fail)
        refine ⟨i + 1, by omega, by omega, by rfl, ?_⟩
        rw [hs]
        (refine syE ?_; try exact True.intro)
    · obtain rfl : i = j.ts.length := by omega
      have c110 := Fn_nil (pre := []) (fn110 (memT j t).length [] (memT j t) rfl (by omega) (by simp; omega))
      have hRl := prm_len (memT j t).length [] (memT j t) rfl
      have c110 : Sy.Fn Try.prog 110 [.v (.slice none 0 0), aI (memT j t)] (aO (prm (memT j t).length [] (memT j t))) := c110
      refine W_exit ?_
      (refine sy1 ?_; try exact True.intro)
      refine WK_go (W_le (le_frzR 5 [1, 3, 4] [2] 18 12 (memT j t).length 3 1 0 cI (memT j t) rfl rfl rfl rfl) ?_)
      clear hs hl hmm hgt h6
      have hRb : (prm (memT j t).length [] (memT j t)).length ≤ 5040 := by
        rw [hRl]
        exact Nat.le_trans (fac_mono hl7) (by decide)
      generalize prm (memT j t).length [] (memT j t) = RW at *
      generalize memT j (t : Int) = MM at *
      (refine sy1 ?_; try exact True.intro)
      repeat' (first | refine w1g ?_ | refine w1l ?_ | refine w1q ?_ | refine w1b ?_ | refine w1p ?_ | ((first | refine w1r ?_ | refine w1k ?_ | refine w1e ?_ | refine CallC.now (c110) ?_); (refine sy1 ?_; try exact True.intro)) | refine an2 ?_ | fail)
      refine W_le (le_adopt 8 27 1 [] cQ (by omega) rfl) ?_
      (refine sy1 ?_; try exact True.intro)
      have hnl := nxQ_le (preQ j t) RW
      rw [← hps] at hnl
      have hnA := nxQ_all (preQ j t) RW
      rw [← hps] at hnA
      generalize hO : preQ j t = O at *
      refine W_loopU (fun u : Nat × Nat => [(8, .row 23 u.2), (9, iv u.1)]) (fun u => [(23, .row u.2 27 1 [] cQ (nxQ O RW u.1))]) (fun u => u.1 ≤ O.length) (fun u => O.length - u.1) (0, 0) (by dsimp only; omega) (by rfl) (by rfl) (fun u hi2 => ?_)
      obtain ⟨i, v⟩ := u
      dsimp only at hi2 ⊢
      have hn1 := hnl i
      (refine sy1 ?_; try exact True.intro)
      repeat' (first | refine w1g ?_ | refine w1l ?_ | refine w1q ?_ | refine w1b ?_ | refine w1p ?_ | ((first | refine w1r ?_ | refine w1k ?_ | refine w1e ?_); (refine sy1 ?_; try exact True.intro)) | refine an2 ?_ | fail)
      refine W_condD (by rfl) (fun h6 => ?_) (fun h6 => ?_)
      · have hil : i < O.length := by omega
        have hns := nxQ_succ O RW hil
        have hn2 := hnl (i + 1)
        have hoi : (O.getD i []).length = t := hol _ (getD_mem' [] O i hil)
        have g1 : O.getD i [] = O.getD i [] := rfl
        generalize hN : nxQ O RW i = NX at *
        generalize hg : O.getD i [] = y at *
        repeat' (first | refine w1g ?_ | refine w1l ?_ | refine w1q ?_ | refine w1b ?_ | refine w1p ?_ | ((first | refine w1r ?_ | refine w1k ?_ | refine w1e ?_); (refine sy1 ?_; try exact True.intro)) | refine an2 ?_ | fail)
        refine W_loopU (fun u : Nat × Nat => [(8, .row 23 u.2), (10, iv u.1)]) (fun u => [(23, .row u.2 27 1 [] cQ (NX ++ (RW.take u.1).map fun x => y ++ [x]))]) (fun u => u.1 ≤ RW.length) (fun u => RW.length - u.1) (0, v) (by dsimp only; omega) (by rfl) (by rw [List.take_zero, List.map_nil, List.append_nil]; rfl) (fun u hk => ?_)
        obtain ⟨k, v2⟩ := u
        dsimp only at hk ⊢
        (refine sy1 ?_; try exact True.intro)
        repeat' (first | refine w1g ?_ | refine w1l ?_ | refine w1q ?_ | refine w1b ?_ | refine w1p ?_ | ((first | refine w1r ?_ | refine w1k ?_ | refine w1e ?_); (refine sy1 ?_; try exact True.intro)) | refine an2 ?_ | fail)
        refine W_condD (by rfl) (fun h7 => ?_) (fun h7 => ?_)
        · have hkl : k < RW.length := by omega
          have hts := take_map_succ (fun x => y ++ [x]) RW hkl
          have htl2 : ((RW.take k).map fun x => y ++ [x]).length ≤ 5040 := by rw [List.length_map, List.length_take]; omega
          generalize ((RW.take k).map fun x => y ++ [x]) = Z at *
          generalize hx : RW.getD k [] = x at *
          repeat (first | refine WK_go ?_ | refine W_skip ?_ | refine W_seqL ?_ | refine W_seq ?_ | refine W_block ?_)
          refine W_regZ 13 0 52 (by decide) rfl rfl rfl (fun _ _ => rfl) (by decide) (by decide) (by decide) ?_
          simp (maxSteps := 400000) (disch := omega) only [push_cast, ↓reduceIte, reduceCtorEq, Nat.reduceAdd, Nat.reduceSub, Nat.reduceEqDiff, Nat.reduceLeDiff, Nat.reduceLT, Nat.reduceBEq, Nat.reduceDiv, Nat.reduceMod, Nat.reducePow, Nat.reduceMul, Int.reduceToNat, Int.reduceLT, Int.reduceLE, hg, hx, List.take_succ_cons, List.take_zero, List.drop_succ_cons, List.drop_zero]
          refine ⟨rfl, trivial, (List Int), [], cO, [], rfl, by omega, fun x _ => ⟨rfl, rfl⟩, rfl, ?_⟩
          simp (maxSteps := 400000) (disch := omega) only [push_cast, ↓reduceIte, reduceCtorEq, Nat.reduceAdd, Nat.reduceSub, Nat.reduceEqDiff, Nat.reduceLeDiff, Nat.reduceLT, Nat.reduceBEq, Nat.reduceDiv, Nat.reduceMod, Nat.reducePow, Nat.reduceMul, Int.reduceToNat, Int.reduceLT, Int.reduceLE, hg, hx]
          repeat refine And.intro (by omega) ?_
          refine ⟨rfl, ⟨Nat.le_of_ble_eq_true rfl, rfl⟩, trivial, y, rfl, by first | omega | (simp; omega), by first | omega | (simp; omega), ?_⟩
          simp (maxSteps := 400000) (disch := omega) only [push_cast, ↓reduceIte, reduceCtorEq, Nat.reduceAdd, Nat.reduceSub, Nat.reduceEqDiff, Nat.reduceLeDiff, Nat.reduceLT, Nat.reduceBEq, Nat.reduceDiv, Nat.reduceMod, Nat.reducePow, Nat.reduceMul, Int.reduceToNat, Int.reduceLT, Int.reduceLE, List.nil_append, hg, hx]
          repeat refine And.intro (by omega) ?_
          refine ⟨rfl, trivial, (List Int), [], cO, [x], rfl, by omega, fun x _ => ⟨rfl, rfl⟩, rfl, ?_⟩
          (refine sy1 ?_; try exact True.intro)
          refine ⟨rfl, ⟨Nat.le_of_ble_eq_true rfl, rfl⟩, trivial, [x], rfl, by first | omega | (simp; omega), by first | omega | (simp; omega), ?_⟩
          simp (maxSteps := 400000) (disch := omega) only [push_cast, ↓reduceIte, reduceCtorEq, Nat.reduceAdd, Nat.reduceSub, Nat.reduceEqDiff, Nat.reduceLeDiff, Nat.reduceLT, Nat.reduceBEq, Nat.reduceDiv, Nat.reduceMod, Nat.reducePow, Nat.reduceMul, Int.reduceToNat, Int.reduceLT, Int.reduceLE, hg, hx]
          refine ⟨⟨_, le_frzR 64 [1, 3, 4, 7, 9, 10, 52] [23, 2] 46 34 2 52 1 [] cO (y ++ [x]) rfl rfl rfl rfl, ?_⟩, ⟨_, le_frzR 64 [1, 3, 4, 7, 8, 9, 10] [23, 2] 46 34 2 52 1 [] cO (y ++ [x]) rfl rfl rfl rfl, ?_, ?_⟩⟩
          all_goals
            simp (maxSteps := 400000) (disch := omega) only [push_cast, ↓reduceIte, reduceCtorEq, Nat.reduceAdd, Nat.reduceSub, Nat.reduceEqDiff, Nat.reduceLeDiff, Nat.reduceLT, Nat.reduceBEq, Nat.reduceDiv, Nat.reduceMod, Nat.reducePow, Nat.reduceMul, Int.reduceToNat, Int.reduceLT, Int.reduceLE, List.take_succ_cons, List.take_zero, List.drop_succ_cons, List.drop_zero]
            refine ⟨rfl, trivial, (List (List Int)), [], cQ, [y ++ [x]], rfl, by omega, fun x _ => ⟨rfl, rfl⟩, rfl, ?_⟩
            (refine sy1 ?_; try exact True.intro)
            refine ⟨rfl, ⟨Nat.le_of_ble_eq_true rfl, rfl⟩, trivial, [y ++ [x]], rfl, by first | omega | (simp; omega), by first | omega | (simp; omega), ?_⟩
            (refine sy1 ?_; try exact True.intro)
            repeat' (first | refine w1g ?_ | refine w1l ?_ | refine w1q ?_ | refine w1b ?_ | refine w1p ?_ | ((first | refine w1r ?_ | refine w1k ?_ | refine w1e ?_); (refine sy1 ?_; try exact True.intro)) | refine an2 ?_ | fail)
            refine ⟨(k + 1, v2 + 1), by dsimp only; omega, by dsimp only; omega, by rfl, ?_⟩
            dsimp only
            rw [hts, ← List.append_assoc]
            (refine syE ?_; try exact True.intro)
        · obtain rfl : k = RW.length := by omega
          repeat' (first | refine w1g ?_ | refine w1l ?_ | refine w1q ?_ | refine w1b ?_ | refine w1p ?_ | ((first | refine w1r ?_ | refine w1k ?_ | refine w1e ?_); (refine sy1 ?_; try exact True.intro)) | refine an2 ?_ | fail)
          refine ⟨(i + 1, v2), by dsimp only; omega, by dsimp only; omega, by rfl, ?_⟩
          dsimp only
          rw [hns, List.take_length]
          (refine syE ?_; try exact True.intro)
      · obtain rfl : i = O.length := by omega
        rw [hnA]
        refine W_exit ?_
        (refine sy1 ?_; try exact True.intro)
        repeat (first | refine WK_go ?_ | refine W_skip ?_ | refine W_seqL ?_ | refine W_seq ?_ | refine W_block ?_)
        refine W_regL ?_
        (refine sy1 ?_; try exact True.intro)
        trace_state
        refine WK_go (W_le (le_move 3 2 0 23 v 27 1 [1, 4] [] 41 [] cQ (preQ j (t + 1)) rfl rfl rfl rfl rfl rfl rfl (by omega)) ?_)
        simp (maxSteps := 400000) (disch := omega) only [push_cast, ↓reduceIte, reduceCtorEq, Nat.reduceAdd, Nat.reduceSub, Nat.reduceEqDiff, Nat.reduceLeDiff, Nat.reduceLT, Nat.reduceBEq, Nat.reduceDiv, Nat.reduceMod, Nat.reducePow, Nat.reduceMul, Int.reduceToNat, Int.reduceLT, Int.reduceLE, List.map_cons, List.map_nil, keepM]
        repeat' (first | refine w1g ?_ | refine w1l ?_ | refine w1q ?_ | refine w1b ?_ | refine w1p ?_ | ((first | refine w1r ?_ | refine w1k ?_ | refine w1e ?_); (refine sy1 ?_; try exact True.intro)) | refine an2 ?_ | fail)
        refine ⟨t + 1, by omega, by omega, by rfl, ?_⟩
        (refine syE ?_; try exact True.intro)
  · obtain rfl : t = j.tm.length := by omega
    repeat' (first | refine w1g ?_ | refine w1l ?_ | refine w1q ?_ | refine w1b ?_ | refine w1p ?_ | ((first | refine w1r ?_ | refine w1k ?_ | refine w1e ?_); (refine sy1 ?_; try exact True.intro)) | refine an2 ?_ | fail)
    refine W_ret ⟨[_], ⟨rfl, rfl⟩, ?_⟩
    simp (maxSteps := 400000) (disch := omega) only [push_cast, ↓reduceIte, reduceCtorEq, Nat.reduceAdd, Nat.reduceSub, Nat.reduceEqDiff, Nat.reduceLeDiff, Nat.reduceLT, Nat.reduceBEq, Nat.reduceDiv, Nat.reduceMod, Nat.reducePow, Nat.reduceMul, Int.reduceToNat, Int.reduceLT, Int.reduceLE, pack]
end Go.Proofs.Ytoiohkjomcbadaa

namespace Go.Proofs.Ytoiohkjomcbadaa
open Go Sy
set_option maxRecDepth 100000
set_option maxHeartbeats 4000000
set_option linter.unusedVariables false
set_option linter.unusedSimpArgs false
structure Bk (j : Jb) (b : Bo) : Prop where
  n : b.l.length = j.ts.length
  r : ∀ k, k < b.l.length → 0 ≤ gi b.l k ∧ gi b.l k ≤ 1099511627776
  e : b.e = enP j b.l
theorem stB_ok {j : Jb} (h : OkJ j) {b : Bo} {o : List (List Int)} (ho : OkO j o) (hb : b.e < 0 ∨ Bk j b) : (stB j b o).e < 0 ∨ Bk j (stB j b o) := by
  unfold stB
  split
  · rename_i q
    obtain ⟨l1, l2, _⟩ := erl_facts h (lks_lk' ho) q.1
    exact .inr ⟨l1, fun k hk => fit_rng (h.t k (by rw [← l1]; exact hk)).1.2.2 (h.t k (by rw [← l1]; exact hk)).1.1 (fitB_iff.2 (l2.f k (by rw [← l1]; exact hk))), rfl⟩
  · exact hb
theorem fn20 (j : Jb) (hG : Gj j) : Sy.Fn Try.prog 20 [aJ j] (.tup [aO (btO j), aI (btL j), iv (btN j), iv (btE j)]) := by
  refine Fn_of_W mixed Xt20 rfl ?_
  have c17 := fn17 j hG
  have eO : btO j = if chkJ j = 0 ∧ mnP j j.tm.length ≤ 5040 ∧ 0 ≤ (bsJ j).e then (bsJ j).o else [] := rfl
  have eL : btL j = if chkJ j = 0 ∧ mnP j j.tm.length ≤ 5040 ∧ 0 ≤ (bsJ j).e then (bsJ j).l else [] := rfl
  have eN : btN j = if chkJ j = 0 ∧ mnP j j.tm.length ≤ 5040 ∧ 0 ≤ (bsJ j).e then (bsJ j).e else 0 := rfl
  have eE : btE j = if chkJ j = 0 then (if mnP j j.tm.length ≤ 5040 then (if 0 ≤ (bsJ j).e then 0 else 15) else 6) else chkJ j := rfl
  generalize btO j = RO at *
  generalize btL j = RL at *
  generalize btN j = RN at *
  generalize btE j = RE at *
  by_cases h0 : chkJ j = 0
  rotate_left
  · rw [if_neg (fun q => h0 q.1)] at eO eL eN
    rw [if_neg h0] at eE
    subst eO eL eN eE
    generalize chkJ j = E at *
    repeat' (first | refine w1g ?_ | refine w1l ?_ | refine w1q ?_ | refine w1b ?_ | refine w1p ?_ | ((first | refine w1r ?_ | refine w1k ?_ | refine w1e ?_ | refine CallC.now (c17) ?_); (refine sy1 ?_; try exact True.intro)) | refine an2 ?_ | fail)
    refine W_cond (by rfl) (fun _ => ?_) (fun h => absurd (by simpa using h) h0)
    repeat' (first | refine w1g ?_ | refine w1l ?_ | refine w1q ?_ | refine w1b ?_ | refine w1p ?_ | ((first | refine w1r ?_ | refine w1k ?_ | refine w1e ?_); (refine sy1 ?_; try exact True.intro)) | refine an2 ?_ | fail)
    refine W_le (le_nil 2 1 [] cO rfl) ?_
    refine W_le (le_nil 3 1 0 cI rfl) ?_
    exact W_ret ⟨[_, _, _, _], ⟨rfl, rfl, rfl, rfl, rfl⟩, rfl⟩
  have hok := chkJ_ok h0
  have hnt := hok.nt
  have hnn := hok.n
  have c18 := fn18 j (by omega) (by omega)
  rw [h0] at c17
  rw [if_pos h0] at eE
  have hM : mnM j = min (mnP j j.tm.length) 5041 := rfl
  by_cases hm : mnP j j.tm.length ≤ 5040
  rotate_left
  · rw [if_neg (fun q => hm q.2.1)] at eO eL eN
    rw [if_neg hm] at eE
    subst eO eL eN eE
    have e1 : decide (5040 < ((mnM j : Nat) : Int)) = true := decide_eq_true (by omega)
    generalize mnM j = M at *
    repeat' (first | refine w1g ?_ | refine w1l ?_ | refine w1q ?_ | refine w1b ?_ | refine w1p ?_ | ((first | refine w1r ?_ | refine w1k ?_ | refine w1e ?_ | refine CallC.now (c17) ?_); (refine sy1 ?_; try exact True.intro)) | refine an2 ?_ | fail)
    refine W_cond (by rfl) (fun h => by cases h) (fun _ => ?_)
    repeat' (first | refine w1g ?_ | refine w1l ?_ | refine w1q ?_ | refine w1b ?_ | refine w1p ?_ | ((first | refine w1r ?_ | refine w1k ?_ | refine w1e ?_ | refine CallC.now (c18) ?_); simp (maxSteps := 400000) (disch := omega) only [push_cast, ↓reduceIte, reduceCtorEq, Nat.reduceAdd, Nat.reduceSub, Nat.reduceEqDiff, Nat.reduceLeDiff, Nat.reduceLT, Nat.reduceBEq, Nat.reduceDiv, Nat.reduceMod, Nat.reducePow, Nat.reduceMul, Int.reduceToNat, Int.reduceLT, Int.reduceLE, e1]) | refine an2 ?_ | fail)
    refine W_cond (by rfl) (fun _ => ?_) (fun h => by cases h)
    repeat' (first | refine w1g ?_ | refine w1l ?_ | refine w1q ?_ | refine w1b ?_ | refine w1p ?_ | ((first | refine w1r ?_ | refine w1k ?_ | refine w1e ?_); (refine sy1 ?_; try exact True.intro)) | refine an2 ?_ | fail)
    refine W_le (le_nil 2 1 [] cO rfl) ?_
    refine W_le (le_nil 3 1 0 cI rfl) ?_
    exact W_ret ⟨[_, _, _, _], ⟨rfl, rfl, rfl, rfl, rfl⟩, rfl⟩
  rw [if_pos hm] at eE
  have e1 : decide (5040 < ((mnM j : Nat) : Int)) = false := decide_eq_false (by omega)
  have c60 := fn60 j hok hm
  have hOl : (ordsK j j.tm.length []).length ≤ 5040 := by rw [← preQ_all, preQ_cnt]; exact hm
  have hOk : ∀ i, i < (ordsK j j.tm.length []).length → OkO j ((ordsK j j.tm.length []).getD i []) := fun i hi => ords_ok hok (getD_mem' [] _ i hi)
  have hbs : bsJ j = (ordsK j j.tm.length []).foldl (stB j) bs0 := rfl
  generalize bsJ j = b2 at *
  generalize ordsK j j.tm.length [] = Os at *
  generalize mnM j = M at *
  repeat' (first | refine w1g ?_ | refine w1l ?_ | refine w1q ?_ | refine w1b ?_ | refine w1p ?_ | ((first | refine w1r ?_ | refine w1k ?_ | refine w1e ?_ | refine CallC.now (c17) ?_); (refine sy1 ?_; try exact True.intro)) | refine an2 ?_ | fail)
  refine W_cond (by rfl) (fun h => by cases h) (fun _ => ?_)
  repeat' (first | refine w1g ?_ | refine w1l ?_ | refine w1q ?_ | refine w1b ?_ | refine w1p ?_ | ((first | refine w1r ?_ | refine w1k ?_ | refine w1e ?_ | refine CallC.now (c18) ?_); simp (maxSteps := 400000) (disch := omega) only [push_cast, ↓reduceIte, reduceCtorEq, Nat.reduceAdd, Nat.reduceSub, Nat.reduceEqDiff, Nat.reduceLeDiff, Nat.reduceLT, Nat.reduceBEq, Nat.reduceDiv, Nat.reduceMod, Nat.reducePow, Nat.reduceMul, Int.reduceToNat, Int.reduceLT, Int.reduceLE, e1]) | refine an2 ?_ | fail)
  refine W_cond (by rfl) (fun h => by cases h) (fun _ => ?_)
  repeat' (first | refine w1g ?_ | refine w1l ?_ | refine w1q ?_ | refine w1b ?_ | refine w1p ?_ | ((first | refine w1r ?_ | refine w1k ?_ | refine w1e ?_ | refine CallC.now (c60) ?_); (refine sy1 ?_; try exact True.intro)) | refine an2 ?_ | fail)
  have hfs : ∀ i, i < Os.length → (Os.take (i + 1)).foldl (stB j) bs0 = stB j ((Os.take i).foldl (stB j) bs0) (Os.getD i []) := fun i hi => by
    have e : Os.getD i [] = Os[i] := by rw [List.getD_eq_getElem?_getD, List.getElem?_eq_getElem hi]; rfl
    rw [List.take_succ_eq_append_getElem hi, List.foldl_append, e]
    rfl
  refine W_loopU (fun u : Nat × Int => [(8, iv u.2), (9, bL ((Os.take u.1).foldl (stB j) bs0)), (10, iv u.1)]) (fun u => []) (fun u => u.1 ≤ Os.length ∧ ((((Os.take u.1).foldl (stB j) bs0).e < 0 ∧ u.2 = -1) ∨ (0 ≤ ((Os.take u.1).foldl (stB j) bs0).e ∧ 0 ≤ u.2 ∧ u.2 < u.1 ∧ Os.getD u.2.toNat [] = ((Os.take u.1).foldl (stB j) bs0).o ∧ Bk j ((Os.take u.1).foldl (stB j) bs0)))) (fun u => Os.length - u.1) (0, -1) ⟨by dsimp only; omega, .inl ⟨by show (-1 : Int) < 0; omega, rfl⟩⟩ (by rfl) (by rfl) (fun u hu => ?_)
  obtain ⟨i, bi⟩ := u
  obtain ⟨hi, hb⟩ := hu
  dsimp only at hi hb ⊢
  have hfs := hfs i
  generalize hBb : (Os.take i).foldl (stB j) bs0 = b at *
  (refine sy1 ?_; try exact True.intro)
  repeat' (first | refine w1g ?_ | refine w1l ?_ | refine w1q ?_ | refine w1b ?_ | refine w1p ?_ | ((first | refine w1r ?_ | refine w1k ?_ | refine w1e ?_); (refine sy1 ?_; try exact True.intro)) | refine an2 ?_ | fail)
  refine W_condD (by rfl) (fun h5 => ?_) (fun h5 => ?_)
  · have hil : i < Os.length := by omega
    have hfs := hfs hil
    have hOi := hOk i hil
    have hgo : Os.getD i [] = Os.getD i [] := rfl
    generalize hx : Os.getD i [] = x at *
    have c61 := fn61 j x hOi
    have hst : stB j b x = if erlB j (lks j x) = true ∧ (b.e < 0 ∨ enP j (erlL j (lks j x)) < b.e) then ⟨x, erlL j (lks j x), enP j (erlL j (lks j x))⟩ else b := rfl
    have hfa := fun hb => erl_facts hok (lks_lk' hOi) hb
    generalize erlB j (lks j x) = EB at *
    generalize hEL : erlL j (lks j x) = EL at *
    have hmi : ∀ k, k < j.ts.length → 0 ≤ (gt j.ts k).mi ∧ (gt j.ts k).mi ≤ 10080 := fun k hk => ⟨(hok.t k hk).1.1, (hok.t k hk).1.2.1⟩
    have hr : EB = true → ∀ k, k < EL.length → 0 ≤ gi EL k ∧ gi EL k ≤ 1099511627776 := fun hb k hk => by
      obtain ⟨l1, l2, _⟩ := hfa hb
      exact fit_rng (hok.t k (by omega)).1.2.2 (hok.t k (by omega)).1.1 (fitB_iff.2 (l2.f k (by omega)))
    have hn0 := enK_pos j EL EL.length
    have hEb : EB = true → Bk j ⟨x, EL, enP j EL⟩ := fun hb => ⟨(hfa hb).1, hr hb, rfl⟩
    have hbL' : bL ⟨x, EL, enP j EL⟩ = aI EL := if_neg (by show ¬ enP j EL < 0; show ¬ enK j EL EL.length < 0; omega)
    rcases hb with ⟨hb1, rfl⟩ | ⟨hb1, hb2, hb3, hb4, hb5⟩
    · have hbL : bL b = .v (.slice none 0 0) := if_pos hb1
      rw [hbL]
      cases EB
      · rw [if_neg (fun q => by cases q.1)] at hst
        rw [hst] at hfs
        repeat' (first | refine w1g ?_ | refine w1l ?_ | refine w1q ?_ | refine w1b ?_ | refine w1p ?_ | ((first | refine w1r ?_ | refine w1k ?_ | refine w1e ?_ | refine CallC.now (c61) ?_); simp (maxSteps := 400000) (disch := omega) only [push_cast, ↓reduceIte, reduceCtorEq, Nat.reduceAdd, Nat.reduceSub, Nat.reduceEqDiff, Nat.reduceLeDiff, Nat.reduceLT, Nat.reduceBEq, Nat.reduceDiv, Nat.reduceMod, Nat.reducePow, Nat.reduceMul, Int.reduceToNat, Int.reduceLT, Int.reduceLE, hx]) | refine an2 ?_ | fail)
        refine CallC.go (iv 0) (fun hpc => absurd hpc (by simp [pc])) rfl ?_
        (refine sy1 ?_; try exact True.intro)
        refine CallC.go (iv 0) (fun hpc => absurd hpc (by simp [pc])) rfl ?_
        (refine sy1 ?_; try exact True.intro)
        repeat' (first | refine w1g ?_ | refine w1l ?_ | refine w1q ?_ | refine w1b ?_ | refine w1p ?_ | ((first | refine w1r ?_ | refine w1k ?_ | refine w1e ?_); (refine sy1 ?_; try exact True.intro)) | refine an2 ?_ | fail)
        refine W_cond (by rfl) (fun h => by cases h) (fun _ => ?_)
        repeat' (first | refine w1g ?_ | refine w1l ?_ | refine w1q ?_ | refine w1b ?_ | refine w1p ?_ | ((first | refine w1r ?_ | refine w1k ?_ | refine w1e ?_); (refine sy1 ?_; try exact True.intro)) | refine an2 ?_ | fail)
        refine ⟨(i + 1, -1), ⟨by dsimp only; omega, .inl ⟨by dsimp only; rw [hfs]; exact hb1, rfl⟩⟩, by dsimp only; omega, by rfl, ?_⟩
        dsimp only
        rw [hfs, hbL]
        (refine syE ?_; try exact True.intro)
      · rw [if_pos ⟨rfl, .inl hb1⟩] at hst
        rw [hst] at hfs
        repeat' (first | refine w1g ?_ | refine w1l ?_ | refine w1q ?_ | refine w1b ?_ | refine w1p ?_ | ((first | refine w1r ?_ | refine w1k ?_ | refine w1e ?_ | refine CallC.now (c61) ?_); simp (maxSteps := 400000) (disch := omega) only [push_cast, ↓reduceIte, reduceCtorEq, Nat.reduceAdd, Nat.reduceSub, Nat.reduceEqDiff, Nat.reduceLeDiff, Nat.reduceLT, Nat.reduceBEq, Nat.reduceDiv, Nat.reduceMod, Nat.reducePow, Nat.reduceMul, Int.reduceToNat, Int.reduceLT, Int.reduceLE, hx]) | refine an2 ?_ | fail)
        refine CallC.go (iv 0) (fun hpc => absurd hpc (by simp [pc])) rfl ?_
        (refine sy1 ?_; try exact True.intro)
        refine CallC.go (iv 0) (fun hpc => absurd hpc (by simp [pc])) rfl ?_
        (refine sy1 ?_; try exact True.intro)
        repeat' (first | refine w1g ?_ | refine w1l ?_ | refine w1q ?_ | refine w1b ?_ | refine w1p ?_ | ((first | refine w1r ?_ | refine w1k ?_ | refine w1e ?_); (refine sy1 ?_; try exact True.intro)) | refine an2 ?_ | fail)
        refine W_cond (by rfl) (fun _ => ?_) (fun h => by cases h)
        repeat' (first | refine w1g ?_ | refine w1l ?_ | refine w1q ?_ | refine w1b ?_ | refine w1p ?_ | ((first | refine w1r ?_ | refine w1k ?_ | refine w1e ?_); (refine sy1 ?_; try exact True.intro)) | refine an2 ?_ | fail)
        refine ⟨(i + 1, (i : Int)), ⟨by dsimp only; omega, .inr ⟨by dsimp only; rw [hfs]; exact hn0, by dsimp only; omega, by dsimp only; omega, by dsimp only; rw [hfs, Int.toNat_natCast]; exact hx, by dsimp only; rw [hfs]; exact hEb rfl⟩⟩, by dsimp only; omega, by rfl, ?_⟩
        dsimp only
        rw [hfs, hbL']
        (refine syE ?_; try exact True.intro)
    · have hbL : bL b = aI b.l := if_neg (by omega)
      have e2 : decide (bi < 0) = false := decide_eq_false (by omega)
      rw [hbL]
      cases EB
      · rw [if_neg (fun q => by cases q.1)] at hst
        rw [hst] at hfs
        repeat' (first | refine w1g ?_ | refine w1l ?_ | refine w1q ?_ | refine w1b ?_ | refine w1p ?_ | ((first | refine w1r ?_ | refine w1k ?_ | refine w1e ?_ | refine CallC.now (c61) ?_); simp (maxSteps := 400000) (disch := omega) only [push_cast, ↓reduceIte, reduceCtorEq, Nat.reduceAdd, Nat.reduceSub, Nat.reduceEqDiff, Nat.reduceLeDiff, Nat.reduceLT, Nat.reduceBEq, Nat.reduceDiv, Nat.reduceMod, Nat.reducePow, Nat.reduceMul, Int.reduceToNat, Int.reduceLT, Int.reduceLE, hx, e2]) | refine an2 ?_ | fail)
        refine CallC.go (iv 0) (fun hpc => absurd hpc (by simp [pc])) rfl ?_
        (refine sy1 ?_; try exact True.intro)
        refine CallC.go (iv 0) (fun hpc => absurd hpc (by simp [pc])) rfl ?_
        (refine sy1 ?_; try exact True.intro)
        repeat' (first | refine w1g ?_ | refine w1l ?_ | refine w1q ?_ | refine w1b ?_ | refine w1p ?_ | ((first | refine w1r ?_ | refine w1k ?_ | refine w1e ?_); (refine sy1 ?_; try exact True.intro)) | refine an2 ?_ | fail)
        refine W_cond (by rfl) (fun h => by cases h) (fun _ => ?_)
        repeat' (first | refine w1g ?_ | refine w1l ?_ | refine w1q ?_ | refine w1b ?_ | refine w1p ?_ | ((first | refine w1r ?_ | refine w1k ?_ | refine w1e ?_); (refine sy1 ?_; try exact True.intro)) | refine an2 ?_ | fail)
        refine ⟨(i + 1, bi), ⟨by dsimp only; omega, .inr ⟨by dsimp only; rw [hfs]; exact hb1, hb2, by dsimp only; omega, by dsimp only; rw [hfs]; exact hb4, by dsimp only; rw [hfs]; exact hb5⟩⟩, by dsimp only; omega, by rfl, ?_⟩
        dsimp only
        rw [hfs, hbL]
        (refine syE ?_; try exact True.intro)
      · obtain ⟨l1, _, _⟩ := hfa rfl
        have c48 := fn48 j EL (by omega) (by omega) (hr rfl) (fun k hk => hmi k (by omega))
        have c48b := fn48 j b.l (by rw [hb5.n]; exact Nat.le_refl _) (by omega) hb5.r (fun k hk => hmi k (by rw [← hb5.n]; exact hk))
        have hbe := hb5.e
        rw [hbe] at hst hb1
        repeat' (first | refine w1g ?_ | refine w1l ?_ | refine w1q ?_ | refine w1b ?_ | refine w1p ?_ | ((first | refine w1r ?_ | refine w1k ?_ | refine w1e ?_ | refine CallC.now (c61) ?_ | refine CallC.now (c48) ?_ | refine CallC.now (c48b) ?_); simp (maxSteps := 400000) (disch := omega) only [push_cast, ↓reduceIte, reduceCtorEq, Nat.reduceAdd, Nat.reduceSub, Nat.reduceEqDiff, Nat.reduceLeDiff, Nat.reduceLT, Nat.reduceBEq, Nat.reduceDiv, Nat.reduceMod, Nat.reducePow, Nat.reduceMul, Int.reduceToNat, Int.reduceLT, Int.reduceLE, hx, e2]) | refine an2 ?_ | fail)
        by_cases hlt : enP j EL < enP j b.l
        · rw [if_pos ⟨rfl, .inr hlt⟩] at hst
          rw [hst] at hfs
          rw [decide_eq_true hlt]
          refine W_cond (by rfl) (fun _ => ?_) (fun h => by cases h)
          repeat' (first | refine w1g ?_ | refine w1l ?_ | refine w1q ?_ | refine w1b ?_ | refine w1p ?_ | ((first | refine w1r ?_ | refine w1k ?_ | refine w1e ?_); (refine sy1 ?_; try exact True.intro)) | refine an2 ?_ | fail)
          refine ⟨(i + 1, (i : Int)), ⟨by dsimp only; omega, .inr ⟨by dsimp only; rw [hfs]; exact hn0, by dsimp only; omega, by dsimp only; omega, by dsimp only; rw [hfs, Int.toNat_natCast]; exact hx, by dsimp only; rw [hfs]; exact hEb rfl⟩⟩, by dsimp only; omega, by rfl, ?_⟩
          dsimp only
          rw [hfs, hbL']
          (refine syE ?_; try exact True.intro)
        · rw [if_neg (fun q => q.2.elim (fun z => by omega) hlt)] at hst
          rw [hst] at hfs
          rw [decide_eq_false hlt]
          refine W_cond (by rfl) (fun h => by cases h) (fun _ => ?_)
          repeat' (first | refine w1g ?_ | refine w1l ?_ | refine w1q ?_ | refine w1b ?_ | refine w1p ?_ | ((first | refine w1r ?_ | refine w1k ?_ | refine w1e ?_); (refine sy1 ?_; try exact True.intro)) | refine an2 ?_ | fail)
          refine ⟨(i + 1, bi), ⟨by dsimp only; omega, .inr ⟨by dsimp only; rw [hfs, hbe]; exact hb1, hb2, by dsimp only; omega, by dsimp only; rw [hfs]; exact hb4, by dsimp only; rw [hfs]; exact hb5⟩⟩, by dsimp only; omega, by rfl, ?_⟩
          dsimp only
          rw [hfs, hbL]
          (refine syE ?_; try exact True.intro)
  · obtain rfl : i = Os.length := by omega
    rw [List.take_length, ← hbs] at hBb
    subst hBb
    rcases hb with ⟨hb1, rfl⟩ | ⟨hb1, hb2, hb3, hb4, hb5⟩
    · rw [if_neg (fun q => by omega)] at eO eL eN eE
      subst eO eL eN eE
      repeat' (first | refine w1g ?_ | refine w1l ?_ | refine w1q ?_ | refine w1b ?_ | refine w1p ?_ | ((first | refine w1r ?_ | refine w1k ?_ | refine w1e ?_); (refine sy1 ?_; try exact True.intro)) | refine an2 ?_ | fail)
      refine W_cond (by rfl) (fun _ => ?_) (fun h => by cases h)
      repeat' (first | refine w1g ?_ | refine w1l ?_ | refine w1q ?_ | refine w1b ?_ | refine w1p ?_ | ((first | refine w1r ?_ | refine w1k ?_ | refine w1e ?_); (refine sy1 ?_; try exact True.intro)) | refine an2 ?_ | fail)
      refine W_le (le_nil 2 1 [] cO rfl) ?_
      refine W_le (le_nil 3 1 0 cI rfl) ?_
      exact W_ret ⟨[_, _, _, _], ⟨rfl, rfl, rfl, rfl, rfl⟩, rfl⟩
    · rw [if_pos ⟨h0, hm, hb1⟩] at eO eL eN
      rw [if_pos hb1] at eE
      subst eO eL eN eE
      have hbL : bL b2 = aI b2.l := if_neg (by omega)
      have e2 : decide (bi < 0) = false := decide_eq_false (by omega)
      obtain ⟨k, rfl⟩ : ∃ k : Nat, bi = k := ⟨bi.toNat, by omega⟩
      rw [Int.toNat_natCast] at hb4
      have hkl : k < Os.length := by omega
      have c48b := fn48 j b2.l (by rw [hb5.n]; exact Nat.le_refl _) (by omega) hb5.r (fun k hk => ⟨(hok.t k (by rw [← hb5.n]; exact hk)).1.1, (hok.t k (by rw [← hb5.n]; exact hk)).1.2.1⟩)
      rw [← hb5.e] at c48b
      rw [hbL]
      repeat' (first | refine w1g ?_ | refine w1l ?_ | refine w1q ?_ | refine w1b ?_ | refine w1p ?_ | ((first | refine w1r ?_ | refine w1k ?_ | refine w1e ?_); simp (maxSteps := 400000) (disch := omega) only [push_cast, ↓reduceIte, reduceCtorEq, Nat.reduceAdd, Nat.reduceSub, Nat.reduceEqDiff, Nat.reduceLeDiff, Nat.reduceLT, Nat.reduceBEq, Nat.reduceDiv, Nat.reduceMod, Nat.reducePow, Nat.reduceMul, Int.reduceToNat, Int.reduceLT, Int.reduceLE, e2]) | refine an2 ?_ | fail)
      refine W_cond (by rfl) (fun h => by cases h) (fun _ => ?_)
      repeat' (first | refine w1g ?_ | refine w1l ?_ | refine w1q ?_ | refine w1b ?_ | refine w1p ?_ | ((first | refine w1r ?_ | refine w1k ?_ | refine w1e ?_ | refine CallC.now (c48b) ?_); simp (maxSteps := 400000) (disch := omega) only [push_cast, ↓reduceIte, reduceCtorEq, Nat.reduceAdd, Nat.reduceSub, Nat.reduceEqDiff, Nat.reduceLeDiff, Nat.reduceLT, Nat.reduceBEq, Nat.reduceDiv, Nat.reduceMod, Nat.reducePow, Nat.reduceMul, Int.reduceToNat, Int.reduceLT, Int.reduceLE, hb4]) | refine an2 ?_ | fail)
      exact W_ret ⟨[_, _, _, _], ⟨rfl, rfl, rfl, rfl, rfl⟩, rfl⟩
end Go.Proofs.Ytoiohkjomcbadaa

namespace Go.Proofs.Ytoiohkjomcbadaa
open Go Sy
set_option maxRecDepth 100000
set_option maxHeartbeats 4000000
set_option linter.unusedVariables false
set_option linter.unusedSimpArgs false
theorem bsJ_ok (j : Jb) (h : OkJ j) : (bsJ j).e < 0 ∨ (Bk j (bsJ j) ∧ OkO j (bsJ j).o) := by
  have key : ∀ (l : List (List (List Int))) (b : Bo), (∀ o ∈ l, OkO j o) → (b.e < 0 ∨ (Bk j b ∧ OkO j b.o)) → ((l.foldl (stB j) b).e < 0 ∨ (Bk j (l.foldl (stB j) b) ∧ OkO j (l.foldl (stB j) b).o)) := fun l => by
    induction l with
    | nil => intro b _ hb; exact hb
    | cons o l ih =>
      intro b hl hb
      refine ih (stB j b o) (fun x hx => hl x (List.mem_cons_of_mem _ hx)) ?_
      have ho := hl o List.mem_cons_self
      rcases stB_ok h ho (hb.imp id And.left) with q | q
      · exact .inl q
      · by_cases z : erlB j (lks j o) = true ∧ (b.e < 0 ∨ enP j (erlL j (lks j o)) < b.e)
        · refine .inr ⟨q, ?_⟩
          unfold stB
          rw [if_pos z]
          exact ho
        · have e : stB j b o = b := by unfold stB; rw [if_neg z]
          rw [e]
          exact hb
  exact key _ bs0 (fun o ho => ords_ok h ho) (.inl (by show (-1 : Int) < 0; omega))
theorem row_small {j : Jb} {o : List (List Int)} (h : OkO j o) : o.length ≤ 6 ∧ ∀ l ∈ o, l.length ≤ 24 := by
  have h1 := h.len
  have h2 := h.nt
  have h3 := h.n
  refine ⟨by omega, fun l hl => ?_⟩
  obtain ⟨t, ht, rfl⟩ := List.getElem_of_mem hl
  have hp := h.row t ht
  have e : o.getD t [] = o[t] := by rw [List.getD_eq_getElem?_getD, List.getElem?_eq_getElem ht]; rfl
  rw [e] at hp
  rw [hp.length_eq]
  exact Nat.le_trans (memK_len j t j.ts.length) h3
theorem bt_small (j : Jb) : (btO j).length ≤ 6 ∧ (∀ l ∈ btO j, l.length ≤ 24) ∧ (btL j).length ≤ 24 := by
  by_cases q : chkJ j = 0 ∧ mnP j j.tm.length ≤ 5040 ∧ 0 ≤ (bsJ j).e
  · have hok := chkJ_ok q.1
    unfold btO btL
    rw [if_pos q, if_pos q]
    rcases bsJ_ok j hok with z | ⟨z1, z2⟩
    · omega
    · have := row_small z2
      have := z1.n
      have := hok.n
      exact ⟨(row_small z2).1, (row_small z2).2, by omega⟩
  · unfold btO btL
    rw [if_neg q, if_neg q]
    exact ⟨by simp, fun l hl => by simp at hl, by simp⟩
theorem fn5 (j : Jb) (h1 : j.ts.length ≤ 140737488355328) : Sy.Fn Try.prog 5 [aJ j] (bv true) := by
  refine Fn_of_W mixed Xt5 rfl ?_
  have c13 := fn13
  have c16 := fn16 j h1
  by_cases hg : grtB j = true
  · rw [hg] at c16
    repeat' (first | refine w1g ?_ | refine w1l ?_ | refine w1q ?_ | refine w1b ?_ | refine w1p ?_ | ((first | refine w1r ?_ | refine w1k ?_ | refine w1e ?_ | refine CallC.now (c16) ?_); (refine sy1 ?_; try exact True.intro)) | refine an2 ?_ | fail)
    refine CallC.go (iv 0) (fun hpc => absurd hpc (by simp [pc])) rfl ?_
    (refine sy1 ?_; try exact True.intro)
    refine CallC.go (iv 0) (fun hpc => absurd hpc (by simp [pc])) rfl ?_
    (refine sy1 ?_; try exact True.intro)
    refine CallC.go (iv 0) (fun hpc => absurd hpc (by simp [pc])) rfl ?_
    (refine sy1 ?_; try exact True.intro)
    repeat' (first | refine w1g ?_ | refine w1l ?_ | refine w1q ?_ | refine w1b ?_ | refine w1p ?_ | ((first | refine w1r ?_ | refine w1k ?_ | refine w1e ?_); (refine sy1 ?_; try exact True.intro)) | refine an2 ?_ | fail)
    refine W_cond (by rfl) (fun _ => ?_) (fun h => by cases h)
    repeat' (first | refine w1g ?_ | refine w1l ?_ | refine w1q ?_ | refine w1b ?_ | refine w1p ?_ | ((first | refine w1r ?_ | refine w1k ?_ | refine w1e ?_ | refine CallC.now (c13) ?_); (refine sy1 ?_; try exact True.intro)) | refine an2 ?_ | fail)
    exact W_ret ⟨[_], ⟨rfl, rfl⟩, rfl⟩
  have hg : grtB j = false := by rw [← Bool.not_eq_true]; exact hg
  rw [hg] at c16
  have hG := (grt_ok hg).1
  have c17 := fn17 j hG
  have c18 := fn18 j hG.t (by have := hG.m; omega)
  have c19 := fn19 j hG
  have c20 := fn20 j hG
  obtain ⟨s1, s2, s3⟩ := bt_small j
  have c21 := fn21 (btO j) (by omega) (fun i hi => by have := s2 _ (getD_mem' [] (btO j) i hi); omega)
  have c22 := fn22 (btL j) (btL j) (by omega) (by omega) rfl
  generalize btO j = RO at *
  generalize btL j = RL at *
  generalize btN j = RN at *
  generalize btE j = RE at *
  generalize chkJ j = E at *
  generalize mnM j = M at *
  by_cases hE : E = 0
  · have e0 : (E == 0) = true := beq_iff_eq.2 hE
    by_cases hM : (130 : Int) < (M : Int)
    · have e1 : decide ((130 : Int) < (M : Int)) = true := decide_eq_true hM
      by_cases hM2 : (M : Int) ≤ 5040
      · have e2 : decide ((M : Int) ≤ 5040) = true := decide_eq_true hM2
        repeat' (first | refine w1g ?_ | refine w1l ?_ | refine w1q ?_ | refine w1b ?_ | refine w1p ?_ | ((first | refine w1r ?_ | refine w1k ?_ | refine w1e ?_ | refine CallC.now (c16) ?_ | refine CallC.now (c17) ?_ | refine CallC.now (c18) ?_); simp (maxSteps := 400000) (disch := omega) only [push_cast, ↓reduceIte, reduceCtorEq, Nat.reduceAdd, Nat.reduceSub, Nat.reduceEqDiff, Nat.reduceLeDiff, Nat.reduceLT, Nat.reduceBEq, Nat.reduceDiv, Nat.reduceMod, Nat.reducePow, Nat.reduceMul, Int.reduceToNat, Int.reduceLT, Int.reduceLE, e0, e1, e2]) | refine an2 ?_ | fail)
        refine W_cond (by rfl) (fun _ => ?_) (fun h => by cases h)
        repeat' (first | refine w1g ?_ | refine w1l ?_ | refine w1q ?_ | refine w1b ?_ | refine w1p ?_ | ((first | refine w1r ?_ | refine w1k ?_ | refine w1e ?_ | refine CallC.now (c13) ?_); (refine sy1 ?_; try exact True.intro)) | refine an2 ?_ | fail)
        exact W_ret ⟨[_], ⟨rfl, rfl⟩, rfl⟩
      · have e2 : decide ((M : Int) ≤ 5040) = false := decide_eq_false hM2
        repeat' (first | refine w1g ?_ | refine w1l ?_ | refine w1q ?_ | refine w1b ?_ | refine w1p ?_ | ((first | refine w1r ?_ | refine w1k ?_ | refine w1e ?_ | refine CallC.now (c16) ?_ | refine CallC.now (c17) ?_ | refine CallC.now (c18) ?_); simp (maxSteps := 400000) (disch := omega) only [push_cast, ↓reduceIte, reduceCtorEq, Nat.reduceAdd, Nat.reduceSub, Nat.reduceEqDiff, Nat.reduceLeDiff, Nat.reduceLT, Nat.reduceBEq, Nat.reduceDiv, Nat.reduceMod, Nat.reducePow, Nat.reduceMul, Int.reduceToNat, Int.reduceLT, Int.reduceLE, e0, e1, e2]) | refine an2 ?_ | fail)
        refine W_cond (by rfl) (fun h => by cases h) (fun _ => ?_)
        repeat' (first | refine w1g ?_ | refine w1l ?_ | refine w1q ?_ | refine w1b ?_ | refine w1p ?_ | ((first | refine w1r ?_ | refine w1k ?_ | refine w1e ?_ | refine CallC.now (c19) ?_ | refine CallC.now (c20) ?_ | refine CallC.now (c21) ?_ | refine CallC.now (c22) ?_ | refine CallC.now (c13) ?_); simp (maxSteps := 400000) (disch := omega) only [push_cast, ↓reduceIte, reduceCtorEq, Nat.reduceAdd, Nat.reduceSub, Nat.reduceEqDiff, Nat.reduceLeDiff, Nat.reduceLT, Nat.reduceBEq, Nat.reduceDiv, Nat.reduceMod, Nat.reducePow, Nat.reduceMul, Int.reduceToNat, Int.reduceLT, Int.reduceLE, beq_self_eq_true]) | refine an2 ?_ | fail)
        exact W_ret ⟨[_], ⟨rfl, rfl⟩, rfl⟩
    · have e1 : decide ((130 : Int) < (M : Int)) = false := decide_eq_false hM
      repeat' (first | refine w1g ?_ | refine w1l ?_ | refine w1q ?_ | refine w1b ?_ | refine w1p ?_ | ((first | refine w1r ?_ | refine w1k ?_ | refine w1e ?_ | refine CallC.now (c16) ?_ | refine CallC.now (c17) ?_ | refine CallC.now (c18) ?_); simp (maxSteps := 400000) (disch := omega) only [push_cast, ↓reduceIte, reduceCtorEq, Nat.reduceAdd, Nat.reduceSub, Nat.reduceEqDiff, Nat.reduceLeDiff, Nat.reduceLT, Nat.reduceBEq, Nat.reduceDiv, Nat.reduceMod, Nat.reducePow, Nat.reduceMul, Int.reduceToNat, Int.reduceLT, Int.reduceLE, e0, e1]) | refine an2 ?_ | fail)
      refine W_cond (by rfl) (fun h => by cases h) (fun _ => ?_)
      repeat' (first | refine w1g ?_ | refine w1l ?_ | refine w1q ?_ | refine w1b ?_ | refine w1p ?_ | ((first | refine w1r ?_ | refine w1k ?_ | refine w1e ?_ | refine CallC.now (c19) ?_ | refine CallC.now (c20) ?_ | refine CallC.now (c21) ?_ | refine CallC.now (c22) ?_ | refine CallC.now (c13) ?_); simp (maxSteps := 400000) (disch := omega) only [push_cast, ↓reduceIte, reduceCtorEq, Nat.reduceAdd, Nat.reduceSub, Nat.reduceEqDiff, Nat.reduceLeDiff, Nat.reduceLT, Nat.reduceBEq, Nat.reduceDiv, Nat.reduceMod, Nat.reducePow, Nat.reduceMul, Int.reduceToNat, Int.reduceLT, Int.reduceLE, beq_self_eq_true]) | refine an2 ?_ | fail)
      exact W_ret ⟨[_], ⟨rfl, rfl⟩, rfl⟩
  · have e0 : (E == 0) = false := beq_eq_false_iff_ne.2 hE
    repeat' (first | refine w1g ?_ | refine w1l ?_ | refine w1q ?_ | refine w1b ?_ | refine w1p ?_ | ((first | refine w1r ?_ | refine w1k ?_ | refine w1e ?_ | refine CallC.now (c16) ?_ | refine CallC.now (c17) ?_); simp (maxSteps := 400000) (disch := omega) only [push_cast, ↓reduceIte, reduceCtorEq, Nat.reduceAdd, Nat.reduceSub, Nat.reduceEqDiff, Nat.reduceLeDiff, Nat.reduceLT, Nat.reduceBEq, Nat.reduceDiv, Nat.reduceMod, Nat.reducePow, Nat.reduceMul, Int.reduceToNat, Int.reduceLT, Int.reduceLE, e0]) | refine an2 ?_ | fail)
    refine CallC.go (iv 0) (fun hpc => absurd hpc (by simp [pc])) rfl ?_
    (refine sy1 ?_; try exact True.intro)
    refine CallC.go (iv 0) (fun hpc => absurd hpc (by simp [pc])) rfl ?_
    (refine sy1 ?_; try exact True.intro)
    repeat' (first | refine w1g ?_ | refine w1l ?_ | refine w1q ?_ | refine w1b ?_ | refine w1p ?_ | ((first | refine w1r ?_ | refine w1k ?_ | refine w1e ?_); (refine sy1 ?_; try exact True.intro)) | refine an2 ?_ | fail)
    refine W_cond (by rfl) (fun h => by cases h) (fun _ => ?_)
    repeat' (first | refine w1g ?_ | refine w1l ?_ | refine w1q ?_ | refine w1b ?_ | refine w1p ?_ | ((first | refine w1r ?_ | refine w1k ?_ | refine w1e ?_ | refine CallC.now (c19) ?_ | refine CallC.now (c20) ?_ | refine CallC.now (c21) ?_ | refine CallC.now (c22) ?_ | refine CallC.now (c13) ?_); simp (maxSteps := 400000) (disch := omega) only [push_cast, ↓reduceIte, reduceCtorEq, Nat.reduceAdd, Nat.reduceSub, Nat.reduceEqDiff, Nat.reduceLeDiff, Nat.reduceLT, Nat.reduceBEq, Nat.reduceDiv, Nat.reduceMod, Nat.reducePow, Nat.reduceMul, Int.reduceToNat, Int.reduceLT, Int.reduceLE, beq_self_eq_true]) | refine an2 ?_ | fail)
    exact W_ret ⟨[_], ⟨rfl, rfl⟩, rfl⟩
end Go.Proofs.Ytoiohkjomcbadaa

namespace Go.Proofs.Ytoiohkjomcbadaa
open Go Sy Go.ChangeShapes Go.WideShapes Go.RowKit
set_option maxRecDepth 100000
set_option linter.unusedVariables false
theorem own : ownKnob Try.prog.godebug = none := by kernel_rfl
theorem laidOut : laidOutB Try.prog = true := by kernel_rfl
theorem walk5 (W : World) (v0 : Value) (j : Jb) (h0 : fsat (inW W) W (aJ j) v0) (oj : OJ j) :
    Calls Try.prog 5 #[v0] W fun e w' => e = .returned (.bool true) ∧ Below W.heap.size W w' := by
  have hf : Sy.Fn Try.prog 5 [aJ j] (bv true) := fn5 j (by have := oj.t; omega)
  refine (hf.2 (inW W) W [v0] (fun b hb => hb) ?_).mono ?_
  · simp only [fsatT]
    exact ⟨v0, _, rfl, h0, rfl⟩
  · rintro e w' ⟨v, rfl, hb, hv⟩
    simp only [fsat] at hv
    exact ⟨by rw [hv], hb⟩
theorem lifted5 (os : Os) (started : os.Started) (H : Type) (enc : TypeId × Value → H) :
    ReturnsInHanded {} Try.checked os 5 .any (Rows.scheduleBestSpec.pre6 enc Try.prog Try.f5 Rows.scheduleBestRow.domain false) (Rows.scheduleBestSpec.post enc Try.prog Try.f5 false true false false) := by
  refine returnsInHanded_of_change_sized (C := Try.checked) own started (by kernel_rfl) Try.func5
    (ChangeSpec.witness6 (enc := enc) (C := Try.checked) false ⟨#[], #[.agg #[.slice none 0 0, .slice none 0 0, .slice none 0 0]], []⟩ 8 (by kernel_rfl) (by kernel_rfl) (by kernel_rfl) (by kernel_rfl)) ?_
  intro W base args ds gs before hval0 hW hcnd hsz _
  have hval : ∀ (j : Nat) t v, Try.f5.params[j]? = some t → args[j]? = some v → Value.okWide Try.prog W .any base t v := hval0
  have hW' := hW
  obtain ⟨p, q, hA0, hV, rfl, hfz, hnd⟩ := hW
  have hA : DataW.TrodAll enc Try.prog W 0 (fun _ => true) true Try.f5.params.toList args.toList ds p := hA0
  rw [Try.params5] at hA hval
  obtain ⟨v0, vs0, d0, ds0, p0, q0, hargs, rfl, rfl, h0, r0⟩ := trodAll_cons hA
  obtain ⟨rfl, rfl, rfl⟩ := trodAll_nil r0
  obtain rfl : args = #[v0] := by cases args; simp_all
  obtain ⟨rfl, rfl⟩ := trodVars_none hV
  have hs : ∀ (j : Nat) t (d : DataW H), [26][j]? = some t → [d0][j]? = some d → ∀ n ∈ d.weights Try.prog t, n ≤ reachBytes := fun j t d ht hd n hn => by
    have hall := List.all_eq_true.1 hsz n (DataW.weights_mem_each (j := j) (t := t) (d := d) (by rw [Try.params5]; simpa using (List.getElem?_append_left (l₂ := _) (by have := (List.getElem?_eq_some_iff.1 ht).1; simpa using this)).trans ht) (by simpa using (List.getElem?_append_left (l₂ := _) (by have := (List.getElem?_eq_some_iff.1 hd).1; simpa using this)).trans hd) n hn)
    simpa using hall
  have lt0 : ∀ x ∈ p0, x.block < W.heap.size := by obtain ⟨m, hm⟩ := h0; exact DataW.trod_lt m _ _ _ hm
  obtain ⟨j, oj, s0⟩ := k26.arg (by kernel_rfl) (hval 0 26 v0 rfl rfl) h0 (hs 0 26 d0 rfl rfl)
  clear hA0 hval0
  refine (walk5 W v0 j s0 oj).mono fun e W' ⟨he, bel⟩ => ?_
  subst he
  exact ⟨_, rfl, _, _, _, [], _, [], hW', trodAll_mk1 (shut_bool Try.underlying4 _), (trodAll_cons_mk (Below.trod laidOut (by kernel_rfl) (of_decide_eq_true (by kernel_rfl)) h0 bel lt0) trodAll_mk0), rfl, bel.frame _, fun h => by cases h⟩
theorem over5 : Rows.scheduleBestRow.holds Try.pinned (OpenSpec.ofChange Rows.scheduleBestSpec) :=
  OpenClaim.holds_of_wide 5 Try.f5 rfl rfl rfl rfl rfl rfl rfl ⟨rfl, rfl, rfl, rfl, rfl⟩ rfl rfl rfl rfl rfl (by kernel_rfl) Try.func5 (by kernel_rfl)
    (of_decide_eq_true (by kernel_rfl)) (by unfold Func.isWrapper; first | (rw [if_pos (by decide +kernel)]; kernel_rfl) | (rw [if_neg (by decide +kernel)]; exact ⟨rfl, rfl⟩))
    (fun os started H enc _ => lifted5 os started H enc)
theorem schedule_best_holds : Rows.ScheduleBestSaid := over5
end Go.Proofs.Ytoiohkjomcbadaa

