/- Part 13 of the proof of: TopDriven: for every input the law returns true -/
import Derived.Test.YtlahcoaofbpinaaGreatP12
namespace Go.Proofs.YtlahcoaofbpinaaGreat.S
open Go Sy
set_option maxRecDepth 100000
set_option maxHeartbeats 4000000
set_option linter.unusedVariables false
set_option linter.unusedSimpArgs false
theorem fo18 (l : List Int) (hl : l.length ≤ 1000000) : FnO Tryz.prog 18 [aI l] 2 1 0 cI l := by
  refine FnO_of_W mixed Xt18 rfl (fun x _ => rfl) ?_
  repeat (first | refine WK_go ?_ | refine W_seqL ?_ | refine W_seq ?_ | refine W_block ?_)
  refine W_regL ?_
  (refine sy1 ?_; try exact True.intro)
  repeat (first | refine WK_go ?_ | refine W_seqL ?_ | refine W_seq ?_ | refine W_block ?_)
  refine W_regX [1] ?_
  (refine sCS ?_; try exact True.intro)
  refine ⟨[], rfl, 1, Int, 0, cI, l, rfl, fun b hb => ?_⟩
  (refine sy1 ?_; try exact True.intro)
  cases b
  · refine W_cond (by rfl) (fun h => by cases h) (fun _ => ?_)
    (refine go0 ?_; try exact True.intro)
    refine ⟨rfl, trivial, Int, 0, cI, [], rfl, by omega, fun x _ => ⟨rfl, rfl⟩, rfl, ?_⟩
    (refine sy1 ?_; try exact True.intro)
    refine ⟨rfl, ⟨Nat.le_of_ble_eq_true rfl, rfl⟩, trivial, l, rfl, by first | omega | (simp; omega), by first | omega | (simp; omega), ?_⟩
    (refine sy1 ?_; try exact True.intro)
    exact W_ret ⟨_, _, ⟨rfl, rfl⟩, rfl⟩
  · refine W_cond (by rfl) (fun _ => ?_) (fun h => by cases h)
    have e : l = [] := by
      cases l with
      | nil => rfl
      | cons x r => have := hb (by simp); cases this
    subst e
    (refine go0 ?_; try exact True.intro)
    refine W_le (le_adopt 2 2 1 0 cI (by omega) rfl) ?_
    (refine sy1 ?_; try exact True.intro)
    exact W_ret ⟨_, _, ⟨rfl, rfl⟩, rfl⟩
theorem bq_l {k s : Nat} (h : k < s) : (k == s) = false := beq_eq_false_iff_ne.2 (by omega)
theorem bq_r {k s : Nat} (h : s < k) : (k == s) = false := beq_eq_false_iff_ne.2 (by omega)
theorem ls_l {k s : Nat} {m : Mem} {b : Blk} (h : k < s) : lm (setm m s b) k = lm m k := lm_set_other _ _ (by omega)
theorem ls_r {k s : Nat} {m : Mem} {b : Blk} (h : s < k) : lm (setm m s b) k = lm m k := lm_set_other _ _ (by omega)
theorem finN_of_finO {rv : List RV} {T n : Nat} {α : Type} {d : α} {F : α → List AV} {l : List α} (hp : ∀ x ∈ l, pureAll (F x) = true) : ∀ e s, FinO rv T n d F l e s → FinN rv (.sl n d F l) e s := fun e s q => by
  have key : ∀ k st, lm s.mem k = some (.row st T n d F l) → pack ([AV.row k st].map (view (lm s.mem) 4)) = .sl n d F l ∧ newL (lm s.mem) [AV.row k st] := fun k st h => by
    refine ⟨by simp only [List.map_cons, List.map_nil, view, h, if_true, pack], ⟨?_, trivial⟩⟩
    simp only [newB, h]
    exact hp
  cases e with
  | e id => exact q.elim
  | n => obtain ⟨k, st, h1, h2⟩ := q; exact ⟨_, h1, key k st h2⟩
  | r => obtain ⟨k, st, h1, h2⟩ := q; exact ⟨_, h1, key k st h2⟩
theorem w18 (l : List Int) (hl : l.length ≤ 1000000) : W Tryz.prog 8 Xn18_0 (init [aI l]) (FinO [.t 2] 2 1 0 cI l) := by
  repeat (first | refine WK_go ?_ | refine W_seqL ?_ | refine W_seq ?_ | refine W_block ?_)
  refine W_regL ?_
  (refine sy1 ?_; try exact True.intro)
  repeat (first | refine WK_go ?_ | refine W_seqL ?_ | refine W_seq ?_ | refine W_block ?_)
  refine W_regX [1] ?_
  (refine sCS ?_; try exact True.intro)
  refine ⟨[], rfl, 1, Int, 0, cI, l, rfl, fun b hb => ?_⟩
  (refine sy1 ?_; try exact True.intro)
  cases b
  · refine W_cond (by rfl) (fun h => by cases h) (fun _ => ?_)
    (refine go0 ?_; try exact True.intro)
    refine ⟨rfl, trivial, Int, 0, cI, [], rfl, by omega, fun x _ => ⟨rfl, rfl⟩, rfl, ?_⟩
    (refine sy1 ?_; try exact True.intro)
    refine ⟨rfl, ⟨Nat.le_of_ble_eq_true rfl, rfl⟩, trivial, l, rfl, by first | omega | (simp; omega), by first | omega | (simp; omega), ?_⟩
    (refine sy1 ?_; try exact True.intro)
    exact W_ret ⟨_, _, ⟨rfl, rfl⟩, rfl⟩
  · refine W_cond (by rfl) (fun _ => ?_) (fun h => by cases h)
    have e : l = [] := by
      cases l with
      | nil => rfl
      | cons x r => have := hb (by simp); cases this
    subst e
    (refine go0 ?_; try exact True.intro)
    refine W_le (le_adopt 2 2 1 0 cI (by omega) rfl) ?_
    (refine sy1 ?_; try exact True.intro)
    exact W_ret ⟨_, _, ⟨rfl, rfl⟩, rfl⟩
theorem fw18 (l : List Int) (hl : l.length ≤ 1000000) : FnN Tryz.prog 18 [aI l] (aI l) :=
  FnN_of_W mixed Xt18 rfl (W_mono' (w18 l hl) (finN_of_finO fun x _ => rfl))
def mG (ls : List Lg) (a b st : Int) (B : List Int) : Mem := [(10, .cells [aL ls, iv a, iv b, iv st]), (20, .cells [slN B]), (21, .cells [.cq 16 [] [.fp [aL ls] 0, .own 20 0, .fp [iv b] 0, .fp [iv a] 0, .own 21 0]])]
theorem mG_bas (ls : List Lg) (a b st : Int) (B : List Int) : Bas 60 (mG ls a b st B) := bas_of rfl
abbrev i78P (ls : List Lg) (a b st : Int) (k : Nat) : Prop := ∀ (ts : List Int) (t d : Int) (B : List Int), ts.length + k = ls.length → (B = [] ∨ B.length = ls.length) → (0 ≤ t ∧ t ≤ 1099511648000) → (0 ≤ d ∧ d ≤ 10080) →
  ∀ (tm : List (Nat × AV)) (R : Mem) (nx kt st1 : Nat), Opq 60 R nx → 60 ≤ kt → kt < nx → lm R kt = some (.row st1 2 1 0 cI ts) → Inl Tryz.prog 16 [.row kt st1, iv t, iv d, .fp [aL ls] 0, .own 20 0, .fp [iv b] 0, .fp [iv a] 0, .own 21 0] ⟨tm, mG ls a b st B ++ R, nx⟩ (MidX 60 tm nx R fun r B' => r = pack [] ∧ B' = mG ls a b st (goC ls a b k B ts t d))
theorem i19 {ls : List Lg} {a b st : Int} (h : OkC ls a b st) {k : Nat} (ih : i78P ls a b st k) (ts : List Int) (t d fr : Int) (B : List Int) (hl : ts.length + (k + 1) = ls.length) (hB : B = [] ∨ B.length = ls.length) (ht : 0 ≤ t ∧ t ≤ 1099511648000) (hd : 0 ≤ d ∧ d ≤ 10080) (hf : 0 ≤ fr ∧ fr ≤ 1099511698000)
    {tm : List (Nat × AV)} {R : Mem} {nx ki kt st1 : Nat} (hR : Opq 60 R nx) (hk : ki < nx) (hki : lm R ki = some (.cells [iv ts.length])) (hk0 : 60 ≤ ki) (hk2 : 60 ≤ kt) (hkt : kt < nx) (hkr1 : lm R kt = some (.row st1 2 1 0 cI ts)) :
    Inl Tryz.prog 19 [iv fr, .fp [aL ls] 0, .own ki 0, .fp [iv d] 0, .fp [iv t] 0, .fp [iv b] 0, .fp [iv a] 0, .own 21 0, .fq [.row kt st1] 0] ⟨tm, mG ls a b st B ++ R, nx⟩ (MidX 60 tm nx R fun r B' => r = pack [] ∧ B' = mG ls a b st (tryC ls a b (goC ls a b k) B ts t d fr)) := by
  refine Inl_opqE mixed Xt19 rfl hR (mG_bas ls a b st B) (fun R' nx' hR' hlt hE => ?_)
  have hkt' : lm R' kt = some (.row st1 2 1 0 cI ts) := (hE kt hkt).trans hkr1
  have hN := hR'.n
  have hkr : lm R' ki = some (.cells [iv ts.length]) := (hE ki hk).trans hki
  have hi : ts.length < ls.length := by omega
  have hm := h.m _ hi
  have hw := h.w _ hi
  have hn := h.n
  have hra := h.ra
  have hrb := h.rb
  have c20 := fn20 (gl ls ts.length).ws (gl ls ts.length).mi fr (by omega) (h.k _ hi) ⟨by omega, by omega⟩ ⟨by omega, by omega⟩
  have hgl : ls.getD ts.length dLg = gl ls ts.length := rfl
  have hV : fstV (gl ls ts.length).mi fr (gl ls ts.length).ws = if 0 ≤ fstW (gl ls ts.length).mi fr (gl ls ts.length).ws then fstW (gl ls ts.length).mi fr (gl ls ts.length).ws else 0 := rfl
  have hX : fstW (gl ls ts.length).mi fr (gl ls ts.length).ws = -1 ∨ (0 ≤ fstW (gl ls ts.length).mi fr (gl ls ts.length).ws ∧ fstW (gl ls ts.length).mi fr (gl ls ts.length).ws ≤ 1099511627776) := by
    rcases fst_fit (mi := (gl ls ts.length).mi) (fr := fr) (h.k _ hi) (Int.le_refl 0) (by omega) with q | q
    · exact .inl q
    · exact .inr (fit_rng (h.k _ hi) (by omega) (fitB_iff.2 q.2.2))
  have hT : tryC ls a b (goC ls a b k) B ts t d fr = if 0 ≤ fstW (gl ls ts.length).mi fr (gl ls ts.length).ws ∧ nwC ls b ts.length t d (fstW (gl ls ts.length).mi fr (gl ls ts.length).ws) ≤ a then goC ls a b k B (ts ++ [fstW (gl ls ts.length).mi fr (gl ls ts.length).ws]) (fstW (gl ls ts.length).mi fr (gl ls ts.length).ws + (gl ls ts.length).mi) (nwC ls b ts.length t d (fstW (gl ls ts.length).mi fr (gl ls ts.length).ws)) else B := rfl
  have hnw : ∀ x, nwC ls b ts.length t d x = (if 0 < ts.length ∧ b ≤ x - t then 0 else d) + (gl ls ts.length).mi := fun x => rfl
  rw [hT]
  clear hT
  generalize hG : goC ls a b k = GO at *
  rw [hV] at c20
  generalize fstW (gl ls ts.length).mi fr (gl ls ts.length).ws = x at *
  obtain ⟨nw, hnx⟩ : ∃ nw, nw = nwC ls b ts.length t d x := ⟨_, rfl⟩
  have hnw := hnw x
  rw [← hnx] at hnw ⊢
  have hnr : 0 ≤ nw ∧ nw ≤ 20160 := by rw [hnw]; split <;> omega
  generalize (gl ls ts.length) = g at *
  obtain ⟨y, hy⟩ : ∃ y, y = if 0 ≤ x then x else 0 := ⟨_, rfl⟩
  rw [← hy] at c20
  have hyr : 0 ≤ y ∧ y ≤ 1099511627776 := by rw [hy]; split <;> omega
  obtain ⟨KK, hKK⟩ : ∃ KK : AV → Mem → Prop, KK = fun r B' => r = pack [] ∧ B' = mG ls a b st (if 0 ≤ x ∧ nw ≤ a then GO B (ts ++ [x]) (x + g.mi) nw else B) := ⟨_, rfl⟩
  rw [← hKK]
  simp (maxSteps := 400000) (disch := omega) only [push_cast, ↓reduceIte, reduceCtorEq, Nat.reduceAdd, Nat.reduceSub, Nat.reduceEqDiff, Nat.reduceLeDiff, Nat.reduceLT, Nat.reduceBEq, Nat.reduceDiv, Nat.reduceMod, Nat.reducePow, Nat.reduceMul, Int.reduceToNat, Int.reduceLT, Int.reduceLE, initT, mG, List.cons_append, List.nil_append]
  repeat' (first | refine w1g ?_ | refine w1l ?_ | refine w1q ?_ | refine w1b ?_ | refine w1p ?_ | ((first | refine w1r ?_ | refine w1k ?_ | refine w1e ?_ | refine CallC.now (c20) ?_); simp (maxSteps := 400000) (disch := omega) only [push_cast, ↓reduceIte, reduceCtorEq, Nat.reduceAdd, Nat.reduceSub, Nat.reduceEqDiff, Nat.reduceLeDiff, Nat.reduceLT, Nat.reduceBEq, Nat.reduceDiv, Nat.reduceMod, Nat.reducePow, Nat.reduceMul, Int.reduceToNat, Int.reduceLT, Int.reduceLE, ne_l, ne_r, bq_l, bq_r, ls_l, ls_r, lm_set_same, hkr, hgl]) | refine an2 ?_ | fail)
  obtain ⟨c, hc⟩ : ∃ c : Bool, (decide (b ≤ y - t) && decide (0 < (ts.length : Int))) = c := ⟨_, rfl⟩
  rw [hc]
  obtain ⟨d0, hd0⟩ : ∃ d0, d0 = if c = true then 0 else d := ⟨_, rfl⟩
  have hd1 : 0 ≤ d0 ∧ d0 ≤ 10080 := by rw [hd0]; split <;> omega
  have hdn : 0 ≤ x → d0 + g.mi = nw := fun q => by
    rw [if_pos q] at hy
    rw [hd0, hnw, ← hc, hy]
    congr 1
    by_cases z : 0 < ts.length ∧ b ≤ x - t
    · rw [if_pos z, if_pos (by rw [Bool.and_eq_true, decide_eq_true_eq, decide_eq_true_eq]; omega)]
    · rw [if_neg z, if_neg (by rw [Bool.and_eq_true, decide_eq_true_eq, decide_eq_true_eq]; omega)]
  have hcn : (decide (0 ≤ x) && decide (d0 + g.mi ≤ a)) = decide (0 ≤ x ∧ nw ≤ a) := by
    by_cases z : 0 ≤ x
    · rw [hdn z, Bool.eq_iff_iff, Bool.and_eq_true, decide_eq_true_eq, decide_eq_true_eq, decide_eq_true_eq]
    · rw [decide_eq_false z, Bool.false_and]; exact (decide_eq_false (fun q => z q.1)).symm
  clear hnw hc
  cases c
  · refine W_cond (by rfl) (fun h => by cases h) (fun _ => ?_)
    obtain rfl : d0 = d := hd0
    repeat' (first | refine w1g ?_ | refine w1l ?_ | refine w1q ?_ | refine w1b ?_ | refine w1p ?_ | ((first | refine w1r ?_ | refine w1k ?_ | refine w1e ?_); simp (maxSteps := 400000) (disch := omega) only [push_cast, ↓reduceIte, reduceCtorEq, Nat.reduceAdd, Nat.reduceSub, Nat.reduceEqDiff, Nat.reduceLeDiff, Nat.reduceLT, Nat.reduceBEq, Nat.reduceDiv, Nat.reduceMod, Nat.reducePow, Nat.reduceMul, Int.reduceToNat, Int.reduceLT, Int.reduceLE, ne_l, ne_r, bq_l, bq_r, ls_l, ls_r, lm_set_same, hkr, hgl]) | refine an2 ?_ | fail)
    rw [hcn]
    by_cases hok : 0 ≤ x ∧ nw ≤ a
    · rw [decide_eq_true hok]
      refine W_cond (by rfl) (fun _ => ?_) (fun h => by cases h)
      rw [if_pos hok.1] at hy
      subst hy
      rw [hdn hok.1]
      rw [if_pos hok] at hKK
      repeat' (first | refine w1g ?_ | refine w1l ?_ | refine w1q ?_ | refine w1b ?_ | refine w1p ?_ | ((first | refine W_regS 14 (by decide) (by decide) ?_ | refine w1r ?_ | refine w1k ?_ | refine w1e ?_); simp (maxSteps := 400000) (disch := omega) only [push_cast, ↓reduceIte, reduceCtorEq, Nat.reduceAdd, Nat.reduceSub, Nat.reduceEqDiff, Nat.reduceLeDiff, Nat.reduceLT, Nat.reduceBEq, Nat.reduceDiv, Nat.reduceMod, Nat.reducePow, Nat.reduceMul, Int.reduceToNat, Int.reduceLT, Int.reduceLE, ne_l, ne_r, bq_l, bq_r, ls_l, ls_r, lm_set_same, hkr, hgl, hkt']) | refine an2 ?_ | fail)
      refine CallC.row (fo18 ts (by omega)) ?_
      simp (maxSteps := 400000) (disch := omega) only [push_cast, ↓reduceIte, reduceCtorEq, Nat.reduceAdd, Nat.reduceSub, Nat.reduceEqDiff, Nat.reduceLeDiff, Nat.reduceLT, Nat.reduceBEq, Nat.reduceDiv, Nat.reduceMod, Nat.reducePow, Nat.reduceMul, Int.reduceToNat, Int.reduceLT, Int.reduceLE, ne_l, ne_r, bq_l, bq_r, ls_l, ls_r, lm_set_same, hkr, hgl, hkt']
      refine ⟨rfl, trivial, Int, 0, cI, [y], rfl, by omega, fun x _ => ⟨rfl, rfl⟩, rfl, ?_⟩
      simp (maxSteps := 400000) (disch := omega) only [push_cast, ↓reduceIte, reduceCtorEq, Nat.reduceAdd, Nat.reduceSub, Nat.reduceEqDiff, Nat.reduceLeDiff, Nat.reduceLT, Nat.reduceBEq, Nat.reduceDiv, Nat.reduceMod, Nat.reducePow, Nat.reduceMul, Int.reduceToNat, Int.reduceLT, Int.reduceLE, ne_l, ne_r, bq_l, bq_r, ls_l, ls_r, lm_set_same, hkr, hgl, hkt']
      refine ⟨rfl, ⟨by dsimp only; omega, (hasM_iff _ _).2 (by simp (disch := omega) [lm, ne_l, ne_r, ls_l, ls_r, lm_set_same])⟩, trivial, [y], rfl, by first | omega | (simp; omega), by first | omega | (simp; omega), ?_⟩
      simp (maxSteps := 400000) (disch := omega) only [push_cast, ↓reduceIte, reduceCtorEq, Nat.reduceAdd, Nat.reduceSub, Nat.reduceEqDiff, Nat.reduceLeDiff, Nat.reduceLT, Nat.reduceBEq, Nat.reduceDiv, Nat.reduceMod, Nat.reducePow, Nat.reduceMul, Int.reduceToNat, Int.reduceLT, Int.reduceLE, ne_l, ne_r, bq_l, bq_r, ls_l, ls_r, lm_set_same, hkr, hgl, hkt']
      refine ⟨⟨by omega, by omega⟩, ?_⟩
      have hX2 := fun (k1 k2 N2 : Nat) (g1 g2 g3 : Blk) (q1 : nx' ≤ k1) (q2 : nx' ≤ k2) (q3 : k1 < N2) (q4 : k2 < N2) => ((((Ext.refl hR').put (g := g1) q1 q3 (by omega)).put (g := g2) q2 q4 (Nat.le_refl _)).put (g := g3) q1 q3 (Nat.le_refl _))
      refine CallC.inl (Inl_le' (ih (ts ++ [y]) (y + g.mi) nw B (by rw [List.length_append, List.length_singleton]; omega) hB ⟨by omega, by omega⟩ ⟨by omega, by omega⟩ _ _ _ _ _ (Ext.opq (hX2 _ _ _ _ _ _ (by omega) (by omega) (by omega) (by omega)) hR') (by omega) (by omega) (lm_set_same _ _ _)) (fun r s' hs2 => ?_))
      obtain ⟨B', R3, nx3, hB', hX3, ⟨rfl, rfl⟩, hl⟩ := hs2
      refine ⟨_, ?_, hl⟩
      rw [hG]
      (refine sy1 ?_; try exact True.intro)
      exact ⟨[], _, R3, rfl, sameM.refl _, mG_bas _ _ _ _ _, ((hX2 _ _ _ _ _ _ (by omega) (by omega) (by omega) (by omega)).trans hX3).up (by first | omega | (dsimp only; omega)), by rw [hKK]; exact ⟨rfl, rfl⟩⟩
    · rw [decide_eq_false hok]
      refine W_cond (by rfl) (fun h => by cases h) (fun _ => ?_)
      rw [if_neg hok] at hKK
      refine W_skip ?_
      exact ⟨[], _, R', rfl, sameM.refl _, mG_bas ls a b st B, (Ext.refl hR').up (by first | omega | (dsimp only; omega)), by rw [hKK]; exact ⟨rfl, rfl⟩⟩
  · refine W_cond (by rfl) (fun _ => ?_) (fun h => by cases h)
    obtain rfl : d0 = 0 := hd0
    repeat' (first | refine w1g ?_ | refine w1l ?_ | refine w1q ?_ | refine w1b ?_ | refine w1p ?_ | ((first | refine w1r ?_ | refine w1k ?_ | refine w1e ?_); simp (maxSteps := 400000) (disch := omega) only [push_cast, ↓reduceIte, reduceCtorEq, Nat.reduceAdd, Nat.reduceSub, Nat.reduceEqDiff, Nat.reduceLeDiff, Nat.reduceLT, Nat.reduceBEq, Nat.reduceDiv, Nat.reduceMod, Nat.reducePow, Nat.reduceMul, Int.reduceToNat, Int.reduceLT, Int.reduceLE, ne_l, ne_r, bq_l, bq_r, ls_l, ls_r, lm_set_same, hkr, hgl]) | refine an2 ?_ | fail)
    rw [hcn]
    by_cases hok : 0 ≤ x ∧ nw ≤ a
    · rw [decide_eq_true hok]
      refine W_cond (by rfl) (fun _ => ?_) (fun h => by cases h)
      rw [if_pos hok.1] at hy
      subst hy
      rw [hdn hok.1]
      rw [if_pos hok] at hKK
      repeat' (first | refine w1g ?_ | refine w1l ?_ | refine w1q ?_ | refine w1b ?_ | refine w1p ?_ | ((first | refine W_regS 14 (by decide) (by decide) ?_ | refine w1r ?_ | refine w1k ?_ | refine w1e ?_); simp (maxSteps := 400000) (disch := omega) only [push_cast, ↓reduceIte, reduceCtorEq, Nat.reduceAdd, Nat.reduceSub, Nat.reduceEqDiff, Nat.reduceLeDiff, Nat.reduceLT, Nat.reduceBEq, Nat.reduceDiv, Nat.reduceMod, Nat.reducePow, Nat.reduceMul, Int.reduceToNat, Int.reduceLT, Int.reduceLE, ne_l, ne_r, bq_l, bq_r, ls_l, ls_r, lm_set_same, hkr, hgl, hkt']) | refine an2 ?_ | fail)
      refine CallC.row (fo18 ts (by omega)) ?_
      simp (maxSteps := 400000) (disch := omega) only [push_cast, ↓reduceIte, reduceCtorEq, Nat.reduceAdd, Nat.reduceSub, Nat.reduceEqDiff, Nat.reduceLeDiff, Nat.reduceLT, Nat.reduceBEq, Nat.reduceDiv, Nat.reduceMod, Nat.reducePow, Nat.reduceMul, Int.reduceToNat, Int.reduceLT, Int.reduceLE, ne_l, ne_r, bq_l, bq_r, ls_l, ls_r, lm_set_same, hkr, hgl, hkt']
      refine ⟨rfl, trivial, Int, 0, cI, [y], rfl, by omega, fun x _ => ⟨rfl, rfl⟩, rfl, ?_⟩
      simp (maxSteps := 400000) (disch := omega) only [push_cast, ↓reduceIte, reduceCtorEq, Nat.reduceAdd, Nat.reduceSub, Nat.reduceEqDiff, Nat.reduceLeDiff, Nat.reduceLT, Nat.reduceBEq, Nat.reduceDiv, Nat.reduceMod, Nat.reducePow, Nat.reduceMul, Int.reduceToNat, Int.reduceLT, Int.reduceLE, ne_l, ne_r, bq_l, bq_r, ls_l, ls_r, lm_set_same, hkr, hgl, hkt']
      refine ⟨rfl, ⟨by dsimp only; omega, (hasM_iff _ _).2 (by simp (disch := omega) [lm, ne_l, ne_r, ls_l, ls_r, lm_set_same])⟩, trivial, [y], rfl, by first | omega | (simp; omega), by first | omega | (simp; omega), ?_⟩
      simp (maxSteps := 400000) (disch := omega) only [push_cast, ↓reduceIte, reduceCtorEq, Nat.reduceAdd, Nat.reduceSub, Nat.reduceEqDiff, Nat.reduceLeDiff, Nat.reduceLT, Nat.reduceBEq, Nat.reduceDiv, Nat.reduceMod, Nat.reducePow, Nat.reduceMul, Int.reduceToNat, Int.reduceLT, Int.reduceLE, ne_l, ne_r, bq_l, bq_r, ls_l, ls_r, lm_set_same, hkr, hgl, hkt']
      refine ⟨⟨by omega, by omega⟩, ?_⟩
      have hX2 := fun (k1 k2 N2 : Nat) (g1 g2 g3 : Blk) (q1 : nx' ≤ k1) (q2 : nx' ≤ k2) (q3 : k1 < N2) (q4 : k2 < N2) => ((((Ext.refl hR').put (g := g1) q1 q3 (by omega)).put (g := g2) q2 q4 (Nat.le_refl _)).put (g := g3) q1 q3 (Nat.le_refl _))
      refine CallC.inl (Inl_le' (ih (ts ++ [y]) (y + g.mi) nw B (by rw [List.length_append, List.length_singleton]; omega) hB ⟨by omega, by omega⟩ ⟨by omega, by omega⟩ _ _ _ _ _ (Ext.opq (hX2 _ _ _ _ _ _ (by omega) (by omega) (by omega) (by omega)) hR') (by omega) (by omega) (lm_set_same _ _ _)) (fun r s' hs2 => ?_))
      obtain ⟨B', R3, nx3, hB', hX3, ⟨rfl, rfl⟩, hl⟩ := hs2
      refine ⟨_, ?_, hl⟩
      rw [hG]
      (refine sy1 ?_; try exact True.intro)
      exact ⟨[], _, R3, rfl, sameM.refl _, mG_bas _ _ _ _ _, ((hX2 _ _ _ _ _ _ (by omega) (by omega) (by omega) (by omega)).trans hX3).up (by first | omega | (dsimp only; omega)), by rw [hKK]; exact ⟨rfl, rfl⟩⟩
    · rw [decide_eq_false hok]
      refine W_cond (by rfl) (fun h => by cases h) (fun _ => ?_)
      rw [if_neg hok] at hKK
      refine W_skip ?_
      exact ⟨[], _, R', rfl, sameM.refl _, mG_bas ls a b st B, (Ext.refl hR').up (by first | omega | (dsimp only; omega)), by rw [hKK]; exact ⟨rfl, rfl⟩⟩
theorem i16 {ls : List Lg} {a b st : Int} (h : OkC ls a b st) (hn0 : 0 < ls.length) : ∀ k, i78P ls a b st k := by
  intro k
  induction k with
  | zero =>
    intro ts t d B hl hB ht hd tm R nx kt st1 hR hk2 hkt hkr1
    refine Inl_opqE mixed Xt16 rfl hR (mG_bas ls a b st B) (fun R' nx' hR' hlt hE => ?_)
    have hkt' : lm R' kt = some (.row st1 2 1 0 cI ts) := (hE kt hkt).trans hkr1
    have hN := hR'.n
    have hn := h.n
    have hts : ts ≠ [] := fun q => by rw [q] at hl; simp at hl; omega
    have hG : goC ls a b 0 B ts t d = if B = [] ∨ bfC ts B < 0 then ts else B := rfl
    obtain ⟨KK, hKK⟩ : ∃ KK : AV → Mem → Prop, KK = fun r B' => r = pack [] ∧ B' = mG ls a b st (goC ls a b 0 B ts t d) := ⟨_, rfl⟩
    rw [← hKK]
    rw [hG] at hKK
    have e : (((ts.length : Int)) == (ls.length : Int)) = true := by rw [beq_iff_eq]; omega
    have hslt : slN ts = aI ts := by unfold slN; rw [if_neg hts]
    have cN := fw18 ts (by omega)
    simp (maxSteps := 400000) (disch := omega) only [push_cast, ↓reduceIte, reduceCtorEq, Nat.reduceAdd, Nat.reduceSub, Nat.reduceEqDiff, Nat.reduceLeDiff, Nat.reduceLT, Nat.reduceBEq, Nat.reduceDiv, Nat.reduceMod, Nat.reducePow, Nat.reduceMul, Int.reduceToNat, Int.reduceLT, Int.reduceLE, initT, mG, List.cons_append, List.nil_append]
    repeat' (first | refine w1g ?_ | refine w1l ?_ | refine w1q ?_ | refine w1b ?_ | refine w1p ?_ | ((first | refine w1r ?_ | refine w1k ?_ | refine w1e ?_); simp (maxSteps := 400000) (disch := omega) only [push_cast, ↓reduceIte, reduceCtorEq, Nat.reduceAdd, Nat.reduceSub, Nat.reduceEqDiff, Nat.reduceLeDiff, Nat.reduceLT, Nat.reduceBEq, Nat.reduceDiv, Nat.reduceMod, Nat.reducePow, Nat.reduceMul, Int.reduceToNat, Int.reduceLT, Int.reduceLE, ne_l, ne_r, bq_l, bq_r, ls_l, ls_r, lm_set_same, hkt', e]) | refine an2 ?_ | fail)
    refine W_cond (by rfl) (fun _ => ?_) (fun h => by cases h)
    by_cases hB0 : B = []
    · subst hB0
      rw [if_pos (.inl rfl)] at hKK
      rw [show slN [] = .v (.slice none 0 0) from rfl]
      repeat' (first | refine w1g ?_ | refine w1l ?_ | refine w1q ?_ | refine w1b ?_ | refine w1p ?_ | ((first | refine w1r ?_ | refine w1k ?_ | refine w1e ?_); simp (maxSteps := 400000) (disch := omega) only [push_cast, ↓reduceIte, reduceCtorEq, Nat.reduceAdd, Nat.reduceSub, Nat.reduceEqDiff, Nat.reduceLeDiff, Nat.reduceLT, Nat.reduceBEq, Nat.reduceDiv, Nat.reduceMod, Nat.reducePow, Nat.reduceMul, Int.reduceToNat, Int.reduceLT, Int.reduceLE, ne_l, ne_r, bq_l, bq_r, ls_l, ls_r, lm_set_same, hkt']) | refine an2 ?_ | fail)
      refine CallC.go (bv false) (fun hpc => absurd hpc (by simp [Sy.pc])) rfl ?_
      simp (maxSteps := 400000) (disch := omega) only [push_cast, ↓reduceIte, reduceCtorEq, Nat.reduceAdd, Nat.reduceSub, Nat.reduceEqDiff, Nat.reduceLeDiff, Nat.reduceLT, Nat.reduceBEq, Nat.reduceDiv, Nat.reduceMod, Nat.reducePow, Nat.reduceMul, Int.reduceToNat, Int.reduceLT, Int.reduceLE, ne_l, ne_r, bq_l, bq_r, ls_l, ls_r, lm_set_same, hkt']
      repeat' (first | refine w1g ?_ | refine w1l ?_ | refine w1q ?_ | refine w1b ?_ | refine w1p ?_ | ((first | refine w1r ?_ | refine w1k ?_ | refine w1e ?_); simp (maxSteps := 400000) (disch := omega) only [push_cast, ↓reduceIte, reduceCtorEq, Nat.reduceAdd, Nat.reduceSub, Nat.reduceEqDiff, Nat.reduceLeDiff, Nat.reduceLT, Nat.reduceBEq, Nat.reduceDiv, Nat.reduceMod, Nat.reducePow, Nat.reduceMul, Int.reduceToNat, Int.reduceLT, Int.reduceLE, ne_l, ne_r, bq_l, bq_r, ls_l, ls_r, lm_set_same, hkt']) | refine an2 ?_ | fail)
      refine W_cond (by rfl) (fun _ => ?_) (fun h => by cases h)
      repeat' (first | refine w1g ?_ | refine w1l ?_ | refine w1q ?_ | refine w1b ?_ | refine w1p ?_ | ((first | refine w1r ?_ | refine w1k ?_ | refine w1e ?_); simp (maxSteps := 400000) (disch := omega) only [push_cast, ↓reduceIte, reduceCtorEq, Nat.reduceAdd, Nat.reduceSub, Nat.reduceEqDiff, Nat.reduceLeDiff, Nat.reduceLT, Nat.reduceBEq, Nat.reduceDiv, Nat.reduceMod, Nat.reducePow, Nat.reduceMul, Int.reduceToNat, Int.reduceLT, Int.reduceLE, ne_l, ne_r, bq_l, bq_r, ls_l, ls_r, lm_set_same, hkt']) | refine an2 ?_ | fail)
      refine CallC.new _ (fun _ => ⟨trivial, cN⟩) ?_
      simp (maxSteps := 400000) (disch := omega) only [push_cast, ↓reduceIte, reduceCtorEq, Nat.reduceAdd, Nat.reduceSub, Nat.reduceEqDiff, Nat.reduceLeDiff, Nat.reduceLT, Nat.reduceBEq, Nat.reduceDiv, Nat.reduceMod, Nat.reducePow, Nat.reduceMul, Int.reduceToNat, Int.reduceLT, Int.reduceLE, ne_l, ne_r, bq_l, bq_r, ls_l, ls_r, lm_set_same, hkt']
      repeat' (first | refine w1g ?_ | refine w1l ?_ | refine w1q ?_ | refine w1b ?_ | refine w1p ?_ | ((first | refine w1r ?_ | refine w1k ?_ | refine w1e ?_); simp (maxSteps := 400000) (disch := omega) only [push_cast, ↓reduceIte, reduceCtorEq, Nat.reduceAdd, Nat.reduceSub, Nat.reduceEqDiff, Nat.reduceLeDiff, Nat.reduceLT, Nat.reduceBEq, Nat.reduceDiv, Nat.reduceMod, Nat.reducePow, Nat.reduceMul, Int.reduceToNat, Int.reduceLT, Int.reduceLE, ne_l, ne_r, bq_l, bq_r, ls_l, ls_r, lm_set_same, hkt']) | refine an2 ?_ | fail)
      refine W_ret ?_
      exact ⟨[], mG ls a b st ts, _, rfl, (by unfold mG; rw [hslt]; exact sameM.refl _), mG_bas ls a b st ts, (((Ext.refl hR').put (nx2 := nx' + 8) (by omega) (by omega) (by omega)).up (by first | omega | (dsimp only; omega))), by rw [hKK]; exact ⟨rfl, rfl⟩⟩
    · have hBl : B.length = ls.length := hB.resolve_left hB0
      have c17 := fn17 ts B (by omega) (by omega) (by omega)
      have hslB : slN B = aI B := by unfold slN; rw [if_neg hB0]
      rw [hslB]
      repeat (first | refine WK_go ?_ | refine W_seqL ?_ | refine W_seq ?_ | refine W_block ?_)
      refine W_regX [1] ?_
      (refine sCS ?_; try exact True.intro)
      refine ⟨[], rfl, 1, Int, 0, cI, B, rfl, fun b0 hb0 => ?_⟩
      obtain rfl : b0 = false := hb0 (List.length_pos_iff.2 hB0)
      simp (maxSteps := 400000) (disch := omega) only [push_cast, ↓reduceIte, reduceCtorEq, Nat.reduceAdd, Nat.reduceSub, Nat.reduceEqDiff, Nat.reduceLeDiff, Nat.reduceLT, Nat.reduceBEq, Nat.reduceDiv, Nat.reduceMod, Nat.reducePow, Nat.reduceMul, Int.reduceToNat, Int.reduceLT, Int.reduceLE, ne_l, ne_r, bq_l, bq_r, ls_l, ls_r, lm_set_same, hkt']
      refine CallC.go (bv (decide (bfC ts B < 0))) (fun _ => ⟨trivial, c17⟩) rfl ?_
      simp (maxSteps := 400000) (disch := omega) only [push_cast, ↓reduceIte, reduceCtorEq, Nat.reduceAdd, Nat.reduceSub, Nat.reduceEqDiff, Nat.reduceLeDiff, Nat.reduceLT, Nat.reduceBEq, Nat.reduceDiv, Nat.reduceMod, Nat.reducePow, Nat.reduceMul, Int.reduceToNat, Int.reduceLT, Int.reduceLE, ne_l, ne_r, bq_l, bq_r, ls_l, ls_r, lm_set_same, hkt']
      by_cases hbf : bfC ts B < 0
      · rw [if_pos (.inr hbf)] at hKK
        rw [decide_eq_true hbf]
        refine W_cond (by rfl) (fun _ => ?_) (fun h => by cases h)
        repeat' (first | refine w1g ?_ | refine w1l ?_ | refine w1q ?_ | refine w1b ?_ | refine w1p ?_ | ((first | refine w1r ?_ | refine w1k ?_ | refine w1e ?_); simp (maxSteps := 400000) (disch := omega) only [push_cast, ↓reduceIte, reduceCtorEq, Nat.reduceAdd, Nat.reduceSub, Nat.reduceEqDiff, Nat.reduceLeDiff, Nat.reduceLT, Nat.reduceBEq, Nat.reduceDiv, Nat.reduceMod, Nat.reducePow, Nat.reduceMul, Int.reduceToNat, Int.reduceLT, Int.reduceLE, ne_l, ne_r, bq_l, bq_r, ls_l, ls_r, lm_set_same, hkt']) | refine an2 ?_ | fail)
        refine CallC.new _ (fun _ => ⟨trivial, cN⟩) ?_
        simp (maxSteps := 400000) (disch := omega) only [push_cast, ↓reduceIte, reduceCtorEq, Nat.reduceAdd, Nat.reduceSub, Nat.reduceEqDiff, Nat.reduceLeDiff, Nat.reduceLT, Nat.reduceBEq, Nat.reduceDiv, Nat.reduceMod, Nat.reducePow, Nat.reduceMul, Int.reduceToNat, Int.reduceLT, Int.reduceLE, ne_l, ne_r, bq_l, bq_r, ls_l, ls_r, lm_set_same, hkt']
        repeat' (first | refine w1g ?_ | refine w1l ?_ | refine w1q ?_ | refine w1b ?_ | refine w1p ?_ | ((first | refine w1r ?_ | refine w1k ?_ | refine w1e ?_); simp (maxSteps := 400000) (disch := omega) only [push_cast, ↓reduceIte, reduceCtorEq, Nat.reduceAdd, Nat.reduceSub, Nat.reduceEqDiff, Nat.reduceLeDiff, Nat.reduceLT, Nat.reduceBEq, Nat.reduceDiv, Nat.reduceMod, Nat.reducePow, Nat.reduceMul, Int.reduceToNat, Int.reduceLT, Int.reduceLE, ne_l, ne_r, bq_l, bq_r, ls_l, ls_r, lm_set_same, hkt']) | refine an2 ?_ | fail)
        refine W_ret ?_
        exact ⟨[], mG ls a b st ts, _, rfl, (by unfold mG; rw [hslt]; exact sameM.refl _), mG_bas ls a b st ts, (((Ext.refl hR').put (nx2 := nx' + 8) (by omega) (by omega) (by omega)).up (by first | omega | (dsimp only; omega))), by rw [hKK]; exact ⟨rfl, rfl⟩⟩
      · rw [if_neg (fun q => q.elim hB0 hbf)] at hKK
        rw [decide_eq_false hbf]
        refine W_cond (by rfl) (fun h => by cases h) (fun _ => ?_)
        repeat' (first | refine w1g ?_ | refine w1l ?_ | refine w1q ?_ | refine w1b ?_ | refine w1p ?_ | ((first | refine w1r ?_ | refine w1k ?_ | refine w1e ?_); simp (maxSteps := 400000) (disch := omega) only [push_cast, ↓reduceIte, reduceCtorEq, Nat.reduceAdd, Nat.reduceSub, Nat.reduceEqDiff, Nat.reduceLeDiff, Nat.reduceLT, Nat.reduceBEq, Nat.reduceDiv, Nat.reduceMod, Nat.reducePow, Nat.reduceMul, Int.reduceToNat, Int.reduceLT, Int.reduceLE, ne_l, ne_r, bq_l, bq_r, ls_l, ls_r, lm_set_same, hkt']) | refine an2 ?_ | fail)
        refine W_ret ?_
        exact ⟨[], mG ls a b st B, _, rfl, (by unfold mG; rw [hslB]; exact sameM.refl _), mG_bas ls a b st B, (((Ext.refl hR').put (nx2 := nx' + 8) (by omega) (by omega) (by omega)).up (by first | omega | (dsimp only; omega))), by rw [hKK]; exact ⟨rfl, rfl⟩⟩
  | succ k ih =>
    intro ts t d B hl hB ht hd tm R nx kt st1 hR hk2 hkt hkr1
    refine Inl_opqE mixed Xt16 rfl hR (mG_bas ls a b st B) (fun R' nx' hR' hlt hE => ?_)
    have hkt' : lm R' kt = some (.row st1 2 1 0 cI ts) := (hE kt hkt).trans hkr1
    have hN := hR'.n
    have hn := h.n
    have hrb := h.rb
    have hG : goC ls a b (k + 1) B ts t d = if 0 < ts.length then tryC ls a b (goC ls a b k) (tryC ls a b (goC ls a b k) B ts t d t) ts t d (t + b) else tryC ls a b (goC ls a b k) B ts t d t := rfl
    obtain ⟨KK, hKK⟩ : ∃ KK : AV → Mem → Prop, KK = fun r B' => r = pack [] ∧ B' = mG ls a b st (goC ls a b (k + 1) B ts t d) := ⟨_, rfl⟩
    rw [← hKK]
    rw [hG] at hKK
    have e : (((ts.length : Int)) == (ls.length : Int)) = false := by rw [beq_eq_false_iff_ne]; omega
    have hl1 : tryC ls a b (goC ls a b k) B ts t d t = [] ∨ (tryC ls a b (goC ls a b k) B ts t d t).length = ls.length := by
      unfold tryC
      split
      · exact goC_len k _ _ _ _ (by rw [List.length_append, List.length_singleton]; omega) hB
      · exact hB
    have I1 := fun tm R nx ki hR hk hki hk0 hkt2 hkr => i19 h ih ts t d t B (by omega) hB ht hd ⟨by omega, by omega⟩ (tm := tm) (R := R) (nx := nx) (ki := ki) (kt := kt) (st1 := st1) hR hk hki hk0 hk2 hkt2 hkr
    have I2 := fun tm R nx ki hR hk hki hk0 hkt2 hkr => i19 h ih ts t d (t + b) (tryC ls a b (goC ls a b k) B ts t d t) (by omega) hl1 ht hd ⟨by omega, by omega⟩ (tm := tm) (R := R) (nx := nx) (ki := ki) (kt := kt) (st1 := st1) hR hk hki hk0 hk2 hkt2 hkr
    generalize hB1 : tryC ls a b (goC ls a b k) B ts t d t = B1 at *
    generalize hB2 : tryC ls a b (goC ls a b k) B1 ts t d (t + b) = B2 at *
    simp (maxSteps := 400000) (disch := omega) only [push_cast, ↓reduceIte, reduceCtorEq, Nat.reduceAdd, Nat.reduceSub, Nat.reduceEqDiff, Nat.reduceLeDiff, Nat.reduceLT, Nat.reduceBEq, Nat.reduceDiv, Nat.reduceMod, Nat.reducePow, Nat.reduceMul, Int.reduceToNat, Int.reduceLT, Int.reduceLE, initT, mG, List.cons_append, List.nil_append]
    repeat' (first | refine w1g ?_ | refine w1l ?_ | refine w1q ?_ | refine w1b ?_ | refine w1p ?_ | ((first | refine w1r ?_ | refine w1k ?_ | refine w1e ?_); simp (maxSteps := 400000) (disch := omega) only [push_cast, ↓reduceIte, reduceCtorEq, Nat.reduceAdd, Nat.reduceSub, Nat.reduceEqDiff, Nat.reduceLeDiff, Nat.reduceLT, Nat.reduceBEq, Nat.reduceDiv, Nat.reduceMod, Nat.reducePow, Nat.reduceMul, Int.reduceToNat, Int.reduceLT, Int.reduceLE, ne_l, ne_r, bq_l, bq_r, ls_l, ls_r, lm_set_same, hkt', e]) | refine an2 ?_ | fail)
    refine W_cond (by rfl) (fun h => by cases h) (fun _ => ?_)
    repeat' (first | refine w1g ?_ | refine w1l ?_ | refine w1q ?_ | refine w1b ?_ | refine w1p ?_ | ((first | refine w1r ?_ | refine w1k ?_ | refine w1e ?_); simp (maxSteps := 400000) (disch := omega) only [push_cast, ↓reduceIte, reduceCtorEq, Nat.reduceAdd, Nat.reduceSub, Nat.reduceEqDiff, Nat.reduceLeDiff, Nat.reduceLT, Nat.reduceBEq, Nat.reduceDiv, Nat.reduceMod, Nat.reducePow, Nat.reduceMul, Int.reduceToNat, Int.reduceLT, Int.reduceLE, ne_l, ne_r, bq_l, bq_r, ls_l, ls_r, lm_set_same, hkt', e]) | refine an2 ?_ | fail)
    have hX1 := fun (k1 N2 : Nat) (g1 : Blk) (q1 : nx' ≤ k1) (q3 : k1 < N2) => (Ext.refl hR').put (g := g1) q1 q3 (by omega)
    refine CallC.inl (Inl_le' (I1 _ _ _ _ (Ext.opq (hX1 _ _ _ (by omega) (by omega)) hR') (by omega) (lm_set_same _ _ _) (by omega) (by omega) (by rw [lm_set_other _ _ (by omega)]; exact hkt')) (fun r s' hs2 => ?_))
    obtain ⟨B', R3, nx3, hB', hX3, ⟨rfl, rfl⟩, hl⟩ := hs2
    refine ⟨_, ?_, hl⟩
    have hki3 : lm R3 (nx' + 1 + 1 + 1 + 1 + 1) = some (.cells [iv ts.length]) := (hX3.eq _ (by omega)).trans (lm_set_same _ _ _)
    have hkt3 : lm R3 kt = some (.row st1 2 1 0 cI ts) := (hX3.eq _ (by omega)).trans ((lm_set_other _ _ (by omega)).trans hkt')
    have hX4 := (hX1 _ _ _ (by omega) (by omega)).trans hX3
    have hn3 := hX3.n
    clear hX3 hl
    simp (maxSteps := 400000) (disch := omega) only [push_cast, ↓reduceIte, reduceCtorEq, Nat.reduceAdd, Nat.reduceSub, Nat.reduceEqDiff, Nat.reduceLeDiff, Nat.reduceLT, Nat.reduceBEq, Nat.reduceDiv, Nat.reduceMod, Nat.reducePow, Nat.reduceMul, Int.reduceToNat, Int.reduceLT, Int.reduceLE, mG, List.cons_append, List.nil_append]
    repeat' (first | refine w1g ?_ | refine w1l ?_ | refine w1q ?_ | refine w1b ?_ | refine w1p ?_ | ((first | refine w1r ?_ | refine w1k ?_ | refine w1e ?_); simp (maxSteps := 400000) (disch := omega) only [push_cast, ↓reduceIte, reduceCtorEq, Nat.reduceAdd, Nat.reduceSub, Nat.reduceEqDiff, Nat.reduceLeDiff, Nat.reduceLT, Nat.reduceBEq, Nat.reduceDiv, Nat.reduceMod, Nat.reducePow, Nat.reduceMul, Int.reduceToNat, Int.reduceLT, Int.reduceLE, ne_l, ne_r, bq_l, bq_r, ls_l, ls_r, lm_set_same, hki3, hkt3]) | refine an2 ?_ | fail)
    by_cases h0 : 0 < ts.length
    · rw [if_pos h0] at hKK
      rw [show decide (0 < (ts.length : Int)) = true from decide_eq_true (by omega)]
      refine W_cond (by rfl) (fun _ => ?_) (fun h => by cases h)
      repeat' (first | refine w1g ?_ | refine w1l ?_ | refine w1q ?_ | refine w1b ?_ | refine w1p ?_ | ((first | refine w1r ?_ | refine w1k ?_ | refine w1e ?_); simp (maxSteps := 400000) (disch := omega) only [push_cast, ↓reduceIte, reduceCtorEq, Nat.reduceAdd, Nat.reduceSub, Nat.reduceEqDiff, Nat.reduceLeDiff, Nat.reduceLT, Nat.reduceBEq, Nat.reduceDiv, Nat.reduceMod, Nat.reducePow, Nat.reduceMul, Int.reduceToNat, Int.reduceLT, Int.reduceLE, ne_l, ne_r, bq_l, bq_r, ls_l, ls_r, lm_set_same, hki3, hkt3]) | refine an2 ?_ | fail)
      refine CallC.inl (Inl_le' (I2 _ _ _ _ (Ext.opq (hX4.up ?_) hR') (by omega) hki3 (by omega) (by omega) hkt3) (fun r s' hs2 => ?_))
      rotate_left
      · obtain ⟨B', R5, nx5, hB', hX5, ⟨rfl, rfl⟩, hl⟩ := hs2
        refine ⟨_, ?_, hl⟩
        (refine sy1 ?_; try exact True.intro)
        exact ⟨[], _, R5, rfl, sameM.refl _, mG_bas ls a b st B2, ((hX4.up (by omega)).trans hX5).up (by first | omega | (dsimp only; omega)), by rw [hKK]; exact ⟨rfl, rfl⟩⟩
      · omega
    · rw [if_neg h0] at hKK
      rw [show decide (0 < (ts.length : Int)) = false from decide_eq_false (by omega)]
      refine W_cond (by rfl) (fun h => by cases h) (fun _ => ?_)
      refine W_skip ?_
      exact ⟨[], mG ls a b st B1, R3, rfl, (by unfold mG; exact sameM.refl _), mG_bas ls a b st B1, hX4.up (by first | omega | (dsimp only; omega)), by rw [hKK]; exact ⟨rfl, rfl⟩⟩
theorem fn7 (ls : List Lg) (a b st : Int) (hl : ls.length ≤ 140737488355328) (hw : ∀ x ∈ ls, x.ws.length ≤ 140737488355328) : Sy.Fn Tryz.prog 7 [aL ls, iv a, iv b, iv st] (.tup [aI (crL ls a b st), iv (crF ls a b st)]) := by
  refine Fn_of_W mixed Xt7 rfl ?_
  have c15 := fn15 ls a b st hl hw
  have eL : crL ls a b st = if crE ls a b st = 0 ∧ ls.length ≠ 0 then bsC ls a b st (2 ^ ls.length) else [] := rfl
  have eF : crF ls a b st = if crE ls a b st = 0 then (if ls.length = 0 then 0 else if bsC ls a b st (2 ^ ls.length) = [] then 15 else 0) else crE ls a b st := rfl
  by_cases h0 : crE ls a b st = 0
  rotate_left
  · rw [eL, eF, if_neg (fun q => h0 q.1), if_neg h0]
    generalize crE ls a b st = E at *
    (refine go_c c15 ?_; try exact True.intro)
    refine W_cond (by rfl) (fun _ => ?_) (fun h => absurd (by simpa using h) h0)
    (refine go0 ?_; try exact True.intro)
    refine W_le (le_nil 8 1 0 cI rfl) ?_
    exact W_ret ⟨[_, _], ⟨rfl, rfl, rfl⟩, rfl⟩
  have h := crE_ok h0
  rw [h0] at c15
  (refine go_c c15 ?_; try exact True.intro)
  refine W_cond (by rfl) (fun h => by cases h) (fun _ => ?_)
  (refine go0 ?_; try exact True.intro)
  by_cases hz : ls.length = 0
  · rw [eL, eF, if_neg (fun q => q.2 hz), if_pos h0, if_pos hz, show ((ls.length : Int) == 0) = true by rw [hz]; rfl]
    refine W_cond (by rfl) (fun _ => ?_) (fun h => by cases h)
    (refine go0 ?_; try exact True.intro)
    refine W_le (le_nil 8 1 0 cI rfl) ?_
    exact W_ret ⟨[_, _], ⟨rfl, rfl, rfl⟩, rfl⟩
  rw [show ((ls.length : Int) == 0) = false from beq_eq_false_iff_ne.2 (by omega)]
  have hn0 : 0 < ls.length := by omega
  have hs := h.s
  have hI := i16 h hn0 ls.length [] st 0 [] (by simp) (.inl rfl) ⟨by omega, by omega⟩ ⟨by omega, by omega⟩
  rw [goC_crL h0 hn0] at hI
  have hF := crF_iff h0 hn0
  generalize hX : crL ls a b st = X at *
  generalize hY : crF ls a b st = Y at *
  clear eL eF hX hY
  refine W_cond (by rfl) (fun h => by cases h) (fun _ => ?_)
  (refine go0 ?_; try exact True.intro)
  refine CallC.inl (Inl_sameM (mG ls a b st []) 60 (sameM.refl _) (mG_bas ls a b st []) (Inl_adopt 2 1 0 cI (by omega) (Inl_sameM (mG ls a b st [] ++ [(60, .row 0 2 1 0 cI [])]) 61 (fun k => (by have := sm_push (R := []) (g := .row 0 2 1 0 cI ([] : List Int)) (mG_bas ls a b st []) (Nat.le_refl 60) k; rw [List.append_nil] at this; exact this.symm)) (((opq_nil 60).push _).mem (mG_bas ls a b st [])) (Inl_le' (hI _ _ _ _ _ ((opq_nil 60).push _) (Nat.le_refl 60) (Nat.lt_succ_self 60) rfl) (fun r s' hs2 => ?_)))))
  obtain ⟨B', R3, nx3, hB', hX3, ⟨rfl, rfl⟩, hl2⟩ := hs2
  refine ⟨_, ?_, hl2⟩
  clear hl2 hI
  by_cases hX0 : X = []
  · subst hX0
    rw [if_pos rfl] at hF
    subst hF
    have hsl0 : slN [] = .v (.slice none 0 0) := rfl
    simp (maxSteps := 400000) (disch := omega) only [push_cast, ↓reduceIte, reduceCtorEq, Nat.reduceAdd, Nat.reduceSub, Nat.reduceEqDiff, Nat.reduceLeDiff, Nat.reduceLT, Nat.reduceBEq, Nat.reduceDiv, Nat.reduceMod, Nat.reducePow, Nat.reduceMul, Int.reduceToNat, Int.reduceLT, Int.reduceLE, mG, List.cons_append, List.nil_append, hsl0]
    (refine gof hsl0 ?_; try exact True.intro)
    refine W_cond (by rfl) (fun _ => ?_) (fun h => by cases h)
    (refine go0 ?_; try exact True.intro)
    refine W_le (le_nil 8 1 0 cI rfl) ?_
    exact W_ret ⟨[_, _], ⟨rfl, rfl, rfl⟩, rfl⟩
  · rw [if_neg hX0] at hF
    subst hF
    have hslX : slN X = aI X := by unfold slN; rw [if_neg hX0]
    simp (maxSteps := 400000) (disch := omega) only [push_cast, ↓reduceIte, reduceCtorEq, Nat.reduceAdd, Nat.reduceSub, Nat.reduceEqDiff, Nat.reduceLeDiff, Nat.reduceLT, Nat.reduceBEq, Nat.reduceDiv, Nat.reduceMod, Nat.reducePow, Nat.reduceMul, Int.reduceToNat, Int.reduceLT, Int.reduceLE, mG, List.cons_append, List.nil_append, hslX]
    repeat (first | refine WK_go ?_ | refine W_seqL ?_ | refine W_seq ?_ | refine W_block ?_)
    refine W_regX [1] ?_
    (refine sCS ?_; try exact True.intro)
    refine ⟨[], rfl, 1, Int, 0, cI, X, rfl, fun b0 hb0 => ?_⟩
    obtain rfl : b0 = false := hb0 (List.length_pos_iff.2 hX0)
    (refine sy1 ?_; try exact True.intro)
    refine W_cond (by rfl) (fun h => by cases h) (fun _ => ?_)
    (refine go0 ?_; try exact True.intro)
    exact W_ret ⟨[_, _], ⟨rfl, rfl, rfl⟩, rfl⟩
end Go.Proofs.YtlahcoaofbpinaaGreat.S
