/- Part 5 of the proof of: The train of a vehicle is that of the definition, or refused. -/
import Derived.Test.YtbdnnicodailcaaP4
import Derived.Shelf.Strings.FuncGrows
/- Stable sorting, walked: two sorted pieces become one. -/
namespace Go.Proofs.Ytbdnnicodailcaa
open Go Sy
set_option maxRecDepth 100000
set_option maxHeartbeats 4000000
set_option linter.unusedVariables false
set_option linter.unusedSimpArgs false
/-- the first one has one element -/
theorem w119a {M : List (Nat × Blk)} {k st nx : Nat} {gc : Nat} {ca : List AV} {lt : Frc → Frc → Bool} {cv : Frc → Frc → Int} (hw : SW lt) (hfz : frzAll ca = true) (hcv : ∀ x y, lt x y = decide (cv x y < 0))
    (hg : ∀ x y, Sy.Fn Try.prog gc (.agg (cF x) :: .agg (cF y) :: ca) (iv (cv x y))) (P V Q : List Frc) (u : Frc) (hV0 : 0 < V.length) (sV : SrtL lt V) (hlen : P.length + 1 + V.length + Q.length ≤ 1000000) (hk : k < nx) (hfr : ∀ j, nx ≤ j → lm M j = none) :
    W Try.prog 220 Xn119_0 ⟨initT 0 [.row k st, iv P.length, iv ((P.length : Int) + 1), iv ((P.length : Int) + 1 + V.length), .clo gc [] ca], setm M k (rF st (insL P V u 0 Q)), nx⟩
      (fun e s' => (e = .n ∨ e = .r) ∧ s'.mem = setm M k (rF st (P ++ (mrg lt [u] V ++ Q)))) := by
  have hfr' : ∀ b : Blk, ∀ j, nx ≤ j → lm (setm M k b) j = none := fun b j hj => by rw [lm_set_other _ _ (by omega)]; exact hfr j hj
  have e1 : (P.length : Int) + 1 - P.length = 1 := by omega
  have hll0 := insL_len (P := P) (Q := Q) (v := u) (show 0 ≤ V.length by omega)
  have hat0 := insL_at (P := P) (Q := Q) (v := u) dF (show 0 ≤ V.length by omega)
  rw [Nat.add_zero] at hat0
  have hpn : ((P.length : Int)).toNat = P.length := by omega
  have hgV : ∀ c, c < V.length → (insL P V u 0 Q).getD (P.length + 1 + c) dF = V.getD c dF := fun c hc => by
    have : insL P V u 0 Q = P ++ ([u] ++ (V ++ Q)) := by simp [insL]
    rw [this]
    exact get_V (U := [u]) dF hc
  simp (maxSteps := 400000) (disch := omega) only [push_cast, ↓reduceIte, reduceCtorEq, Nat.reduceAdd, Nat.reduceSub, Nat.reduceEqDiff, Nat.reduceLeDiff, Nat.reduceLT, Nat.reduceBEq, Nat.reduceDiv, Nat.reduceMod, Nat.reducePow, Nat.reduceMul, Int.reduceToNat, Int.reduceLT, Int.reduceLE, initT]
  repeat' (first | refine WK_go ?_ | refine W_seqL ?_ | refine W_seq ?_ | refine W_block ?_ | ((first | refine W_regL ?_ | refine W_skip ?_ | refine W_exit ?_); simp (maxSteps := 400000) (disch := omega) only [push_cast, ↓reduceIte, reduceCtorEq, Nat.reduceAdd, Nat.reduceSub, Nat.reduceEqDiff, Nat.reduceLeDiff, Nat.reduceLT, Nat.reduceBEq, Nat.reduceDiv, Nat.reduceMod, Nat.reducePow, Nat.reduceMul, Int.reduceToNat, Int.reduceLT, Int.reduceLE, e1]) | refine And.intro (by omega) ?_ | refine And.intro (by intro hq; (try simp only [Bool.and_eq_true, Bool.or_eq_true, Bool.and_eq_false_iff, Bool.or_eq_false_iff, decide_eq_true_eq, decide_eq_false_iff_not, Bool.not_eq_true', Bool.not_eq_false', beq_iff_eq, beq_eq_false_iff_ne, ne_eq] at hq); omega) ?_ | fail)
  refine W_cond (by rfl) (fun hb => ?_) (fun hb => by first | cases hb | (simp at hb))
  repeat' (first | refine WK_go ?_ | refine W_seqL ?_ | refine W_seq ?_ | refine W_block ?_ | ((first | refine W_regL ?_ | refine W_skip ?_ | refine W_exit ?_); simp (maxSteps := 400000) (disch := omega) only [push_cast, ↓reduceIte, reduceCtorEq, Nat.reduceAdd, Nat.reduceSub, Nat.reduceEqDiff, Nat.reduceLeDiff, Nat.reduceLT, Nat.reduceBEq, Nat.reduceDiv, Nat.reduceMod, Nat.reducePow, Nat.reduceMul, Int.reduceToNat, Int.reduceLT, Int.reduceLE]) | refine And.intro (by omega) ?_ | refine And.intro (by intro hq; (try simp only [Bool.and_eq_true, Bool.or_eq_true, Bool.and_eq_false_iff, Bool.or_eq_false_iff, decide_eq_true_eq, decide_eq_false_iff_not, Bool.not_eq_true', Bool.not_eq_false', beq_iff_eq, beq_eq_false_iff_ne, ne_eq] at hq); omega) ?_ | fail)
  refine W_loopM (fun q : Nat × Nat => [(10, iv ((P.length : Int) + 1 + q.1)), (11, iv ((P.length : Int) + 1 + q.2))]) (fun q => setm M k (rF st (insL P V u 0 Q))) (fun q => (q.1 ≤ q.2 ∧ q.2 ≤ V.length) ∧ (q.1 = 0 ∨ lt (V.getD (q.1 - 1) dF) u = true) ∧ (q.2 = V.length ∨ lt (V.getD q.2 dF) u = false)) (fun q => q.2 - q.1) nx (fun c _ => hfr' _) (0, V.length) ⟨⟨by simp, by simp⟩, .inl rfl, .inl rfl⟩ (by
    simp only [Int.natCast_zero, Int.add_zero]
    rfl) (by rfl) (fun q hq => ?_)
  obtain ⟨c, e⟩ := q
  obtain ⟨⟨h1, h2⟩, h3, h4⟩ := hq
  simp only at h1 h2 h3 h4
  simp (maxSteps := 400000) (disch := omega) only [push_cast, ↓reduceIte, reduceCtorEq, Nat.reduceAdd, Nat.reduceSub, Nat.reduceEqDiff, Nat.reduceLeDiff, Nat.reduceLT, Nat.reduceBEq, Nat.reduceDiv, Nat.reduceMod, Nat.reducePow, Nat.reduceMul, Int.reduceToNat, Int.reduceLT, Int.reduceLE, keepL]
  repeat' (first | refine WK_go ?_ | refine W_seqL ?_ | refine W_seq ?_ | refine W_block ?_ | ((first | refine W_regL ?_ | refine W_skip ?_ | refine W_exit ?_); simp (maxSteps := 400000) (disch := omega) only [push_cast, ↓reduceIte, reduceCtorEq, Nat.reduceAdd, Nat.reduceSub, Nat.reduceEqDiff, Nat.reduceLeDiff, Nat.reduceLT, Nat.reduceBEq, Nat.reduceDiv, Nat.reduceMod, Nat.reducePow, Nat.reduceMul, Int.reduceToNat, Int.reduceLT, Int.reduceLE, keepL]) | refine And.intro (by omega) ?_ | refine And.intro (by intro hq; (try simp only [Bool.and_eq_true, Bool.or_eq_true, Bool.and_eq_false_iff, Bool.or_eq_false_iff, decide_eq_true_eq, decide_eq_false_iff_not, Bool.not_eq_true', Bool.not_eq_false', beq_iff_eq, beq_eq_false_iff_ne, ne_eq] at hq); omega) ?_ | fail)
  refine W_condD (by rfl) (fun h5 => ?_) (fun h5 => ?_)
  · have hlt : c < e := by omega
    obtain ⟨h, hh⟩ : ∃ h, h = (c + e) / 2 := ⟨_, rfl⟩
    have w1 : IntKind.u64.wrap ((P.length : Int) + 1 + c + (P.length + 1 + e)) = P.length + 1 + c + (P.length + 1 + e) := wrapU ⟨by omega, by omega⟩
    have w2 : IntKind.i64.wrap (((P.length : Int) + 1 + c + (P.length + 1 + e)) / 2) = P.length + 1 + h := by rw [wrap64 ⟨by omega, by omega⟩]; omega
    have et : ((P.length : Int) + 1 + h).toNat = P.length + 1 + h := by omega
    have hv := hgV h (by omega)
    have cg := hg (V.getD h dF) u
    generalize hx : V.getD h dF = x at *
    repeat' (first | refine WK_go ?_ | refine W_seqL ?_ | refine W_seq ?_ | refine W_block ?_ | ((first | refine W_regL ?_ | refine W_skip ?_ | refine W_exit ?_ | refine CallC.go _ (fun _ => ⟨trivial, cg⟩) rfl ?_); simp (maxSteps := 400000) (disch := omega) only [push_cast, ↓reduceIte, reduceCtorEq, Nat.reduceAdd, Nat.reduceSub, Nat.reduceEqDiff, Nat.reduceLeDiff, Nat.reduceLT, Nat.reduceBEq, Nat.reduceDiv, Nat.reduceMod, Nat.reducePow, Nat.reduceMul, Int.reduceToNat, Int.reduceLT, Int.reduceLE, keepL, w1, w2, shr1, hll0, hat0, hpn, et, hv, tF, hfz, beq_self_eq_true]) | refine And.intro (by omega) ?_ | refine And.intro (by intro hq; (try simp only [Bool.and_eq_true, Bool.or_eq_true, Bool.and_eq_false_iff, Bool.or_eq_false_iff, decide_eq_true_eq, decide_eq_false_iff_not, Bool.not_eq_true', Bool.not_eq_false', beq_iff_eq, beq_eq_false_iff_ne, ne_eq] at hq); omega) ?_ | fail)
    refine W_cond (by rfl) (fun hb2 => ?_) (fun hb2 => ?_)
    · have hl : lt x u = true := by rw [hcv]; exact hb2
      repeat' (first | refine WK_go ?_ | refine W_seqL ?_ | refine W_seq ?_ | refine W_block ?_ | ((first | refine W_regL ?_ | refine W_skip ?_ | refine W_exit ?_); simp (maxSteps := 400000) (disch := omega) only [push_cast, ↓reduceIte, reduceCtorEq, Nat.reduceAdd, Nat.reduceSub, Nat.reduceEqDiff, Nat.reduceLeDiff, Nat.reduceLT, Nat.reduceBEq, Nat.reduceDiv, Nat.reduceMod, Nat.reducePow, Nat.reduceMul, Int.reduceToNat, Int.reduceLT, Int.reduceLE, keepL]) | refine And.intro (by omega) ?_ | refine And.intro (by intro hq; (try simp only [Bool.and_eq_true, Bool.or_eq_true, Bool.and_eq_false_iff, Bool.or_eq_false_iff, decide_eq_true_eq, decide_eq_false_iff_not, Bool.not_eq_true', Bool.not_eq_false', beq_iff_eq, beq_eq_false_iff_ne, ne_eq] at hq); omega) ?_ | fail)
      refine ⟨(h + 1, e), ⟨⟨by dsimp only; omega, h2⟩, .inr (by rw [Nat.add_sub_cancel, hx]; exact hl), h4⟩, by dsimp only; omega, ?_⟩
      rw [show (P.length : Int) + 1 + ((h + 1 : Nat) : Int) = P.length + 1 + h + 1 by omega]
    · have hl : lt x u = false := by rw [hcv]; exact hb2
      repeat' (first | refine WK_go ?_ | refine W_seqL ?_ | refine W_seq ?_ | refine W_block ?_ | ((first | refine W_regL ?_ | refine W_skip ?_ | refine W_exit ?_); simp (maxSteps := 400000) (disch := omega) only [push_cast, ↓reduceIte, reduceCtorEq, Nat.reduceAdd, Nat.reduceSub, Nat.reduceEqDiff, Nat.reduceLeDiff, Nat.reduceLT, Nat.reduceBEq, Nat.reduceDiv, Nat.reduceMod, Nat.reducePow, Nat.reduceMul, Int.reduceToNat, Int.reduceLT, Int.reduceLE, keepL]) | refine And.intro (by omega) ?_ | refine And.intro (by intro hq; (try simp only [Bool.and_eq_true, Bool.or_eq_true, Bool.and_eq_false_iff, Bool.or_eq_false_iff, decide_eq_true_eq, decide_eq_false_iff_not, Bool.not_eq_true', Bool.not_eq_false', beq_iff_eq, beq_eq_false_iff_ne, ne_eq] at hq); omega) ?_ | fail)
      exact ⟨(c, h), ⟨⟨by dsimp only; omega, by dsimp only; omega⟩, h3, .inr (by rw [hx]; exact hl)⟩, by dsimp only; omega, rfl⟩
  · obtain rfl : c = e := by omega
    have hm := one_at hw sV dF u h2 h3 h4
    have hfin : insL P V u c Q = P ++ (mrg lt [u] V ++ Q) := by
      unfold insL
      rw [hm]; simp
    repeat' (first | refine WK_go ?_ | refine W_seqL ?_ | refine W_seq ?_ | refine W_block ?_ | ((first | refine W_regL ?_ | refine W_skip ?_ | refine W_exit ?_); simp (maxSteps := 400000) (disch := omega) only [push_cast, ↓reduceIte, reduceCtorEq, Nat.reduceAdd, Nat.reduceSub, Nat.reduceEqDiff, Nat.reduceLeDiff, Nat.reduceLT, Nat.reduceBEq, Nat.reduceDiv, Nat.reduceMod, Nat.reducePow, Nat.reduceMul, Int.reduceToNat, Int.reduceLT, Int.reduceLE, keepL]) | refine And.intro (by omega) ?_ | refine And.intro (by intro hq; (try simp only [Bool.and_eq_true, Bool.or_eq_true, Bool.and_eq_false_iff, Bool.or_eq_false_iff, decide_eq_true_eq, decide_eq_false_iff_not, Bool.not_eq_true', Bool.not_eq_false', beq_iff_eq, beq_eq_false_iff_ne, ne_eq] at hq); omega) ?_ | fail)
    refine W_loopM (fun i : Nat => [(13, iv ((P.length : Int) + i))]) (fun i => setm M k (rF st (insL P V u i Q))) (fun i => i ≤ c) (fun i => c - i) nx (fun c _ => hfr' _) 0 (by omega) (by
      simp only [Int.natCast_zero, Int.add_zero]
      rfl) (by rfl) (fun i hi => ?_)
    have hll := insL_len (P := P) (Q := Q) (v := u) (show i ≤ V.length by omega)
    simp (maxSteps := 400000) (disch := omega) only [push_cast, ↓reduceIte, reduceCtorEq, Nat.reduceAdd, Nat.reduceSub, Nat.reduceEqDiff, Nat.reduceLeDiff, Nat.reduceLT, Nat.reduceBEq, Nat.reduceDiv, Nat.reduceMod, Nat.reducePow, Nat.reduceMul, Int.reduceToNat, Int.reduceLT, Int.reduceLE, keepL]
    repeat' (first | refine WK_go ?_ | refine W_seqL ?_ | refine W_seq ?_ | refine W_block ?_ | ((first | refine W_regL ?_ | refine W_skip ?_ | refine W_exit ?_); simp (maxSteps := 400000) (disch := omega) only [push_cast, ↓reduceIte, reduceCtorEq, Nat.reduceAdd, Nat.reduceSub, Nat.reduceEqDiff, Nat.reduceLeDiff, Nat.reduceLT, Nat.reduceBEq, Nat.reduceDiv, Nat.reduceMod, Nat.reducePow, Nat.reduceMul, Int.reduceToNat, Int.reduceLT, Int.reduceLE, keepL]) | refine And.intro (by omega) ?_ | refine And.intro (by intro hq; (try simp only [Bool.and_eq_true, Bool.or_eq_true, Bool.and_eq_false_iff, Bool.or_eq_false_iff, decide_eq_true_eq, decide_eq_false_iff_not, Bool.not_eq_true', Bool.not_eq_false', beq_iff_eq, beq_eq_false_iff_ne, ne_eq] at hq); omega) ?_ | fail)
    refine W_condD (by rfl) (fun h6 => ?_) (fun h6 => ?_)
    · have hic : i < c := by omega
      obtain ⟨q1, q2⟩ := insL_up (P := P) (Q := Q) (v := u) dF (show i < V.length by omega)
      have hat := insL_at (P := P) (Q := Q) (v := u) dF (show i ≤ V.length by omega)
      have ea : ((P.length : Int) + i).toNat = P.length + i := by omega
      have eb : ((P.length : Int) + i + 1).toNat = P.length + i + 1 := by omega
      generalize V.getD i dF = y at *
      repeat' (first | refine WK_go ?_ | refine W_seqL ?_ | refine W_seq ?_ | refine W_block ?_ | ((first | refine W_regL ?_ | refine W_skip ?_ | refine W_exit ?_); simp (maxSteps := 400000) (disch := omega) only [push_cast, ↓reduceIte, reduceCtorEq, Nat.reduceAdd, Nat.reduceSub, Nat.reduceEqDiff, Nat.reduceLeDiff, Nat.reduceLT, Nat.reduceBEq, Nat.reduceDiv, Nat.reduceMod, Nat.reducePow, Nat.reduceMul, Int.reduceToNat, Int.reduceLT, Int.reduceLE, keepL, hll, ea, eb, hat, q1, tF, beq_self_eq_true]) | refine And.intro (by omega) ?_ | refine And.intro (by intro hq; (try simp only [Bool.and_eq_true, Bool.or_eq_true, Bool.and_eq_false_iff, Bool.or_eq_false_iff, decide_eq_true_eq, decide_eq_false_iff_not, Bool.not_eq_true', Bool.not_eq_false', beq_iff_eq, beq_eq_false_iff_ne, ne_eq] at hq); omega) ?_ | fail)
      refine ⟨rfl, ⟨by dsimp only; omega, hasM_set _ _ _⟩, by omega, y, rfl, rfl, ?_⟩
      simp (maxSteps := 400000) (disch := omega) only [push_cast, ↓reduceIte, reduceCtorEq, Nat.reduceAdd, Nat.reduceSub, Nat.reduceEqDiff, Nat.reduceLeDiff, Nat.reduceLT, Nat.reduceBEq, Nat.reduceDiv, Nat.reduceMod, Nat.reducePow, Nat.reduceMul, Int.reduceToNat, Int.reduceLT, Int.reduceLE, hll, ea, eb, List.length_set]
      repeat' (first | refine WK_go ?_ | refine W_seqL ?_ | refine W_seq ?_ | refine W_block ?_ | ((first | refine W_regL ?_ | refine W_skip ?_ | refine W_exit ?_); simp (maxSteps := 400000) (disch := omega) only [push_cast, ↓reduceIte, reduceCtorEq, Nat.reduceAdd, Nat.reduceSub, Nat.reduceEqDiff, Nat.reduceLeDiff, Nat.reduceLT, Nat.reduceBEq, Nat.reduceDiv, Nat.reduceMod, Nat.reducePow, Nat.reduceMul, Int.reduceToNat, Int.reduceLT, Int.reduceLE, keepL, hll, ea, eb, List.length_set, beq_self_eq_true]) | refine And.intro (by omega) ?_ | refine And.intro (by intro hq; (try simp only [Bool.and_eq_true, Bool.or_eq_true, Bool.and_eq_false_iff, Bool.or_eq_false_iff, decide_eq_true_eq, decide_eq_false_iff_not, Bool.not_eq_true', Bool.not_eq_false', beq_iff_eq, beq_eq_false_iff_ne, ne_eq] at hq); omega) ?_ | fail)
      refine ⟨rfl, ⟨by dsimp only; omega, hasM_set _ _ _⟩, by omega, u, rfl, rfl, ?_⟩
      rw [q2]
      simp (maxSteps := 400000) (disch := omega) only [push_cast, ↓reduceIte, reduceCtorEq, Nat.reduceAdd, Nat.reduceSub, Nat.reduceEqDiff, Nat.reduceLeDiff, Nat.reduceLT, Nat.reduceBEq, Nat.reduceDiv, Nat.reduceMod, Nat.reducePow, Nat.reduceMul, Int.reduceToNat, Int.reduceLT, Int.reduceLE]
      repeat' (first | refine WK_go ?_ | refine W_seqL ?_ | refine W_seq ?_ | refine W_block ?_ | ((first | refine W_regL ?_ | refine W_skip ?_ | refine W_exit ?_); simp (maxSteps := 400000) (disch := omega) only [push_cast, ↓reduceIte, reduceCtorEq, Nat.reduceAdd, Nat.reduceSub, Nat.reduceEqDiff, Nat.reduceLeDiff, Nat.reduceLT, Nat.reduceBEq, Nat.reduceDiv, Nat.reduceMod, Nat.reducePow, Nat.reduceMul, Int.reduceToNat, Int.reduceLT, Int.reduceLE, keepL]) | refine And.intro (by omega) ?_ | refine And.intro (by intro hq; (try simp only [Bool.and_eq_true, Bool.or_eq_true, Bool.and_eq_false_iff, Bool.or_eq_false_iff, decide_eq_true_eq, decide_eq_false_iff_not, Bool.not_eq_true', Bool.not_eq_false', beq_iff_eq, beq_eq_false_iff_ne, ne_eq] at hq); omega) ?_ | fail)
      refine ⟨i + 1, by omega, by omega, ?_, rfl⟩
      rw [show (P.length : Int) + ((i + 1 : Nat) : Int) = P.length + i + 1 by omega]
    · obtain rfl : i = c := by omega
      rw [hfin]
      repeat' (first | refine WK_go ?_ | refine W_seqL ?_ | refine W_seq ?_ | refine W_block ?_ | ((first | refine W_regL ?_ | refine W_skip ?_ | refine W_exit ?_); simp (maxSteps := 400000) (disch := omega) only [push_cast, ↓reduceIte, reduceCtorEq, Nat.reduceAdd, Nat.reduceSub, Nat.reduceEqDiff, Nat.reduceLeDiff, Nat.reduceLT, Nat.reduceBEq, Nat.reduceDiv, Nat.reduceMod, Nat.reducePow, Nat.reduceMul, Int.reduceToNat, Int.reduceLT, Int.reduceLE, keepL]) | refine And.intro (by omega) ?_ | refine And.intro (by intro hq; (try simp only [Bool.and_eq_true, Bool.or_eq_true, Bool.and_eq_false_iff, Bool.or_eq_false_iff, decide_eq_true_eq, decide_eq_false_iff_not, Bool.not_eq_true', Bool.not_eq_false', beq_iff_eq, beq_eq_false_iff_ne, ne_eq] at hq); omega) ?_ | fail)
      exact W_ret ⟨.inr rfl, rfl⟩
/-- the second one has one element -/
theorem w119b {M : List (Nat × Blk)} {k st nx : Nat} {gc : Nat} {ca : List AV} {lt : Frc → Frc → Bool} {cv : Frc → Frc → Int} (hw : SW lt) (hfz : frzAll ca = true) (hcv : ∀ x y, lt x y = decide (cv x y < 0))
    (hg : ∀ x y, Sy.Fn Try.prog gc (.agg (cF x) :: .agg (cF y) :: ca) (iv (cv x y))) (P U Q : List Frc) (v : Frc) (hU0 : 1 < U.length) (sU : SrtL lt U) (hlen : P.length + 1 + U.length + Q.length ≤ 1000000) (hk : k < nx) (hfr : ∀ j, nx ≤ j → lm M j = none) :
    W Try.prog 220 Xn119_0 ⟨initT 0 [.row k st, iv P.length, iv ((P.length : Int) + U.length), iv ((P.length : Int) + U.length + 1), .clo gc [] ca], setm M k (rF st (insL P U v U.length Q)), nx⟩
      (fun e s' => (e = .n ∨ e = .r) ∧ s'.mem = setm M k (rF st (P ++ (mrg lt U [v] ++ Q)))) := by
  have hfr' : ∀ b : Blk, ∀ j, nx ≤ j → lm (setm M k b) j = none := fun b j hj => by rw [lm_set_other _ _ (by omega)]; exact hfr j hj
  have e1 : (P.length : Int) + U.length - P.length = U.length := by omega
  have e2 : (P.length : Int) + U.length + 1 - (P.length + U.length) = 1 := by omega
  have hll0 := insL_len (P := P) (Q := Q) (v := v) (show U.length ≤ U.length by omega)
  have hat0 := insL_at (P := P) (Q := Q) (v := v) dF (show U.length ≤ U.length by omega)
  have hpn : ((P.length : Int) + U.length).toNat = P.length + U.length := by omega
  have hgU : ∀ c, c < U.length → (insL P U v U.length Q).getD (P.length + c) dF = U.getD c dF := fun c hc => by
    have : insL P U v U.length Q = P ++ (U ++ ([v] ++ Q)) := by simp [insL]
    rw [this]
    exact get_U dF hc
  simp (maxSteps := 400000) (disch := omega) only [push_cast, ↓reduceIte, reduceCtorEq, Nat.reduceAdd, Nat.reduceSub, Nat.reduceEqDiff, Nat.reduceLeDiff, Nat.reduceLT, Nat.reduceBEq, Nat.reduceDiv, Nat.reduceMod, Nat.reducePow, Nat.reduceMul, Int.reduceToNat, Int.reduceLT, Int.reduceLE, initT]
  repeat' (first | refine WK_go ?_ | refine W_seqL ?_ | refine W_seq ?_ | refine W_block ?_ | ((first | refine W_regL ?_ | refine W_skip ?_ | refine W_exit ?_); simp (maxSteps := 400000) (disch := omega) only [push_cast, ↓reduceIte, reduceCtorEq, Nat.reduceAdd, Nat.reduceSub, Nat.reduceEqDiff, Nat.reduceLeDiff, Nat.reduceLT, Nat.reduceBEq, Nat.reduceDiv, Nat.reduceMod, Nat.reducePow, Nat.reduceMul, Int.reduceToNat, Int.reduceLT, Int.reduceLE, e1]) | refine And.intro (by omega) ?_ | refine And.intro (by intro hq; (try simp only [Bool.and_eq_true, Bool.or_eq_true, Bool.and_eq_false_iff, Bool.or_eq_false_iff, decide_eq_true_eq, decide_eq_false_iff_not, Bool.not_eq_true', Bool.not_eq_false', beq_iff_eq, beq_eq_false_iff_ne, ne_eq] at hq); omega) ?_ | fail)
  refine W_cond (by rfl) (fun hb => by simp only [beq_iff_eq] at hb; omega) (fun hb => ?_)
  repeat' (first | refine WK_go ?_ | refine W_seqL ?_ | refine W_seq ?_ | refine W_block ?_ | ((first | refine W_regL ?_ | refine W_skip ?_ | refine W_exit ?_); simp (maxSteps := 400000) (disch := omega) only [push_cast, ↓reduceIte, reduceCtorEq, Nat.reduceAdd, Nat.reduceSub, Nat.reduceEqDiff, Nat.reduceLeDiff, Nat.reduceLT, Nat.reduceBEq, Nat.reduceDiv, Nat.reduceMod, Nat.reducePow, Nat.reduceMul, Int.reduceToNat, Int.reduceLT, Int.reduceLE, e2]) | refine And.intro (by omega) ?_ | refine And.intro (by intro hq; (try simp only [Bool.and_eq_true, Bool.or_eq_true, Bool.and_eq_false_iff, Bool.or_eq_false_iff, decide_eq_true_eq, decide_eq_false_iff_not, Bool.not_eq_true', Bool.not_eq_false', beq_iff_eq, beq_eq_false_iff_ne, ne_eq] at hq); omega) ?_ | fail)
  refine W_cond (by rfl) (fun hb => ?_) (fun hb => by first | cases hb | (simp at hb))
  repeat' (first | refine WK_go ?_ | refine W_seqL ?_ | refine W_seq ?_ | refine W_block ?_ | ((first | refine W_regL ?_ | refine W_skip ?_ | refine W_exit ?_); simp (maxSteps := 400000) (disch := omega) only [push_cast, ↓reduceIte, reduceCtorEq, Nat.reduceAdd, Nat.reduceSub, Nat.reduceEqDiff, Nat.reduceLeDiff, Nat.reduceLT, Nat.reduceBEq, Nat.reduceDiv, Nat.reduceMod, Nat.reducePow, Nat.reduceMul, Int.reduceToNat, Int.reduceLT, Int.reduceLE]) | refine And.intro (by omega) ?_ | refine And.intro (by intro hq; (try simp only [Bool.and_eq_true, Bool.or_eq_true, Bool.and_eq_false_iff, Bool.or_eq_false_iff, decide_eq_true_eq, decide_eq_false_iff_not, Bool.not_eq_true', Bool.not_eq_false', beq_iff_eq, beq_eq_false_iff_ne, ne_eq] at hq); omega) ?_ | fail)
  refine W_loopM (fun q : Nat × Nat => [(14, iv ((P.length : Int) + q.1)), (15, iv ((P.length : Int) + q.2))]) (fun q => setm M k (rF st (insL P U v U.length Q))) (fun q => (q.1 ≤ q.2 ∧ q.2 ≤ U.length) ∧ (q.1 = 0 ∨ lt v (U.getD (q.1 - 1) dF) = false) ∧ (q.2 = U.length ∨ lt v (U.getD q.2 dF) = true)) (fun q => q.2 - q.1) nx (fun c _ => hfr' _) (0, U.length) ⟨⟨by simp, by simp⟩, .inl rfl, .inl rfl⟩ (by
    simp only [Int.natCast_zero, Int.add_zero]
    rfl) (by rfl) (fun q hq => ?_)
  obtain ⟨c, e⟩ := q
  obtain ⟨⟨h1, h2⟩, h3, h4⟩ := hq
  simp only at h1 h2 h3 h4
  simp (maxSteps := 400000) (disch := omega) only [push_cast, ↓reduceIte, reduceCtorEq, Nat.reduceAdd, Nat.reduceSub, Nat.reduceEqDiff, Nat.reduceLeDiff, Nat.reduceLT, Nat.reduceBEq, Nat.reduceDiv, Nat.reduceMod, Nat.reducePow, Nat.reduceMul, Int.reduceToNat, Int.reduceLT, Int.reduceLE, keepL]
  repeat' (first | refine WK_go ?_ | refine W_seqL ?_ | refine W_seq ?_ | refine W_block ?_ | ((first | refine W_regL ?_ | refine W_skip ?_ | refine W_exit ?_); simp (maxSteps := 400000) (disch := omega) only [push_cast, ↓reduceIte, reduceCtorEq, Nat.reduceAdd, Nat.reduceSub, Nat.reduceEqDiff, Nat.reduceLeDiff, Nat.reduceLT, Nat.reduceBEq, Nat.reduceDiv, Nat.reduceMod, Nat.reducePow, Nat.reduceMul, Int.reduceToNat, Int.reduceLT, Int.reduceLE, keepL]) | refine And.intro (by omega) ?_ | refine And.intro (by intro hq; (try simp only [Bool.and_eq_true, Bool.or_eq_true, Bool.and_eq_false_iff, Bool.or_eq_false_iff, decide_eq_true_eq, decide_eq_false_iff_not, Bool.not_eq_true', Bool.not_eq_false', beq_iff_eq, beq_eq_false_iff_ne, ne_eq] at hq); omega) ?_ | fail)
  refine W_condD (by rfl) (fun h5 => ?_) (fun h5 => ?_)
  · have hlt : c < e := by omega
    obtain ⟨h, hh⟩ : ∃ h, h = (c + e) / 2 := ⟨_, rfl⟩
    have w1 : IntKind.u64.wrap ((P.length : Int) + c + (P.length + e)) = P.length + c + (P.length + e) := wrapU ⟨by omega, by omega⟩
    have w2 : IntKind.i64.wrap (((P.length : Int) + c + (P.length + e)) / 2) = P.length + h := by rw [wrap64 ⟨by omega, by omega⟩]; omega
    have et : ((P.length : Int) + h).toNat = P.length + h := by omega
    have hv := hgU h (by omega)
    have cg := hg v (U.getD h dF)
    generalize hx : U.getD h dF = x at *
    repeat' (first | refine WK_go ?_ | refine W_seqL ?_ | refine W_seq ?_ | refine W_block ?_ | ((first | refine W_regL ?_ | refine W_skip ?_ | refine W_exit ?_ | refine CallC.go _ (fun _ => ⟨trivial, cg⟩) rfl ?_); simp (maxSteps := 400000) (disch := omega) only [push_cast, ↓reduceIte, reduceCtorEq, Nat.reduceAdd, Nat.reduceSub, Nat.reduceEqDiff, Nat.reduceLeDiff, Nat.reduceLT, Nat.reduceBEq, Nat.reduceDiv, Nat.reduceMod, Nat.reducePow, Nat.reduceMul, Int.reduceToNat, Int.reduceLT, Int.reduceLE, keepL, w1, w2, shr1, hll0, hat0, hpn, et, hv, tF, hfz, beq_self_eq_true]) | refine And.intro (by omega) ?_ | refine And.intro (by intro hq; (try simp only [Bool.and_eq_true, Bool.or_eq_true, Bool.and_eq_false_iff, Bool.or_eq_false_iff, decide_eq_true_eq, decide_eq_false_iff_not, Bool.not_eq_true', Bool.not_eq_false', beq_iff_eq, beq_eq_false_iff_ne, ne_eq] at hq); omega) ?_ | fail)
    refine W_cond (by rfl) (fun hb2 => ?_) (fun hb2 => ?_)
    · have hl : lt v x = false := by rw [hcv]; simpa using hb2
      repeat' (first | refine WK_go ?_ | refine W_seqL ?_ | refine W_seq ?_ | refine W_block ?_ | ((first | refine W_regL ?_ | refine W_skip ?_ | refine W_exit ?_); simp (maxSteps := 400000) (disch := omega) only [push_cast, ↓reduceIte, reduceCtorEq, Nat.reduceAdd, Nat.reduceSub, Nat.reduceEqDiff, Nat.reduceLeDiff, Nat.reduceLT, Nat.reduceBEq, Nat.reduceDiv, Nat.reduceMod, Nat.reducePow, Nat.reduceMul, Int.reduceToNat, Int.reduceLT, Int.reduceLE, keepL]) | refine And.intro (by omega) ?_ | refine And.intro (by intro hq; (try simp only [Bool.and_eq_true, Bool.or_eq_true, Bool.and_eq_false_iff, Bool.or_eq_false_iff, decide_eq_true_eq, decide_eq_false_iff_not, Bool.not_eq_true', Bool.not_eq_false', beq_iff_eq, beq_eq_false_iff_ne, ne_eq] at hq); omega) ?_ | fail)
      refine ⟨(h + 1, e), ⟨⟨by dsimp only; omega, h2⟩, .inr (by rw [Nat.add_sub_cancel, hx]; exact hl), h4⟩, by dsimp only; omega, ?_⟩
      rw [show (P.length : Int) + ((h + 1 : Nat) : Int) = P.length + h + 1 by omega]
    · have hl : lt v x = true := by rw [hcv]; simpa using hb2
      repeat' (first | refine WK_go ?_ | refine W_seqL ?_ | refine W_seq ?_ | refine W_block ?_ | ((first | refine W_regL ?_ | refine W_skip ?_ | refine W_exit ?_); simp (maxSteps := 400000) (disch := omega) only [push_cast, ↓reduceIte, reduceCtorEq, Nat.reduceAdd, Nat.reduceSub, Nat.reduceEqDiff, Nat.reduceLeDiff, Nat.reduceLT, Nat.reduceBEq, Nat.reduceDiv, Nat.reduceMod, Nat.reducePow, Nat.reduceMul, Int.reduceToNat, Int.reduceLT, Int.reduceLE, keepL]) | refine And.intro (by omega) ?_ | refine And.intro (by intro hq; (try simp only [Bool.and_eq_true, Bool.or_eq_true, Bool.and_eq_false_iff, Bool.or_eq_false_iff, decide_eq_true_eq, decide_eq_false_iff_not, Bool.not_eq_true', Bool.not_eq_false', beq_iff_eq, beq_eq_false_iff_ne, ne_eq] at hq); omega) ?_ | fail)
      exact ⟨(c, h), ⟨⟨by dsimp only; omega, by dsimp only; omega⟩, h3, .inr (by rw [hx]; exact hl)⟩, by dsimp only; omega, rfl⟩
  · obtain rfl : c = e := by omega
    have hm := at_one hw sU dF v h2 h3 h4
    have hfin : insL P U v c Q = P ++ (mrg lt U [v] ++ Q) := by
      unfold insL
      rw [hm]; simp
    repeat' (first | refine WK_go ?_ | refine W_seqL ?_ | refine W_seq ?_ | refine W_block ?_ | ((first | refine W_regL ?_ | refine W_skip ?_ | refine W_exit ?_); simp (maxSteps := 400000) (disch := omega) only [push_cast, ↓reduceIte, reduceCtorEq, Nat.reduceAdd, Nat.reduceSub, Nat.reduceEqDiff, Nat.reduceLeDiff, Nat.reduceLT, Nat.reduceBEq, Nat.reduceDiv, Nat.reduceMod, Nat.reducePow, Nat.reduceMul, Int.reduceToNat, Int.reduceLT, Int.reduceLE, keepL]) | refine And.intro (by omega) ?_ | refine And.intro (by intro hq; (try simp only [Bool.and_eq_true, Bool.or_eq_true, Bool.and_eq_false_iff, Bool.or_eq_false_iff, decide_eq_true_eq, decide_eq_false_iff_not, Bool.not_eq_true', Bool.not_eq_false', beq_iff_eq, beq_eq_false_iff_ne, ne_eq] at hq); omega) ?_ | fail)
    refine W_loopM (fun i : Nat => [(17, iv ((P.length : Int) + i))]) (fun i => setm M k (rF st (insL P U v i Q))) (fun i => c ≤ i ∧ i ≤ U.length) (fun i => i - c) nx (fun c _ => hfr' _) U.length ⟨h2, Nat.le_refl _⟩ (by rfl) (by rfl) (fun i hi => ?_)
    obtain ⟨hi1, hi2⟩ := hi
    simp (maxSteps := 400000) (disch := omega) only [push_cast, ↓reduceIte, reduceCtorEq, Nat.reduceAdd, Nat.reduceSub, Nat.reduceEqDiff, Nat.reduceLeDiff, Nat.reduceLT, Nat.reduceBEq, Nat.reduceDiv, Nat.reduceMod, Nat.reducePow, Nat.reduceMul, Int.reduceToNat, Int.reduceLT, Int.reduceLE, keepL]
    repeat' (first | refine WK_go ?_ | refine W_seqL ?_ | refine W_seq ?_ | refine W_block ?_ | ((first | refine W_regL ?_ | refine W_skip ?_ | refine W_exit ?_); simp (maxSteps := 400000) (disch := omega) only [push_cast, ↓reduceIte, reduceCtorEq, Nat.reduceAdd, Nat.reduceSub, Nat.reduceEqDiff, Nat.reduceLeDiff, Nat.reduceLT, Nat.reduceBEq, Nat.reduceDiv, Nat.reduceMod, Nat.reducePow, Nat.reduceMul, Int.reduceToNat, Int.reduceLT, Int.reduceLE, keepL]) | refine And.intro (by omega) ?_ | refine And.intro (by intro hq; (try simp only [Bool.and_eq_true, Bool.or_eq_true, Bool.and_eq_false_iff, Bool.or_eq_false_iff, decide_eq_true_eq, decide_eq_false_iff_not, Bool.not_eq_true', Bool.not_eq_false', beq_iff_eq, beq_eq_false_iff_ne, ne_eq] at hq); omega) ?_ | fail)
    refine W_condD (by rfl) (fun h6 => ?_) (fun h6 => ?_)
    · obtain ⟨i', rfl⟩ : ∃ i', i = i' + 1 := ⟨i - 1, by omega⟩
      have hll := insL_len (P := P) (Q := Q) (v := v) hi2
      obtain ⟨q1, q2⟩ := insL_dn (P := P) (Q := Q) (v := v) dF (show i' < U.length by omega)
      have hat := insL_at (P := P) (Q := Q) (v := v) dF hi2
      have ea : ((P.length : Int) + ((i' : Int) + 1)).toNat = P.length + (i' + 1) := by omega
      have eb : ((P.length : Int) + ((i' : Int) + 1) - 1).toNat = P.length + i' := by omega
      generalize U.getD i' dF = y at *
      repeat' (first | refine WK_go ?_ | refine W_seqL ?_ | refine W_seq ?_ | refine W_block ?_ | ((first | refine W_regL ?_ | refine W_skip ?_ | refine W_exit ?_); simp (maxSteps := 400000) (disch := omega) only [push_cast, ↓reduceIte, reduceCtorEq, Nat.reduceAdd, Nat.reduceSub, Nat.reduceEqDiff, Nat.reduceLeDiff, Nat.reduceLT, Nat.reduceBEq, Nat.reduceDiv, Nat.reduceMod, Nat.reducePow, Nat.reduceMul, Int.reduceToNat, Int.reduceLT, Int.reduceLE, keepL, hll, ea, eb, hat, q1, tF, beq_self_eq_true]) | refine And.intro (by omega) ?_ | refine And.intro (by intro hq; (try simp only [Bool.and_eq_true, Bool.or_eq_true, Bool.and_eq_false_iff, Bool.or_eq_false_iff, decide_eq_true_eq, decide_eq_false_iff_not, Bool.not_eq_true', Bool.not_eq_false', beq_iff_eq, beq_eq_false_iff_ne, ne_eq] at hq); omega) ?_ | fail)
      refine ⟨rfl, ⟨by dsimp only; omega, hasM_set _ _ _⟩, by omega, y, rfl, rfl, ?_⟩
      simp (maxSteps := 400000) (disch := omega) only [push_cast, ↓reduceIte, reduceCtorEq, Nat.reduceAdd, Nat.reduceSub, Nat.reduceEqDiff, Nat.reduceLeDiff, Nat.reduceLT, Nat.reduceBEq, Nat.reduceDiv, Nat.reduceMod, Nat.reducePow, Nat.reduceMul, Int.reduceToNat, Int.reduceLT, Int.reduceLE, hll, ea, eb, List.length_set]
      repeat' (first | refine WK_go ?_ | refine W_seqL ?_ | refine W_seq ?_ | refine W_block ?_ | ((first | refine W_regL ?_ | refine W_skip ?_ | refine W_exit ?_); simp (maxSteps := 400000) (disch := omega) only [push_cast, ↓reduceIte, reduceCtorEq, Nat.reduceAdd, Nat.reduceSub, Nat.reduceEqDiff, Nat.reduceLeDiff, Nat.reduceLT, Nat.reduceBEq, Nat.reduceDiv, Nat.reduceMod, Nat.reducePow, Nat.reduceMul, Int.reduceToNat, Int.reduceLT, Int.reduceLE, keepL, hll, ea, eb, List.length_set, beq_self_eq_true]) | refine And.intro (by omega) ?_ | refine And.intro (by intro hq; (try simp only [Bool.and_eq_true, Bool.or_eq_true, Bool.and_eq_false_iff, Bool.or_eq_false_iff, decide_eq_true_eq, decide_eq_false_iff_not, Bool.not_eq_true', Bool.not_eq_false', beq_iff_eq, beq_eq_false_iff_ne, ne_eq] at hq); omega) ?_ | fail)
      refine ⟨rfl, ⟨by dsimp only; omega, hasM_set _ _ _⟩, by omega, v, rfl, rfl, ?_⟩
      rw [q2]
      simp (maxSteps := 400000) (disch := omega) only [push_cast, ↓reduceIte, reduceCtorEq, Nat.reduceAdd, Nat.reduceSub, Nat.reduceEqDiff, Nat.reduceLeDiff, Nat.reduceLT, Nat.reduceBEq, Nat.reduceDiv, Nat.reduceMod, Nat.reducePow, Nat.reduceMul, Int.reduceToNat, Int.reduceLT, Int.reduceLE]
      repeat' (first | refine WK_go ?_ | refine W_seqL ?_ | refine W_seq ?_ | refine W_block ?_ | ((first | refine W_regL ?_ | refine W_skip ?_ | refine W_exit ?_); simp (maxSteps := 400000) (disch := omega) only [push_cast, ↓reduceIte, reduceCtorEq, Nat.reduceAdd, Nat.reduceSub, Nat.reduceEqDiff, Nat.reduceLeDiff, Nat.reduceLT, Nat.reduceBEq, Nat.reduceDiv, Nat.reduceMod, Nat.reducePow, Nat.reduceMul, Int.reduceToNat, Int.reduceLT, Int.reduceLE, keepL]) | refine And.intro (by omega) ?_ | refine And.intro (by intro hq; (try simp only [Bool.and_eq_true, Bool.or_eq_true, Bool.and_eq_false_iff, Bool.or_eq_false_iff, decide_eq_true_eq, decide_eq_false_iff_not, Bool.not_eq_true', Bool.not_eq_false', beq_iff_eq, beq_eq_false_iff_ne, ne_eq] at hq); omega) ?_ | fail)
      refine ⟨i', ⟨by omega, by omega⟩, by omega, ?_, rfl⟩
      rw [show (P.length : Int) + ((i' : Int) + 1) - 1 = P.length + i' by omega]
    · obtain rfl : i = c := by omega
      rw [hfin]
      repeat' (first | refine WK_go ?_ | refine W_seqL ?_ | refine W_seq ?_ | refine W_block ?_ | ((first | refine W_regL ?_ | refine W_skip ?_ | refine W_exit ?_); simp (maxSteps := 400000) (disch := omega) only [push_cast, ↓reduceIte, reduceCtorEq, Nat.reduceAdd, Nat.reduceSub, Nat.reduceEqDiff, Nat.reduceLeDiff, Nat.reduceLT, Nat.reduceBEq, Nat.reduceDiv, Nat.reduceMod, Nat.reducePow, Nat.reduceMul, Int.reduceToNat, Int.reduceLT, Int.reduceLE, keepL]) | refine And.intro (by omega) ?_ | refine And.intro (by intro hq; (try simp only [Bool.and_eq_true, Bool.or_eq_true, Bool.and_eq_false_iff, Bool.or_eq_false_iff, decide_eq_true_eq, decide_eq_false_iff_not, Bool.not_eq_true', Bool.not_eq_false', beq_iff_eq, beq_eq_false_iff_ne, ne_eq] at hq); omega) ?_ | fail)
      exact W_ret ⟨.inr rfl, rfl⟩
end Go.Proofs.Ytbdnnicodailcaa

/- Stable sorting, walked: two sorted pieces become one, in place. -/
namespace Go.Proofs.Ytbdnnicodailcaa
open Go Sy
set_option maxRecDepth 100000
set_option maxHeartbeats 4000000
set_option linter.unusedVariables false
set_option linter.unusedSimpArgs false
def SymW (gc : Nat) (ca : List AV) (lt : Frc → Frc → Bool) (n : Nat) : Prop :=
  ∀ (P U V Q : List Frc), U.length + V.length ≤ n → 0 < U.length → 0 < V.length → SrtL lt U → SrtL lt V → P.length + U.length + V.length + Q.length ≤ 1000000 → ∀ (M : List (Nat × Blk)) (k st nx : Nat), k < nx → (∀ j, nx ≤ j → lm M j = none) →
    W Try.prog 220 Xn119_0 ⟨initT 0 [.row k st, iv P.length, iv ((P.length : Int) + U.length), iv ((P.length : Int) + U.length + V.length), .clo gc [] ca], setm M k (rF st (P ++ (U ++ (V ++ Q)))), nx⟩
      (fun e s' => (e = .n ∨ e = .r) ∧ s'.mem = setm M k (rF st (P ++ (mrg lt U V ++ Q))))
theorem i119 {gc : Nat} {ca : List AV} {lt : Frc → Frc → Bool} {n : Nat} (ih : SymW gc ca lt n) {s : S} {k st : Nat} {L L' : List Frc} (P U V Q : List Frc) {a b c : Int} {K : AV → S → Prop} (hk : lm s.mem k = some (rF st L)) (hfr : ∀ j, s.nx ≤ j → lm s.mem j = none) (hlen : L.length ≤ 1000000)
    (hn : U.length + V.length ≤ n) (hU : 0 < U.length) (hV : 0 < V.length) (sU : SrtL lt U) (sV : SrtL lt V) (hL : L = P ++ (U ++ (V ++ Q))) (hL' : P ++ (mrg lt U V ++ Q) = L') (ha : a = P.length) (hb : b = P.length + U.length) (hc : c = P.length + U.length + V.length) (hK : K (.tup []) ⟨s.tm, setm s.mem k (rF st L'), s.nx⟩) :
    Inl Try.prog 119 [.row k st, iv a, iv b, iv c, .clo gc [] ca] s K := by
  subst ha hb hc hL'
  subst hL
  simp only [List.length_append] at hlen
  exact Inl_row mixed Xt119 rfl hk hfr (fun M nx h1 h2 => ih P U V Q hn hU hV sU sV (by omega) M k st nx h1 h2) hK
theorem w119 {gc : Nat} {ca : List AV} {lt : Frc → Frc → Bool} {cv : Frc → Frc → Int} (hw : SW lt) (hfz : frzAll ca = true) (hcv : ∀ x y, lt x y = decide (cv x y < 0))
    (hg : ∀ x y, Sy.Fn Try.prog gc (.agg (cF x) :: .agg (cF y) :: ca) (iv (cv x y))) : ∀ n, SymW gc ca lt n
  | 0 => fun P U V Q h1 h2 h3 => by omega
  | n + 1 => fun P U V Q hn hU hV sU sV hlen M k st nx hk hfr => by
    have ih := w119 hw hfz hcv hg n
    by_cases u1 : U.length = 1
    · obtain ⟨u, rfl⟩ := List.length_eq_one_iff.1 u1
      have := w119a hw hfz hcv hg P V Q u hV sV (by rw [u1] at hlen; omega) hk hfr (st := st)
      have e : insL P V u 0 Q = P ++ ([u] ++ (V ++ Q)) := by simp [insL]
      rw [e] at this
      exact this
    by_cases v1 : V.length = 1
    · obtain ⟨v, rfl⟩ := List.length_eq_one_iff.1 v1
      have := w119b hw hfz hcv hg P U Q v (by omega) sU (by rw [v1] at hlen; omega) hk hfr (st := st)
      have e : insL P U v U.length Q = P ++ (U ++ ([v] ++ Q)) := by simp [insL]
      rw [e] at this
      exact this
    have hfr' : ∀ b : Blk, ∀ j, nx ≤ j → lm (setm M k b) j = none := fun b j hj => by rw [lm_set_other _ _ (by omega)]; exact hfr j hj
    obtain ⟨h, hh⟩ : ∃ h, h = (U.length + V.length) / 2 := ⟨_, rfl⟩
    obtain ⟨a, ha⟩ : ∃ a : Int, a = P.length := ⟨_, rfl⟩
    obtain ⟨m, hm⟩ : ∃ m : Int, m = a + U.length := ⟨_, rfl⟩
    obtain ⟨b, hb⟩ : ∃ b : Int, b = m + V.length := ⟨_, rfl⟩
    obtain ⟨mid, hmid⟩ : ∃ mid : Int, mid = a + h := ⟨_, rfl⟩
    obtain ⟨nn, hnn⟩ : ∃ nn : Int, nn = mid + m := ⟨_, rfl⟩
    obtain ⟨pp, hpp⟩ : ∃ pp : Int, pp = nn - 1 := ⟨_, rfl⟩
    obtain ⟨s0, hs0⟩ : ∃ s0, s0 = h - V.length := ⟨_, rfl⟩
    obtain ⟨r0, hr0⟩ : ∃ r0, r0 = min U.length h := ⟨_, rfl⟩
    have w1 : IntKind.u64.wrap (a + b) = a + b := wrapU ⟨by omega, by omega⟩
    have w2 : IntKind.i64.wrap ((a + b) / 2) = mid := by rw [wrap64 ⟨by omega, by omega⟩]; omega
    have e1 : m - a = U.length := by omega
    have e2 : b - m = V.length := by omega
    have hLl : (P ++ (U ++ (V ++ Q))).length = P.length + U.length + V.length + Q.length := by simp only [List.length_append]; omega
    have gU : ∀ c, c < U.length → (P ++ (U ++ (V ++ Q))).getD (P.length + c) dF = U.getD c dF := fun c hc => get_U dF hc
    have gV : ∀ c, c < V.length → (P ++ (U ++ (V ++ Q))).getD (P.length + U.length + c) dF = V.getD c dF := fun c hc => get_V dF hc
    rw [← ha, ← hm, ← hb]
    generalize hL0 : P ++ (U ++ (V ++ Q)) = L0 at *
    simp (maxSteps := 400000) (disch := omega) only [push_cast, ↓reduceIte, reduceCtorEq, Nat.reduceAdd, Nat.reduceSub, Nat.reduceEqDiff, Nat.reduceLeDiff, Nat.reduceLT, Nat.reduceBEq, Nat.reduceDiv, Nat.reduceMod, Nat.reducePow, Nat.reduceMul, Int.reduceToNat, Int.reduceLT, Int.reduceLE, initT]
    repeat' (first | refine WK_go ?_ | refine W_seqL ?_ | refine W_seq ?_ | refine W_block ?_ | ((first | refine W_regL ?_ | refine W_skip ?_ | refine W_exit ?_); simp (maxSteps := 400000) (disch := omega) only [push_cast, ↓reduceIte, reduceCtorEq, Nat.reduceAdd, Nat.reduceSub, Nat.reduceEqDiff, Nat.reduceLeDiff, Nat.reduceLT, Nat.reduceBEq, Nat.reduceDiv, Nat.reduceMod, Nat.reducePow, Nat.reduceMul, Int.reduceToNat, Int.reduceLT, Int.reduceLE, e1]) | refine And.intro (by omega) ?_ | refine And.intro (by intro hq; (try simp only [Bool.and_eq_true, Bool.or_eq_true, Bool.and_eq_false_iff, Bool.or_eq_false_iff, decide_eq_true_eq, decide_eq_false_iff_not, Bool.not_eq_true', Bool.not_eq_false', beq_iff_eq, beq_eq_false_iff_ne, ne_eq] at hq); omega) ?_ | fail)
    refine W_cond (by rfl) (fun hb1 => by simp only [beq_iff_eq] at hb1; omega) (fun _ => ?_)
    repeat' (first | refine WK_go ?_ | refine W_seqL ?_ | refine W_seq ?_ | refine W_block ?_ | ((first | refine W_regL ?_ | refine W_skip ?_ | refine W_exit ?_); simp (maxSteps := 400000) (disch := omega) only [push_cast, ↓reduceIte, reduceCtorEq, Nat.reduceAdd, Nat.reduceSub, Nat.reduceEqDiff, Nat.reduceLeDiff, Nat.reduceLT, Nat.reduceBEq, Nat.reduceDiv, Nat.reduceMod, Nat.reducePow, Nat.reduceMul, Int.reduceToNat, Int.reduceLT, Int.reduceLE, e2]) | refine And.intro (by omega) ?_ | refine And.intro (by intro hq; (try simp only [Bool.and_eq_true, Bool.or_eq_true, Bool.and_eq_false_iff, Bool.or_eq_false_iff, decide_eq_true_eq, decide_eq_false_iff_not, Bool.not_eq_true', Bool.not_eq_false', beq_iff_eq, beq_eq_false_iff_ne, ne_eq] at hq); omega) ?_ | fail)
    refine W_cond (by rfl) (fun hb1 => by simp only [beq_iff_eq] at hb1; omega) (fun _ => ?_)
    repeat' (first | refine WK_go ?_ | refine W_seqL ?_ | refine W_seq ?_ | refine W_block ?_ | ((first | refine W_regL ?_ | refine W_skip ?_ | refine W_exit ?_); simp (maxSteps := 400000) (disch := omega) only [push_cast, ↓reduceIte, reduceCtorEq, Nat.reduceAdd, Nat.reduceSub, Nat.reduceEqDiff, Nat.reduceLeDiff, Nat.reduceLT, Nat.reduceBEq, Nat.reduceDiv, Nat.reduceMod, Nat.reducePow, Nat.reduceMul, Int.reduceToNat, Int.reduceLT, Int.reduceLE, w1, w2, shr1, ← hnn]) | refine And.intro (by omega) ?_ | refine And.intro (by intro hq; (try simp only [Bool.and_eq_true, Bool.or_eq_true, Bool.and_eq_false_iff, Bool.or_eq_false_iff, decide_eq_true_eq, decide_eq_false_iff_not, Bool.not_eq_true', Bool.not_eq_false', beq_iff_eq, beq_eq_false_iff_ne, ne_eq] at hq); omega) ?_ | fail)
    refine W_meetM [(20, iv (a + s0)), (21, iv (a + r0))] (setm M k (rF st L0)) nx (hfr' _) ?_ ?_
    · refine W_condD (by rfl) (fun h5 => ?_) (fun h5 => ?_)
      · have q1 : nn - b = a + s0 := by omega
        have q2 : mid = a + r0 := by omega
        repeat' (first | refine WK_go ?_ | refine W_seqL ?_ | refine W_seq ?_ | refine W_block ?_ | ((first | refine W_regL ?_ | refine W_skip ?_ | refine W_exit ?_); simp (maxSteps := 400000) (disch := omega) only [push_cast, ↓reduceIte, reduceCtorEq, Nat.reduceAdd, Nat.reduceSub, Nat.reduceEqDiff, Nat.reduceLeDiff, Nat.reduceLT, Nat.reduceBEq, Nat.reduceDiv, Nat.reduceMod, Nat.reducePow, Nat.reduceMul, Int.reduceToNat, Int.reduceLT, Int.reduceLE, keepL, q1]) | refine And.intro (by omega) ?_ | refine And.intro (by intro hq; (try simp only [Bool.and_eq_true, Bool.or_eq_true, Bool.and_eq_false_iff, Bool.or_eq_false_iff, decide_eq_true_eq, decide_eq_false_iff_not, Bool.not_eq_true', Bool.not_eq_false', beq_iff_eq, beq_eq_false_iff_ne, ne_eq] at hq); omega) ?_ | fail)
        rw [q2]
      · have q1 : a = a + s0 := by omega
        have q2 : m = a + r0 := by omega
        repeat' (first | refine WK_go ?_ | refine W_seqL ?_ | refine W_seq ?_ | refine W_block ?_ | ((first | refine W_regL ?_ | refine W_skip ?_ | refine W_exit ?_); simp (maxSteps := 400000) (disch := omega) only [push_cast, ↓reduceIte, reduceCtorEq, Nat.reduceAdd, Nat.reduceSub, Nat.reduceEqDiff, Nat.reduceLeDiff, Nat.reduceLT, Nat.reduceBEq, Nat.reduceDiv, Nat.reduceMod, Nat.reducePow, Nat.reduceMul, Int.reduceToNat, Int.reduceLT, Int.reduceLE, keepL]) | refine And.intro (by omega) ?_ | refine And.intro (by intro hq; (try simp only [Bool.and_eq_true, Bool.or_eq_true, Bool.and_eq_false_iff, Bool.or_eq_false_iff, decide_eq_true_eq, decide_eq_false_iff_not, Bool.not_eq_true', Bool.not_eq_false', beq_iff_eq, beq_eq_false_iff_ne, ne_eq] at hq); omega) ?_ | fail)
        rw [← q1, ← q2]
    simp (maxSteps := 400000) (disch := omega) only [push_cast, ↓reduceIte, reduceCtorEq, Nat.reduceAdd, Nat.reduceSub, Nat.reduceEqDiff, Nat.reduceLeDiff, Nat.reduceLT, Nat.reduceBEq, Nat.reduceDiv, Nat.reduceMod, Nat.reducePow, Nat.reduceMul, Int.reduceToNat, Int.reduceLT, Int.reduceLE, keepL]
    repeat' (first | refine WK_go ?_ | refine W_seqL ?_ | refine W_seq ?_ | refine W_block ?_ | ((first | refine W_regL ?_ | refine W_skip ?_ | refine W_exit ?_); simp (maxSteps := 400000) (disch := omega) only [push_cast, ↓reduceIte, reduceCtorEq, Nat.reduceAdd, Nat.reduceSub, Nat.reduceEqDiff, Nat.reduceLeDiff, Nat.reduceLT, Nat.reduceBEq, Nat.reduceDiv, Nat.reduceMod, Nat.reducePow, Nat.reduceMul, Int.reduceToNat, Int.reduceLT, Int.reduceLE, keepL, ← hpp]) | refine And.intro (by omega) ?_ | refine And.intro (by intro hq; (try simp only [Bool.and_eq_true, Bool.or_eq_true, Bool.and_eq_false_iff, Bool.or_eq_false_iff, decide_eq_true_eq, decide_eq_false_iff_not, Bool.not_eq_true', Bool.not_eq_false', beq_iff_eq, beq_eq_false_iff_ne, ne_eq] at hq); omega) ?_ | fail)
    refine W_loopM (fun q : Nat × Nat => [(20, iv (a + q.1)), (21, iv (a + q.2))]) (fun q => setm M k (rF st L0)) (fun q => (s0 ≤ q.1 ∧ q.1 ≤ q.2 ∧ q.2 ≤ r0) ∧ (q.1 = s0 ∨ lt (V.getD (h - q.1) dF) (U.getD (q.1 - 1) dF) = false) ∧ (q.2 = r0 ∨ lt (V.getD (h - 1 - q.2) dF) (U.getD q.2 dF) = true)) (fun q => q.2 - q.1) nx (fun c _ => hfr' _) (s0, r0) ⟨⟨Nat.le_refl _, by dsimp only; omega, Nat.le_refl _⟩, .inl rfl, .inl rfl⟩ (by rfl) (by rfl) (fun q hq => ?_)
    obtain ⟨s, r⟩ := q
    obtain ⟨⟨p1, p2, p3⟩, p4, p5⟩ := hq
    simp only at p1 p2 p3 p4 p5
    simp (maxSteps := 400000) (disch := omega) only [push_cast, ↓reduceIte, reduceCtorEq, Nat.reduceAdd, Nat.reduceSub, Nat.reduceEqDiff, Nat.reduceLeDiff, Nat.reduceLT, Nat.reduceBEq, Nat.reduceDiv, Nat.reduceMod, Nat.reducePow, Nat.reduceMul, Int.reduceToNat, Int.reduceLT, Int.reduceLE, keepL]
    repeat' (first | refine WK_go ?_ | refine W_seqL ?_ | refine W_seq ?_ | refine W_block ?_ | ((first | refine W_regL ?_ | refine W_skip ?_ | refine W_exit ?_); simp (maxSteps := 400000) (disch := omega) only [push_cast, ↓reduceIte, reduceCtorEq, Nat.reduceAdd, Nat.reduceSub, Nat.reduceEqDiff, Nat.reduceLeDiff, Nat.reduceLT, Nat.reduceBEq, Nat.reduceDiv, Nat.reduceMod, Nat.reducePow, Nat.reduceMul, Int.reduceToNat, Int.reduceLT, Int.reduceLE, keepL]) | refine And.intro (by omega) ?_ | refine And.intro (by intro hq; (try simp only [Bool.and_eq_true, Bool.or_eq_true, Bool.and_eq_false_iff, Bool.or_eq_false_iff, decide_eq_true_eq, decide_eq_false_iff_not, Bool.not_eq_true', Bool.not_eq_false', beq_iff_eq, beq_eq_false_iff_ne, ne_eq] at hq); omega) ?_ | fail)
    refine W_condD (by rfl) (fun h5 => ?_) (fun h5 => ?_)
    · have hlt : s < r := by omega
      obtain ⟨c, hc⟩ : ∃ c, c = (s + r) / 2 := ⟨_, rfl⟩
      have w3 : IntKind.u64.wrap (a + s + (a + r)) = a + s + (a + r) := wrapU ⟨by omega, by omega⟩
      have w4 : IntKind.i64.wrap ((a + s + (a + r)) / 2) = a + c := by rw [wrap64 ⟨by omega, by omega⟩]; omega
      have et1 : (a + (c : Int)).toNat = P.length + c := by omega
      have et2 : (pp - (a + (c : Int))).toNat = P.length + U.length + (h - 1 - c) := by omega
      have q1 := gU c (by omega)
      have q2 := gV (h - 1 - c) (by omega)
      have cg := hg (V.getD (h - 1 - c) dF) (U.getD c dF)
      generalize hx : U.getD c dF = x at *
      generalize hy : V.getD (h - 1 - c) dF = y at *
      repeat' (first | refine WK_go ?_ | refine W_seqL ?_ | refine W_seq ?_ | refine W_block ?_ | ((first | refine W_regL ?_ | refine W_skip ?_ | refine W_exit ?_ | refine CallC.go _ (fun _ => ⟨trivial, cg⟩) rfl ?_); simp (maxSteps := 400000) (disch := omega) only [push_cast, ↓reduceIte, reduceCtorEq, Nat.reduceAdd, Nat.reduceSub, Nat.reduceEqDiff, Nat.reduceLeDiff, Nat.reduceLT, Nat.reduceBEq, Nat.reduceDiv, Nat.reduceMod, Nat.reducePow, Nat.reduceMul, Int.reduceToNat, Int.reduceLT, Int.reduceLE, keepL, w3, w4, shr1, hLl, et1, et2, q1, q2, tF, hfz, beq_self_eq_true]) | refine And.intro (by omega) ?_ | refine And.intro (by intro hq; (try simp only [Bool.and_eq_true, Bool.or_eq_true, Bool.and_eq_false_iff, Bool.or_eq_false_iff, decide_eq_true_eq, decide_eq_false_iff_not, Bool.not_eq_true', Bool.not_eq_false', beq_iff_eq, beq_eq_false_iff_ne, ne_eq] at hq); omega) ?_ | fail)
      refine W_cond (by rfl) (fun hb2 => ?_) (fun hb2 => ?_)
      · have hl : lt y x = false := by rw [hcv]; simpa using hb2
        repeat' (first | refine WK_go ?_ | refine W_seqL ?_ | refine W_seq ?_ | refine W_block ?_ | ((first | refine W_regL ?_ | refine W_skip ?_ | refine W_exit ?_); simp (maxSteps := 400000) (disch := omega) only [push_cast, ↓reduceIte, reduceCtorEq, Nat.reduceAdd, Nat.reduceSub, Nat.reduceEqDiff, Nat.reduceLeDiff, Nat.reduceLT, Nat.reduceBEq, Nat.reduceDiv, Nat.reduceMod, Nat.reducePow, Nat.reduceMul, Int.reduceToNat, Int.reduceLT, Int.reduceLE, keepL]) | refine And.intro (by omega) ?_ | refine And.intro (by intro hq; (try simp only [Bool.and_eq_true, Bool.or_eq_true, Bool.and_eq_false_iff, Bool.or_eq_false_iff, decide_eq_true_eq, decide_eq_false_iff_not, Bool.not_eq_true', Bool.not_eq_false', beq_iff_eq, beq_eq_false_iff_ne, ne_eq] at hq); omega) ?_ | fail)
        refine ⟨(c + 1, r), ⟨⟨by dsimp only; omega, by dsimp only; omega, p3⟩, .inr (by rw [Nat.add_sub_cancel, hx, show h - (c + 1) = h - 1 - c by omega, hy]; exact hl), p5⟩, by dsimp only; omega, ?_⟩
        rw [show a + ((c + 1 : Nat) : Int) = a + c + 1 by omega]
      · have hl : lt y x = true := by rw [hcv]; simpa using hb2
        repeat' (first | refine WK_go ?_ | refine W_seqL ?_ | refine W_seq ?_ | refine W_block ?_ | ((first | refine W_regL ?_ | refine W_skip ?_ | refine W_exit ?_); simp (maxSteps := 400000) (disch := omega) only [push_cast, ↓reduceIte, reduceCtorEq, Nat.reduceAdd, Nat.reduceSub, Nat.reduceEqDiff, Nat.reduceLeDiff, Nat.reduceLT, Nat.reduceBEq, Nat.reduceDiv, Nat.reduceMod, Nat.reducePow, Nat.reduceMul, Int.reduceToNat, Int.reduceLT, Int.reduceLE, keepL]) | refine And.intro (by omega) ?_ | refine And.intro (by intro hq; (try simp only [Bool.and_eq_true, Bool.or_eq_true, Bool.and_eq_false_iff, Bool.or_eq_false_iff, decide_eq_true_eq, decide_eq_false_iff_not, Bool.not_eq_true', Bool.not_eq_false', beq_iff_eq, beq_eq_false_iff_ne, ne_eq] at hq); omega) ?_ | fail)
        exact ⟨(s, c), ⟨⟨p1, by dsimp only; omega, by dsimp only; omega⟩, p4, .inr (by rw [hx, hy]; exact hl)⟩, by dsimp only; omega, rfl⟩
    · obtain rfl : s = r := by omega
      obtain ⟨e, he⟩ : ∃ e, e = h - s := ⟨_, rfl⟩
      obtain ⟨E, hE⟩ : ∃ E : Int, E = m + e := ⟨_, rfl⟩
      have e3 : nn - (a + (s : Int)) = E := by omega
      have hsp := sym_split hw sU sV dF (s := s) (e := e) (by omega) (by omega) (by
        rcases p4 with p4 | p4
        · omega
        · exact .inr (.inr (by rw [he]; exact p4))) (by
        rcases p5 with p5 | p5
        · omega
        · exact .inr (.inr (by rw [he, show h - s - 1 = h - 1 - s by omega]; exact p5)))
      have t1 : (U.take s).length = s := by rw [List.length_take]; omega
      have t2 : (U.drop s).length = U.length - s := List.length_drop
      have t3 : (V.take e).length = e := by rw [List.length_take]; omega
      have t4 : (V.drop e).length = V.length - e := List.length_drop
      have t5 : U.take s ++ U.drop s = U := List.take_append_drop _ _
      have t6 : V.take e ++ V.drop e = V := List.take_append_drop _ _
      have t7 := srt_take sU s
      have t8 := srt_drop sU s
      have t9 := srt_take sV e
      have t10 := srt_drop sV e
      generalize U.take s = U1 at *
      generalize U.drop s = U2 at *
      generalize V.take e = V1 at *
      generalize V.drop e = V2 at *
      have m1 : (mrg lt U1 V1).length = U1.length + V1.length := mrg_len _ _
      repeat' (first | refine WK_go ?_ | refine W_seqL ?_ | refine W_seq ?_ | refine W_block ?_ | ((first | refine W_regL ?_ | refine W_skip ?_ | refine W_exit ?_); simp (maxSteps := 400000) (disch := omega) only [push_cast, ↓reduceIte, reduceCtorEq, Nat.reduceAdd, Nat.reduceSub, Nat.reduceEqDiff, Nat.reduceLeDiff, Nat.reduceLT, Nat.reduceBEq, Nat.reduceDiv, Nat.reduceMod, Nat.reducePow, Nat.reduceMul, Int.reduceToNat, Int.reduceLT, Int.reduceLE, keepL, e3]) | refine And.intro (by omega) ?_ | refine And.intro (by intro hq; (try simp only [Bool.and_eq_true, Bool.or_eq_true, Bool.and_eq_false_iff, Bool.or_eq_false_iff, decide_eq_true_eq, decide_eq_false_iff_not, Bool.not_eq_true', Bool.not_eq_false', beq_iff_eq, beq_eq_false_iff_ne, ne_eq] at hq); omega) ?_ | fail)
      refine W_meetM [] (setm M k (rF st (P ++ (U1 ++ (V1 ++ (U2 ++ (V2 ++ Q))))))) nx (hfr' _) ?_ ?_
      · refine W_cond (by rfl) (fun hb3 => ?_) (fun hb3 => ?_)
        · simp only [Bool.and_eq_true, decide_eq_true_eq] at hb3
          repeat' (first | refine WK_go ?_ | refine W_seqL ?_ | refine W_seq ?_ | refine W_block ?_ | ((first | refine W_regL ?_ | refine W_skip ?_ | refine W_exit ?_); simp (maxSteps := 400000) (disch := omega) only [push_cast, ↓reduceIte, reduceCtorEq, Nat.reduceAdd, Nat.reduceSub, Nat.reduceEqDiff, Nat.reduceLeDiff, Nat.reduceLT, Nat.reduceBEq, Nat.reduceDiv, Nat.reduceMod, Nat.reducePow, Nat.reduceMul, Int.reduceToNat, Int.reduceLT, Int.reduceLE, keepL]) | refine And.intro (by omega) ?_ | refine And.intro (by intro hq; (try simp only [Bool.and_eq_true, Bool.or_eq_true, Bool.and_eq_false_iff, Bool.or_eq_false_iff, decide_eq_true_eq, decide_eq_false_iff_not, Bool.not_eq_true', Bool.not_eq_false', beq_iff_eq, beq_eq_false_iff_ne, ne_eq] at hq); omega) ?_ | fail)
          refine CallC.inl (i125 (P ++ U1) U2 V1 (V2 ++ Q) (lm_set_same _ _ _) (fun j hj => hfr' _ j (by dsimp only at hj; omega)) (by omega) (by omega) (by omega) (by rw [← hL0, ← t5, ← t6]; simp) rfl (by rw [List.length_append]; omega) (by rw [List.length_append]; omega) (by rw [List.length_append]; omega) ?_)
          simp (maxSteps := 400000) (disch := omega) only [push_cast, ↓reduceIte, reduceCtorEq, Nat.reduceAdd, Nat.reduceSub, Nat.reduceEqDiff, Nat.reduceLeDiff, Nat.reduceLT, Nat.reduceBEq, Nat.reduceDiv, Nat.reduceMod, Nat.reducePow, Nat.reduceMul, Int.reduceToNat, Int.reduceLT, Int.reduceLE]
          repeat' (first | refine WK_go ?_ | refine W_seqL ?_ | refine W_seq ?_ | refine W_block ?_ | ((first | refine W_regL ?_ | refine W_skip ?_ | refine W_exit ?_); simp (maxSteps := 400000) (disch := omega) only [push_cast, ↓reduceIte, reduceCtorEq, Nat.reduceAdd, Nat.reduceSub, Nat.reduceEqDiff, Nat.reduceLeDiff, Nat.reduceLT, Nat.reduceBEq, Nat.reduceDiv, Nat.reduceMod, Nat.reducePow, Nat.reduceMul, Int.reduceToNat, Int.reduceLT, Int.reduceLE, keepL, List.append_assoc]) | refine And.intro (by omega) ?_ | refine And.intro (by intro hq; (try simp only [Bool.and_eq_true, Bool.or_eq_true, Bool.and_eq_false_iff, Bool.or_eq_false_iff, decide_eq_true_eq, decide_eq_false_iff_not, Bool.not_eq_true', Bool.not_eq_false', beq_iff_eq, beq_eq_false_iff_ne, ne_eq] at hq); omega) ?_ | fail)
          rw [List.append_assoc]
        · simp only [Bool.and_eq_false_iff, decide_eq_false_iff_not] at hb3
          have hL2 : L0 = P ++ (U1 ++ (V1 ++ (U2 ++ (V2 ++ Q)))) := by
            rw [← hL0, ← t5, ← t6]
            by_cases z : U2.length = 0
            · rw [List.length_eq_zero_iff.1 z]; simp
            · have z2 : V1.length = 0 := by omega
              rw [List.length_eq_zero_iff.1 z2]; simp
          repeat' (first | refine WK_go ?_ | refine W_seqL ?_ | refine W_seq ?_ | refine W_block ?_ | ((first | refine W_regL ?_ | refine W_skip ?_ | refine W_exit ?_); simp (maxSteps := 400000) (disch := omega) only [push_cast, ↓reduceIte, reduceCtorEq, Nat.reduceAdd, Nat.reduceSub, Nat.reduceEqDiff, Nat.reduceLeDiff, Nat.reduceLT, Nat.reduceBEq, Nat.reduceDiv, Nat.reduceMod, Nat.reducePow, Nat.reduceMul, Int.reduceToNat, Int.reduceLT, Int.reduceLE, keepL]) | refine And.intro (by omega) ?_ | refine And.intro (by intro hq; (try simp only [Bool.and_eq_true, Bool.or_eq_true, Bool.and_eq_false_iff, Bool.or_eq_false_iff, decide_eq_true_eq, decide_eq_false_iff_not, Bool.not_eq_true', Bool.not_eq_false', beq_iff_eq, beq_eq_false_iff_ne, ne_eq] at hq); omega) ?_ | fail)
          rw [hL2]
      simp (maxSteps := 400000) (disch := omega) only [push_cast, ↓reduceIte, reduceCtorEq, Nat.reduceAdd, Nat.reduceSub, Nat.reduceEqDiff, Nat.reduceLeDiff, Nat.reduceLT, Nat.reduceBEq, Nat.reduceDiv, Nat.reduceMod, Nat.reducePow, Nat.reduceMul, Int.reduceToNat, Int.reduceLT, Int.reduceLE, keepL]
      repeat' (first | refine WK_go ?_ | refine W_seqL ?_ | refine W_seq ?_ | refine W_block ?_ | ((first | refine W_regL ?_ | refine W_skip ?_ | refine W_exit ?_); simp (maxSteps := 400000) (disch := omega) only [push_cast, ↓reduceIte, reduceCtorEq, Nat.reduceAdd, Nat.reduceSub, Nat.reduceEqDiff, Nat.reduceLeDiff, Nat.reduceLT, Nat.reduceBEq, Nat.reduceDiv, Nat.reduceMod, Nat.reducePow, Nat.reduceMul, Int.reduceToNat, Int.reduceLT, Int.reduceLE, keepL]) | refine And.intro (by omega) ?_ | refine And.intro (by intro hq; (try simp only [Bool.and_eq_true, Bool.or_eq_true, Bool.and_eq_false_iff, Bool.or_eq_false_iff, decide_eq_true_eq, decide_eq_false_iff_not, Bool.not_eq_true', Bool.not_eq_false', beq_iff_eq, beq_eq_false_iff_ne, ne_eq] at hq); omega) ?_ | fail)
      refine W_meetM [] (setm M k (rF st (P ++ (mrg lt U1 V1 ++ (U2 ++ (V2 ++ Q)))))) nx (hfr' _) ?_ ?_
      · refine W_cond (by rfl) (fun hb4 => ?_) (fun hb4 => ?_)
        · simp only [Bool.and_eq_true, decide_eq_true_eq] at hb4
          repeat' (first | refine WK_go ?_ | refine W_seqL ?_ | refine W_seq ?_ | refine W_block ?_ | ((first | refine W_regL ?_ | refine W_skip ?_ | refine W_exit ?_); simp (maxSteps := 400000) (disch := omega) only [push_cast, ↓reduceIte, reduceCtorEq, Nat.reduceAdd, Nat.reduceSub, Nat.reduceEqDiff, Nat.reduceLeDiff, Nat.reduceLT, Nat.reduceBEq, Nat.reduceDiv, Nat.reduceMod, Nat.reducePow, Nat.reduceMul, Int.reduceToNat, Int.reduceLT, Int.reduceLE, keepL]) | refine And.intro (by omega) ?_ | refine And.intro (by intro hq; (try simp only [Bool.and_eq_true, Bool.or_eq_true, Bool.and_eq_false_iff, Bool.or_eq_false_iff, decide_eq_true_eq, decide_eq_false_iff_not, Bool.not_eq_true', Bool.not_eq_false', beq_iff_eq, beq_eq_false_iff_ne, ne_eq] at hq); omega) ?_ | fail)
          refine CallC.inl (i119 ih P U1 V1 (U2 ++ (V2 ++ Q)) (lm_set_same _ _ _) (fun j hj => hfr' _ j (by dsimp only at hj; omega)) (by simp only [List.length_append]; omega) (by omega) (by omega) (by omega) t7 t9 rfl rfl (by omega) (by omega) (by omega) ?_)
          simp (maxSteps := 400000) (disch := omega) only [push_cast, ↓reduceIte, reduceCtorEq, Nat.reduceAdd, Nat.reduceSub, Nat.reduceEqDiff, Nat.reduceLeDiff, Nat.reduceLT, Nat.reduceBEq, Nat.reduceDiv, Nat.reduceMod, Nat.reducePow, Nat.reduceMul, Int.reduceToNat, Int.reduceLT, Int.reduceLE]
          repeat' (first | refine WK_go ?_ | refine W_seqL ?_ | refine W_seq ?_ | refine W_block ?_ | ((first | refine W_regL ?_ | refine W_skip ?_ | refine W_exit ?_); simp (maxSteps := 400000) (disch := omega) only [push_cast, ↓reduceIte, reduceCtorEq, Nat.reduceAdd, Nat.reduceSub, Nat.reduceEqDiff, Nat.reduceLeDiff, Nat.reduceLT, Nat.reduceBEq, Nat.reduceDiv, Nat.reduceMod, Nat.reducePow, Nat.reduceMul, Int.reduceToNat, Int.reduceLT, Int.reduceLE, keepL]) | refine And.intro (by omega) ?_ | refine And.intro (by intro hq; (try simp only [Bool.and_eq_true, Bool.or_eq_true, Bool.and_eq_false_iff, Bool.or_eq_false_iff, decide_eq_true_eq, decide_eq_false_iff_not, Bool.not_eq_true', Bool.not_eq_false', beq_iff_eq, beq_eq_false_iff_ne, ne_eq] at hq); omega) ?_ | fail)
        · simp only [Bool.and_eq_false_iff, decide_eq_false_iff_not] at hb4
          have hL3 : mrg lt U1 V1 = U1 ++ V1 := by
            by_cases z : U1.length = 0
            · rw [List.length_eq_zero_iff.1 z, nil_mrg]; rfl
            · have z2 : V1.length = 0 := by omega
              rw [List.length_eq_zero_iff.1 z2, mrg_nil, List.append_nil]
          repeat' (first | refine WK_go ?_ | refine W_seqL ?_ | refine W_seq ?_ | refine W_block ?_ | ((first | refine W_regL ?_ | refine W_skip ?_ | refine W_exit ?_); simp (maxSteps := 400000) (disch := omega) only [push_cast, ↓reduceIte, reduceCtorEq, Nat.reduceAdd, Nat.reduceSub, Nat.reduceEqDiff, Nat.reduceLeDiff, Nat.reduceLT, Nat.reduceBEq, Nat.reduceDiv, Nat.reduceMod, Nat.reducePow, Nat.reduceMul, Int.reduceToNat, Int.reduceLT, Int.reduceLE, keepL]) | refine And.intro (by omega) ?_ | refine And.intro (by intro hq; (try simp only [Bool.and_eq_true, Bool.or_eq_true, Bool.and_eq_false_iff, Bool.or_eq_false_iff, decide_eq_true_eq, decide_eq_false_iff_not, Bool.not_eq_true', Bool.not_eq_false', beq_iff_eq, beq_eq_false_iff_ne, ne_eq] at hq); omega) ?_ | fail)
          rw [hL3, List.append_assoc]
      simp (maxSteps := 400000) (disch := omega) only [push_cast, ↓reduceIte, reduceCtorEq, Nat.reduceAdd, Nat.reduceSub, Nat.reduceEqDiff, Nat.reduceLeDiff, Nat.reduceLT, Nat.reduceBEq, Nat.reduceDiv, Nat.reduceMod, Nat.reducePow, Nat.reduceMul, Int.reduceToNat, Int.reduceLT, Int.reduceLE, keepL]
      repeat' (first | refine WK_go ?_ | refine W_seqL ?_ | refine W_seq ?_ | refine W_block ?_ | ((first | refine W_regL ?_ | refine W_skip ?_ | refine W_exit ?_); simp (maxSteps := 400000) (disch := omega) only [push_cast, ↓reduceIte, reduceCtorEq, Nat.reduceAdd, Nat.reduceSub, Nat.reduceEqDiff, Nat.reduceLeDiff, Nat.reduceLT, Nat.reduceBEq, Nat.reduceDiv, Nat.reduceMod, Nat.reducePow, Nat.reduceMul, Int.reduceToNat, Int.reduceLT, Int.reduceLE, keepL]) | refine And.intro (by omega) ?_ | refine And.intro (by intro hq; (try simp only [Bool.and_eq_true, Bool.or_eq_true, Bool.and_eq_false_iff, Bool.or_eq_false_iff, decide_eq_true_eq, decide_eq_false_iff_not, Bool.not_eq_true', Bool.not_eq_false', beq_iff_eq, beq_eq_false_iff_ne, ne_eq] at hq); omega) ?_ | fail)
      have hfin : P ++ (mrg lt U V ++ Q) = (P ++ mrg lt U1 V1) ++ (mrg lt U2 V2 ++ Q) := by rw [hsp]; simp
      rw [hfin]
      refine W_cond (by rfl) (fun hb4 => ?_) (fun hb4 => ?_)
      · simp only [Bool.and_eq_true, decide_eq_true_eq] at hb4
        repeat' (first | refine WK_go ?_ | refine W_seqL ?_ | refine W_seq ?_ | refine W_block ?_ | ((first | refine W_regL ?_ | refine W_skip ?_ | refine W_exit ?_); simp (maxSteps := 400000) (disch := omega) only [push_cast, ↓reduceIte, reduceCtorEq, Nat.reduceAdd, Nat.reduceSub, Nat.reduceEqDiff, Nat.reduceLeDiff, Nat.reduceLT, Nat.reduceBEq, Nat.reduceDiv, Nat.reduceMod, Nat.reducePow, Nat.reduceMul, Int.reduceToNat, Int.reduceLT, Int.reduceLE, keepL]) | refine And.intro (by omega) ?_ | refine And.intro (by intro hq; (try simp only [Bool.and_eq_true, Bool.or_eq_true, Bool.and_eq_false_iff, Bool.or_eq_false_iff, decide_eq_true_eq, decide_eq_false_iff_not, Bool.not_eq_true', Bool.not_eq_false', beq_iff_eq, beq_eq_false_iff_ne, ne_eq] at hq); omega) ?_ | fail)
        refine CallC.inl (i119 ih (P ++ mrg lt U1 V1) U2 V2 Q (lm_set_same _ _ _) (fun j hj => hfr' _ j (by dsimp only at hj; omega)) (by simp only [List.length_append]; omega) (by omega) (by omega) (by omega) t8 t10 (by simp) rfl (by rw [List.length_append]; omega) (by rw [List.length_append]; omega) (by rw [List.length_append]; omega) ?_)
        simp (maxSteps := 400000) (disch := omega) only [push_cast, ↓reduceIte, reduceCtorEq, Nat.reduceAdd, Nat.reduceSub, Nat.reduceEqDiff, Nat.reduceLeDiff, Nat.reduceLT, Nat.reduceBEq, Nat.reduceDiv, Nat.reduceMod, Nat.reducePow, Nat.reduceMul, Int.reduceToNat, Int.reduceLT, Int.reduceLE]
        repeat' (first | refine WK_go ?_ | refine W_seqL ?_ | refine W_seq ?_ | refine W_block ?_ | ((first | refine W_regL ?_ | refine W_skip ?_ | refine W_exit ?_); simp (maxSteps := 400000) (disch := omega) only [push_cast, ↓reduceIte, reduceCtorEq, Nat.reduceAdd, Nat.reduceSub, Nat.reduceEqDiff, Nat.reduceLeDiff, Nat.reduceLT, Nat.reduceBEq, Nat.reduceDiv, Nat.reduceMod, Nat.reducePow, Nat.reduceMul, Int.reduceToNat, Int.reduceLT, Int.reduceLE, keepL]) | refine And.intro (by omega) ?_ | refine And.intro (by intro hq; (try simp only [Bool.and_eq_true, Bool.or_eq_true, Bool.and_eq_false_iff, Bool.or_eq_false_iff, decide_eq_true_eq, decide_eq_false_iff_not, Bool.not_eq_true', Bool.not_eq_false', beq_iff_eq, beq_eq_false_iff_ne, ne_eq] at hq); omega) ?_ | fail)
      · simp only [Bool.and_eq_false_iff, decide_eq_false_iff_not] at hb4
        have hL3 : mrg lt U2 V2 = U2 ++ V2 := by
          by_cases z : U2.length = 0
          · rw [List.length_eq_zero_iff.1 z, nil_mrg]; rfl
          · have z2 : V2.length = 0 := by omega
            rw [List.length_eq_zero_iff.1 z2, mrg_nil, List.append_nil]
        rw [hL3]
        repeat' (first | refine WK_go ?_ | refine W_seqL ?_ | refine W_seq ?_ | refine W_block ?_ | ((first | refine W_regL ?_ | refine W_skip ?_ | refine W_exit ?_); simp (maxSteps := 400000) (disch := omega) only [push_cast, ↓reduceIte, reduceCtorEq, Nat.reduceAdd, Nat.reduceSub, Nat.reduceEqDiff, Nat.reduceLeDiff, Nat.reduceLT, Nat.reduceBEq, Nat.reduceDiv, Nat.reduceMod, Nat.reducePow, Nat.reduceMul, Int.reduceToNat, Int.reduceLT, Int.reduceLE, keepL]) | refine And.intro (by omega) ?_ | refine And.intro (by intro hq; (try simp only [Bool.and_eq_true, Bool.or_eq_true, Bool.and_eq_false_iff, Bool.or_eq_false_iff, decide_eq_true_eq, decide_eq_false_iff_not, Bool.not_eq_true', Bool.not_eq_false', beq_iff_eq, beq_eq_false_iff_ne, ne_eq] at hq); omega) ?_ | fail)
        simp only [List.append_assoc]
end Go.Proofs.Ytbdnnicodailcaa

/- Stable sorting, walked. -/
namespace Go.Proofs.Ytbdnnicodailcaa
open Go Sy
set_option maxRecDepth 100000
set_option maxHeartbeats 4000000
set_option linter.unusedVariables false
set_option linter.unusedSimpArgs false
theorem i118 {gc : Nat} {ca : List AV} {lt : Frc → Frc → Bool} {cv : Frc → Frc → Int} (hw : SW lt) (hfz : frzAll ca = true) (hcv : ∀ x y, lt x y = decide (cv x y < 0))
    (hg : ∀ x y, Sy.Fn Try.prog gc (.agg (cF x) :: .agg (cF y) :: ca) (iv (cv x y))) {s : S} {k st : Nat} {L L' : List Frc} (P U Q : List Frc) {a b : Int} {K : AV → S → Prop} (hk : lm s.mem k = some (rF st L)) (hfr : ∀ j, s.nx ≤ j → lm s.mem j = none) (hlen : L.length ≤ 1000000)
    (hL : L = P ++ (U ++ Q)) (hL' : P ++ (isort lt U ++ Q) = L') (ha : a = P.length) (hb : b = P.length + U.length) (hK : K (.tup []) ⟨s.tm, setm s.mem k (rF st L'), s.nx⟩) :
    Inl Try.prog 118 [.row k st, iv a, iv b, .clo gc [] ca] s K := by
  subst ha hb hL'
  subst hL
  simp only [List.length_append] at hlen
  exact Inl_row mixed Xt118 rfl hk hfr (fun M nx h1 h2 => w118 hw hfz hcv hg P U Q (by omega) h1 h2) hK
theorem w103 {M : List (Nat × Blk)} {k st nx : Nat} {gc : Nat} {ca : List AV} {lt : Frc → Frc → Bool} {cv : Frc → Frc → Int} (hw : SW lt) (hfz : frzAll ca = true) (hcv : ∀ x y, lt x y = decide (cv x y < 0))
    (hg : ∀ x y, Sy.Fn Try.prog gc (.agg (cF x) :: .agg (cF y) :: ca) (iv (cv x y))) (L : List Frc) (hlen : L.length ≤ 1000000) (hk : k < nx) (hfr : ∀ j, nx ≤ j → lm M j = none) :
    W Try.prog 63 Xn103_0 ⟨initT 0 [.row k st, iv L.length, .clo gc [] ca], setm M k (rF st L), nx⟩
      (fun e s' => (e = .n ∨ e = .r) ∧ s'.mem = setm M k (rF st (isort lt L))) := by
  have hfr' : ∀ b : Blk, ∀ j, nx ≤ j → lm (setm M k b) j = none := fun b j hj => by rw [lm_set_other _ _ (by omega)]; exact hfr j hj
  have hsym := w119 hw hfz hcv hg L.length
  simp (maxSteps := 400000) (disch := omega) only [push_cast, ↓reduceIte, reduceCtorEq, Nat.reduceAdd, Nat.reduceSub, Nat.reduceEqDiff, Nat.reduceLeDiff, Nat.reduceLT, Nat.reduceBEq, Nat.reduceDiv, Nat.reduceMod, Nat.reducePow, Nat.reduceMul, Int.reduceToNat, Int.reduceLT, Int.reduceLE, initT]
  repeat' (first | refine WK_go ?_ | refine W_seqL ?_ | refine W_seq ?_ | refine W_block ?_ | ((first | refine W_regL ?_ | refine W_skip ?_ | refine W_exit ?_); simp (maxSteps := 400000) (disch := omega) only [push_cast, ↓reduceIte, reduceCtorEq, Nat.reduceAdd, Nat.reduceSub, Nat.reduceEqDiff, Nat.reduceLeDiff, Nat.reduceLT, Nat.reduceBEq, Nat.reduceDiv, Nat.reduceMod, Nat.reducePow, Nat.reduceMul, Int.reduceToNat, Int.reduceLT, Int.reduceLE]) | refine And.intro (by omega) ?_ | refine And.intro (by intro hq; (try simp only [Bool.and_eq_true, Bool.or_eq_true, Bool.and_eq_false_iff, Bool.or_eq_false_iff, decide_eq_true_eq, decide_eq_false_iff_not, Bool.not_eq_true', Bool.not_eq_false', beq_iff_eq, beq_eq_false_iff_ne, ne_eq] at hq); omega) ?_ | fail)
  refine W_loopM (fun q : List Frc × List Frc => [(7, iv q.1.length), (8, iv ((q.1.length : Int) + 20))]) (fun q => setm M k (rF st (q.1 ++ q.2))) (fun q => q.1.length + q.2.length = L.length ∧ q.1 ++ chS lt 20 q.2 = chS lt 20 L) (fun q => q.2.length) nx (fun c _ => hfr' _) ([], L) ⟨by simp, by simp⟩ (by rfl) (by rfl) (fun q hq => ?_)
  obtain ⟨A, R⟩ := q
  obtain ⟨h1, h2⟩ := hq
  simp only at h1 h2
  simp (maxSteps := 400000) (disch := omega) only [push_cast, ↓reduceIte, reduceCtorEq, Nat.reduceAdd, Nat.reduceSub, Nat.reduceEqDiff, Nat.reduceLeDiff, Nat.reduceLT, Nat.reduceBEq, Nat.reduceDiv, Nat.reduceMod, Nat.reducePow, Nat.reduceMul, Int.reduceToNat, Int.reduceLT, Int.reduceLE, keepL]
  repeat' (first | refine WK_go ?_ | refine W_seqL ?_ | refine W_seq ?_ | refine W_block ?_ | ((first | refine W_regL ?_ | refine W_skip ?_ | refine W_exit ?_); simp (maxSteps := 400000) (disch := omega) only [push_cast, ↓reduceIte, reduceCtorEq, Nat.reduceAdd, Nat.reduceSub, Nat.reduceEqDiff, Nat.reduceLeDiff, Nat.reduceLT, Nat.reduceBEq, Nat.reduceDiv, Nat.reduceMod, Nat.reducePow, Nat.reduceMul, Int.reduceToNat, Int.reduceLT, Int.reduceLE, keepL]) | refine And.intro (by omega) ?_ | refine And.intro (by intro hq; (try simp only [Bool.and_eq_true, Bool.or_eq_true, Bool.and_eq_false_iff, Bool.or_eq_false_iff, decide_eq_true_eq, decide_eq_false_iff_not, Bool.not_eq_true', Bool.not_eq_false', beq_iff_eq, beq_eq_false_iff_ne, ne_eq] at hq); omega) ?_ | fail)
  refine W_condD (by rfl) (fun h5 => ?_) (fun h5 => ?_)
  · have hR : 20 ≤ R.length := by omega
    have t1 : (R.take 20).length = 20 := by rw [List.length_take]; omega
    have t2 : (R.drop 20).length = R.length - 20 := List.length_drop
    have t3 : (isort lt (R.take 20)).length = 20 := by rw [isort_len, t1]
    have hch := chS_eq (lt := lt) (n := 20) (by omega) R
    repeat' (first | refine WK_go ?_ | refine W_seqL ?_ | refine W_seq ?_ | refine W_block ?_ | ((first | refine W_regL ?_ | refine W_skip ?_ | refine W_exit ?_); simp (maxSteps := 400000) (disch := omega) only [push_cast, ↓reduceIte, reduceCtorEq, Nat.reduceAdd, Nat.reduceSub, Nat.reduceEqDiff, Nat.reduceLeDiff, Nat.reduceLT, Nat.reduceBEq, Nat.reduceDiv, Nat.reduceMod, Nat.reducePow, Nat.reduceMul, Int.reduceToNat, Int.reduceLT, Int.reduceLE, keepL]) | refine And.intro (by omega) ?_ | refine And.intro (by intro hq; (try simp only [Bool.and_eq_true, Bool.or_eq_true, Bool.and_eq_false_iff, Bool.or_eq_false_iff, decide_eq_true_eq, decide_eq_false_iff_not, Bool.not_eq_true', Bool.not_eq_false', beq_iff_eq, beq_eq_false_iff_ne, ne_eq] at hq); omega) ?_ | fail)
    refine CallC.inl (i118 hw hfz hcv hg A (R.take 20) (R.drop 20) (lm_set_same _ _ _) (fun j hj => hfr' _ j (by dsimp only at hj; omega)) (by rw [List.length_append]; omega) (by rw [List.take_append_drop]) rfl (by omega) (by omega) ?_)
    simp (maxSteps := 400000) (disch := omega) only [push_cast, ↓reduceIte, reduceCtorEq, Nat.reduceAdd, Nat.reduceSub, Nat.reduceEqDiff, Nat.reduceLeDiff, Nat.reduceLT, Nat.reduceBEq, Nat.reduceDiv, Nat.reduceMod, Nat.reducePow, Nat.reduceMul, Int.reduceToNat, Int.reduceLT, Int.reduceLE]
    repeat' (first | refine WK_go ?_ | refine W_seqL ?_ | refine W_seq ?_ | refine W_block ?_ | ((first | refine W_regL ?_ | refine W_skip ?_ | refine W_exit ?_); simp (maxSteps := 400000) (disch := omega) only [push_cast, ↓reduceIte, reduceCtorEq, Nat.reduceAdd, Nat.reduceSub, Nat.reduceEqDiff, Nat.reduceLeDiff, Nat.reduceLT, Nat.reduceBEq, Nat.reduceDiv, Nat.reduceMod, Nat.reducePow, Nat.reduceMul, Int.reduceToNat, Int.reduceLT, Int.reduceLE, keepL]) | refine And.intro (by omega) ?_ | refine And.intro (by intro hq; (try simp only [Bool.and_eq_true, Bool.or_eq_true, Bool.and_eq_false_iff, Bool.or_eq_false_iff, decide_eq_true_eq, decide_eq_false_iff_not, Bool.not_eq_true', Bool.not_eq_false', beq_iff_eq, beq_eq_false_iff_ne, ne_eq] at hq); omega) ?_ | fail)
    have t4 : (A ++ isort lt (R.take 20)).length = A.length + 20 := by rw [List.length_append, t3]
    refine ⟨(A ++ isort lt (R.take 20), R.drop 20), ⟨by dsimp only; omega, ?_⟩, by dsimp only; omega, ?_, ?_⟩
    · dsimp only
      rw [← h2, hch, List.append_assoc]
    · dsimp only
      rw [t4]; rfl
    · dsimp only
      rw [List.append_assoc]
  · have hR : R.length < 20 := by omega
    have hch : chS lt 20 R = isort lt R := chS_one (by omega)
    repeat' (first | refine WK_go ?_ | refine W_seqL ?_ | refine W_seq ?_ | refine W_block ?_ | ((first | refine W_regL ?_ | refine W_skip ?_ | refine W_exit ?_); simp (maxSteps := 400000) (disch := omega) only [push_cast, ↓reduceIte, reduceCtorEq, Nat.reduceAdd, Nat.reduceSub, Nat.reduceEqDiff, Nat.reduceLeDiff, Nat.reduceLT, Nat.reduceBEq, Nat.reduceDiv, Nat.reduceMod, Nat.reducePow, Nat.reduceMul, Int.reduceToNat, Int.reduceLT, Int.reduceLE, keepL]) | refine And.intro (by omega) ?_ | refine And.intro (by intro hq; (try simp only [Bool.and_eq_true, Bool.or_eq_true, Bool.and_eq_false_iff, Bool.or_eq_false_iff, decide_eq_true_eq, decide_eq_false_iff_not, Bool.not_eq_true', Bool.not_eq_false', beq_iff_eq, beq_eq_false_iff_ne, ne_eq] at hq); omega) ?_ | fail)
    refine CallC.inl (i118 hw hfz hcv hg A R [] (lm_set_same _ _ _) (fun j hj => hfr' _ j (by dsimp only at hj; omega)) (by rw [List.length_append]; omega) (by rw [List.append_nil]) (L' := chS lt 20 L) (by rw [← h2, hch, List.append_nil]) (by omega) (by omega) ?_)
    simp (maxSteps := 400000) (disch := omega) only [push_cast, ↓reduceIte, reduceCtorEq, Nat.reduceAdd, Nat.reduceSub, Nat.reduceEqDiff, Nat.reduceLeDiff, Nat.reduceLT, Nat.reduceBEq, Nat.reduceDiv, Nat.reduceMod, Nat.reducePow, Nat.reduceMul, Int.reduceToNat, Int.reduceLT, Int.reduceLE]
    repeat' (first | refine WK_go ?_ | refine W_seqL ?_ | refine W_seq ?_ | refine W_block ?_ | ((first | refine W_regL ?_ | refine W_skip ?_ | refine W_exit ?_); simp (maxSteps := 400000) (disch := omega) only [push_cast, ↓reduceIte, reduceCtorEq, Nat.reduceAdd, Nat.reduceSub, Nat.reduceEqDiff, Nat.reduceLeDiff, Nat.reduceLT, Nat.reduceBEq, Nat.reduceDiv, Nat.reduceMod, Nat.reducePow, Nat.reduceMul, Int.reduceToNat, Int.reduceLT, Int.reduceLE, keepL]) | refine And.intro (by omega) ?_ | refine And.intro (by intro hq; (try simp only [Bool.and_eq_true, Bool.or_eq_true, Bool.and_eq_false_iff, Bool.or_eq_false_iff, decide_eq_true_eq, decide_eq_false_iff_not, Bool.not_eq_true', Bool.not_eq_false', beq_iff_eq, beq_eq_false_iff_ne, ne_eq] at hq); omega) ?_ | fail)
    refine W_loopM (fun q : Nat => [(6, iv q)]) (fun q => setm M k (rF st (chS lt q L))) (fun q => 20 ≤ q ∧ (q = 20 ∨ q ≤ 2 * L.length)) (fun q => L.length - q) nx (fun c _ => hfr' _) 20 ⟨by omega, .inl rfl⟩ (by rfl) (by rfl) (fun q hq => ?_)
    obtain ⟨g1, g2⟩ := hq
    simp (maxSteps := 400000) (disch := omega) only [push_cast, ↓reduceIte, reduceCtorEq, Nat.reduceAdd, Nat.reduceSub, Nat.reduceEqDiff, Nat.reduceLeDiff, Nat.reduceLT, Nat.reduceBEq, Nat.reduceDiv, Nat.reduceMod, Nat.reducePow, Nat.reduceMul, Int.reduceToNat, Int.reduceLT, Int.reduceLE, keepL]
    repeat' (first | refine WK_go ?_ | refine W_seqL ?_ | refine W_seq ?_ | refine W_block ?_ | ((first | refine W_regL ?_ | refine W_skip ?_ | refine W_exit ?_); simp (maxSteps := 400000) (disch := omega) only [push_cast, ↓reduceIte, reduceCtorEq, Nat.reduceAdd, Nat.reduceSub, Nat.reduceEqDiff, Nat.reduceLeDiff, Nat.reduceLT, Nat.reduceBEq, Nat.reduceDiv, Nat.reduceMod, Nat.reducePow, Nat.reduceMul, Int.reduceToNat, Int.reduceLT, Int.reduceLE, keepL]) | refine And.intro (by omega) ?_ | refine And.intro (by intro hq; (try simp only [Bool.and_eq_true, Bool.or_eq_true, Bool.and_eq_false_iff, Bool.or_eq_false_iff, decide_eq_true_eq, decide_eq_false_iff_not, Bool.not_eq_true', Bool.not_eq_false', beq_iff_eq, beq_eq_false_iff_ne, ne_eq] at hq); omega) ?_ | fail)
    refine W_condD (by rfl) (fun h6 => ?_) (fun h6 => ?_)
    · have hqL : q < L.length := by omega
      repeat' (first | refine WK_go ?_ | refine W_seqL ?_ | refine W_seq ?_ | refine W_block ?_ | ((first | refine W_regL ?_ | refine W_skip ?_ | refine W_exit ?_); simp (maxSteps := 400000) (disch := omega) only [push_cast, ↓reduceIte, reduceCtorEq, Nat.reduceAdd, Nat.reduceSub, Nat.reduceEqDiff, Nat.reduceLeDiff, Nat.reduceLT, Nat.reduceBEq, Nat.reduceDiv, Nat.reduceMod, Nat.reducePow, Nat.reduceMul, Int.reduceToNat, Int.reduceLT, Int.reduceLE, keepL]) | refine And.intro (by omega) ?_ | refine And.intro (by intro hq; (try simp only [Bool.and_eq_true, Bool.or_eq_true, Bool.and_eq_false_iff, Bool.or_eq_false_iff, decide_eq_true_eq, decide_eq_false_iff_not, Bool.not_eq_true', Bool.not_eq_false', beq_iff_eq, beq_eq_false_iff_ne, ne_eq] at hq); omega) ?_ | fail)
      refine W_loopM (fun p : List Frc × List Frc => [(7, iv p.1.length), (8, iv ((p.1.length : Int) + 2 * q))]) (fun p => setm M k (rF st (p.1 ++ chS lt q p.2))) (fun p => p.1.length + p.2.length = L.length ∧ p.1 ++ chS lt (2 * q) p.2 = chS lt (2 * q) L) (fun p => p.2.length) nx (fun c _ => hfr' _) ([], L) ⟨by simp, by simp⟩ (by
        have : ((([] : List Frc).length : Int) + 2 * q) = 2 * q := by simp
        dsimp only
        rw [this]; rfl) (by rfl) (fun p hp => ?_)
      clear h1 h2 h5 hR hch A R
      obtain ⟨A, R⟩ := p
      obtain ⟨h1, h2⟩ := hp
      simp only at h1 h2
      have hcl : (A ++ chS lt q R).length = L.length := by rw [List.length_append, chS_len (by omega) R.length R (Nat.le_refl _)]; exact h1
      simp (maxSteps := 400000) (disch := omega) only [push_cast, ↓reduceIte, reduceCtorEq, Nat.reduceAdd, Nat.reduceSub, Nat.reduceEqDiff, Nat.reduceLeDiff, Nat.reduceLT, Nat.reduceBEq, Nat.reduceDiv, Nat.reduceMod, Nat.reducePow, Nat.reduceMul, Int.reduceToNat, Int.reduceLT, Int.reduceLE, keepL]
      repeat' (first | refine WK_go ?_ | refine W_seqL ?_ | refine W_seq ?_ | refine W_block ?_ | ((first | refine W_regL ?_ | refine W_skip ?_ | refine W_exit ?_); simp (maxSteps := 400000) (disch := omega) only [push_cast, ↓reduceIte, reduceCtorEq, Nat.reduceAdd, Nat.reduceSub, Nat.reduceEqDiff, Nat.reduceLeDiff, Nat.reduceLT, Nat.reduceBEq, Nat.reduceDiv, Nat.reduceMod, Nat.reducePow, Nat.reduceMul, Int.reduceToNat, Int.reduceLT, Int.reduceLE, keepL]) | refine And.intro (by omega) ?_ | refine And.intro (by intro hq; (try simp only [Bool.and_eq_true, Bool.or_eq_true, Bool.and_eq_false_iff, Bool.or_eq_false_iff, decide_eq_true_eq, decide_eq_false_iff_not, Bool.not_eq_true', Bool.not_eq_false', beq_iff_eq, beq_eq_false_iff_ne, ne_eq] at hq); omega) ?_ | fail)
      refine W_condD (by rfl) (fun h7 => ?_) (fun h7 => ?_)
      · have hR : 2 * q ≤ R.length := by omega
        have c1 := chS_eq (lt := lt) (n := q) (by omega) R
        have c2 := chS_eq (lt := lt) (n := q) (by omega) (R.drop q)
        have c3 := chS_eq (lt := lt) (n := 2 * q) (by omega) R
        have c4 : R.take q ++ (R.drop q).take q = R.take (2 * q) := by rw [Nat.two_mul, List.take_add]
        have c5 : (R.drop q).drop q = R.drop (2 * q) := by rw [List.drop_drop, Nat.two_mul]
        have l1 : (isort lt (R.take q)).length = q := by rw [isort_len, List.length_take]; omega
        have l2 : (isort lt ((R.drop q).take q)).length = q := by rw [isort_len, List.length_take, List.length_drop]; omega
        have l3 : (isort lt (R.take (2 * q))).length = 2 * q := by rw [isort_len, List.length_take]; omega
        have l4 : (R.drop (2 * q)).length = R.length - 2 * q := List.length_drop
        have c6 := mrg_isort hw (R.take q) ((R.drop q).take q)
        have s1 := srt_isort hw (R.take q)
        have s2 := srt_isort hw ((R.drop q).take q)
        rw [c4] at c6
        rw [c5] at c2
        rw [c2] at c1
        repeat' (first | refine WK_go ?_ | refine W_seqL ?_ | refine W_seq ?_ | refine W_block ?_ | ((first | refine W_regL ?_ | refine W_skip ?_ | refine W_exit ?_); simp (maxSteps := 400000) (disch := omega) only [push_cast, ↓reduceIte, reduceCtorEq, Nat.reduceAdd, Nat.reduceSub, Nat.reduceEqDiff, Nat.reduceLeDiff, Nat.reduceLT, Nat.reduceBEq, Nat.reduceDiv, Nat.reduceMod, Nat.reducePow, Nat.reduceMul, Int.reduceToNat, Int.reduceLT, Int.reduceLE, keepL]) | refine And.intro (by omega) ?_ | refine And.intro (by intro hq; (try simp only [Bool.and_eq_true, Bool.or_eq_true, Bool.and_eq_false_iff, Bool.or_eq_false_iff, decide_eq_true_eq, decide_eq_false_iff_not, Bool.not_eq_true', Bool.not_eq_false', beq_iff_eq, beq_eq_false_iff_ne, ne_eq] at hq); omega) ?_ | fail)
        refine CallC.inl (i119 hsym A (isort lt (R.take q)) (isort lt ((R.drop q).take q)) (chS lt q (R.drop (2 * q))) (lm_set_same _ _ _) (fun j hj => hfr' _ j (by dsimp only at hj; omega)) (by omega) (by omega) (by omega) (by omega) s1 s2 (by rw [c1]) rfl (by omega) (by omega) (by omega) ?_)
        rw [c6]
        simp (maxSteps := 400000) (disch := omega) only [push_cast, ↓reduceIte, reduceCtorEq, Nat.reduceAdd, Nat.reduceSub, Nat.reduceEqDiff, Nat.reduceLeDiff, Nat.reduceLT, Nat.reduceBEq, Nat.reduceDiv, Nat.reduceMod, Nat.reducePow, Nat.reduceMul, Int.reduceToNat, Int.reduceLT, Int.reduceLE]
        repeat' (first | refine WK_go ?_ | refine W_seqL ?_ | refine W_seq ?_ | refine W_block ?_ | ((first | refine W_regL ?_ | refine W_skip ?_ | refine W_exit ?_); simp (maxSteps := 400000) (disch := omega) only [push_cast, ↓reduceIte, reduceCtorEq, Nat.reduceAdd, Nat.reduceSub, Nat.reduceEqDiff, Nat.reduceLeDiff, Nat.reduceLT, Nat.reduceBEq, Nat.reduceDiv, Nat.reduceMod, Nat.reducePow, Nat.reduceMul, Int.reduceToNat, Int.reduceLT, Int.reduceLE, keepL]) | refine And.intro (by omega) ?_ | refine And.intro (by intro hq; (try simp only [Bool.and_eq_true, Bool.or_eq_true, Bool.and_eq_false_iff, Bool.or_eq_false_iff, decide_eq_true_eq, decide_eq_false_iff_not, Bool.not_eq_true', Bool.not_eq_false', beq_iff_eq, beq_eq_false_iff_ne, ne_eq] at hq); omega) ?_ | fail)
        have t4 : (A ++ isort lt (R.take (2 * q))).length = A.length + 2 * q := by rw [List.length_append, l3]
        refine ⟨(A ++ isort lt (R.take (2 * q)), R.drop (2 * q)), ⟨by dsimp only; omega, ?_⟩, by dsimp only; omega, ?_, ?_⟩
        · dsimp only
          rw [← h2, c3, List.append_assoc]
        · dsimp only
          rw [t4]
          have e1 : ((A.length + 2 * q : Nat) : Int) = A.length + 2 * q := by omega
          rw [e1]
        · dsimp only
          rw [List.append_assoc]
      · have hR : R.length < 2 * q := by omega
        have c3 : chS lt (2 * q) R = isort lt R := chS_one (by omega)
        rw [c3] at h2
        repeat' (first | refine WK_go ?_ | refine W_seqL ?_ | refine W_seq ?_ | refine W_block ?_ | ((first | refine W_regL ?_ | refine W_skip ?_ | refine W_exit ?_); simp (maxSteps := 400000) (disch := omega) only [push_cast, ↓reduceIte, reduceCtorEq, Nat.reduceAdd, Nat.reduceSub, Nat.reduceEqDiff, Nat.reduceLeDiff, Nat.reduceLT, Nat.reduceBEq, Nat.reduceDiv, Nat.reduceMod, Nat.reducePow, Nat.reduceMul, Int.reduceToNat, Int.reduceLT, Int.reduceLE, keepL]) | refine And.intro (by omega) ?_ | refine And.intro (by intro hq; (try simp only [Bool.and_eq_true, Bool.or_eq_true, Bool.and_eq_false_iff, Bool.or_eq_false_iff, decide_eq_true_eq, decide_eq_false_iff_not, Bool.not_eq_true', Bool.not_eq_false', beq_iff_eq, beq_eq_false_iff_ne, ne_eq] at hq); omega) ?_ | fail)
        refine W_meetM [] (setm M k (rF st (chS lt (2 * q) L))) nx (hfr' _) ?_ ?_
        · refine W_condD (by rfl) (fun h8 => ?_) (fun h8 => ?_)
          · have hR2 : q < R.length := by omega
            have c1 := chS_eq (lt := lt) (n := q) (by omega) R
            have l0 : (R.drop q).length = R.length - q := List.length_drop
            have c2 : chS lt q (R.drop q) = isort lt (R.drop q) := chS_one (by omega)
            have l1 : (isort lt (R.take q)).length = q := by rw [isort_len, List.length_take]; omega
            have l2 : (isort lt (R.drop q)).length = R.length - q := by rw [isort_len, l0]
            have c6 := mrg_isort hw (R.take q) (R.drop q)
            rw [List.take_append_drop] at c6
            have s1 := srt_isort hw (R.take q)
            have s2 := srt_isort hw (R.drop q)
            rw [c2] at c1
            repeat' (first | refine WK_go ?_ | refine W_seqL ?_ | refine W_seq ?_ | refine W_block ?_ | ((first | refine W_regL ?_ | refine W_skip ?_ | refine W_exit ?_); simp (maxSteps := 400000) (disch := omega) only [push_cast, ↓reduceIte, reduceCtorEq, Nat.reduceAdd, Nat.reduceSub, Nat.reduceEqDiff, Nat.reduceLeDiff, Nat.reduceLT, Nat.reduceBEq, Nat.reduceDiv, Nat.reduceMod, Nat.reducePow, Nat.reduceMul, Int.reduceToNat, Int.reduceLT, Int.reduceLE, keepL]) | refine And.intro (by omega) ?_ | refine And.intro (by intro hq; (try simp only [Bool.and_eq_true, Bool.or_eq_true, Bool.and_eq_false_iff, Bool.or_eq_false_iff, decide_eq_true_eq, decide_eq_false_iff_not, Bool.not_eq_true', Bool.not_eq_false', beq_iff_eq, beq_eq_false_iff_ne, ne_eq] at hq); omega) ?_ | fail)
            refine CallC.inl (i119 hsym A (isort lt (R.take q)) (isort lt (R.drop q)) [] (lm_set_same _ _ _) (fun j hj => hfr' _ j (by dsimp only at hj; omega)) (by omega) (by omega) (by omega) (by omega) s1 s2 (by rw [c1, List.append_nil]) (L' := chS lt (2 * q) L) (by rw [c6, List.append_nil]; exact h2) (by omega) (by omega) (by omega) ?_)
            simp (maxSteps := 400000) (disch := omega) only [push_cast, ↓reduceIte, reduceCtorEq, Nat.reduceAdd, Nat.reduceSub, Nat.reduceEqDiff, Nat.reduceLeDiff, Nat.reduceLT, Nat.reduceBEq, Nat.reduceDiv, Nat.reduceMod, Nat.reducePow, Nat.reduceMul, Int.reduceToNat, Int.reduceLT, Int.reduceLE]
            repeat' (first | refine WK_go ?_ | refine W_seqL ?_ | refine W_seq ?_ | refine W_block ?_ | ((first | refine W_regL ?_ | refine W_skip ?_ | refine W_exit ?_); simp (maxSteps := 400000) (disch := omega) only [push_cast, ↓reduceIte, reduceCtorEq, Nat.reduceAdd, Nat.reduceSub, Nat.reduceEqDiff, Nat.reduceLeDiff, Nat.reduceLT, Nat.reduceBEq, Nat.reduceDiv, Nat.reduceMod, Nat.reducePow, Nat.reduceMul, Int.reduceToNat, Int.reduceLT, Int.reduceLE, keepL]) | refine And.intro (by omega) ?_ | refine And.intro (by intro hq; (try simp only [Bool.and_eq_true, Bool.or_eq_true, Bool.and_eq_false_iff, Bool.or_eq_false_iff, decide_eq_true_eq, decide_eq_false_iff_not, Bool.not_eq_true', Bool.not_eq_false', beq_iff_eq, beq_eq_false_iff_ne, ne_eq] at hq); omega) ?_ | fail)
          · have hR2 : R.length ≤ q := by omega
            have c1 : chS lt q R = isort lt R := chS_one hR2
            rw [c1, h2]
            repeat' (first | refine WK_go ?_ | refine W_seqL ?_ | refine W_seq ?_ | refine W_block ?_ | ((first | refine W_regL ?_ | refine W_skip ?_ | refine W_exit ?_); simp (maxSteps := 400000) (disch := omega) only [push_cast, ↓reduceIte, reduceCtorEq, Nat.reduceAdd, Nat.reduceSub, Nat.reduceEqDiff, Nat.reduceLeDiff, Nat.reduceLT, Nat.reduceBEq, Nat.reduceDiv, Nat.reduceMod, Nat.reducePow, Nat.reduceMul, Int.reduceToNat, Int.reduceLT, Int.reduceLE, keepL]) | refine And.intro (by omega) ?_ | refine And.intro (by intro hq; (try simp only [Bool.and_eq_true, Bool.or_eq_true, Bool.and_eq_false_iff, Bool.or_eq_false_iff, decide_eq_true_eq, decide_eq_false_iff_not, Bool.not_eq_true', Bool.not_eq_false', beq_iff_eq, beq_eq_false_iff_ne, ne_eq] at hq); omega) ?_ | fail)
        simp (maxSteps := 400000) (disch := omega) only [push_cast, ↓reduceIte, reduceCtorEq, Nat.reduceAdd, Nat.reduceSub, Nat.reduceEqDiff, Nat.reduceLeDiff, Nat.reduceLT, Nat.reduceBEq, Nat.reduceDiv, Nat.reduceMod, Nat.reducePow, Nat.reduceMul, Int.reduceToNat, Int.reduceLT, Int.reduceLE, keepL]
        repeat' (first | refine WK_go ?_ | refine W_seqL ?_ | refine W_seq ?_ | refine W_block ?_ | ((first | refine W_regL ?_ | refine W_skip ?_ | refine W_exit ?_); simp (maxSteps := 400000) (disch := omega) only [push_cast, ↓reduceIte, reduceCtorEq, Nat.reduceAdd, Nat.reduceSub, Nat.reduceEqDiff, Nat.reduceLeDiff, Nat.reduceLT, Nat.reduceBEq, Nat.reduceDiv, Nat.reduceMod, Nat.reducePow, Nat.reduceMul, Int.reduceToNat, Int.reduceLT, Int.reduceLE, keepL]) | refine And.intro (by omega) ?_ | refine And.intro (by intro hq; (try simp only [Bool.and_eq_true, Bool.or_eq_true, Bool.and_eq_false_iff, Bool.or_eq_false_iff, decide_eq_true_eq, decide_eq_false_iff_not, Bool.not_eq_true', Bool.not_eq_false', beq_iff_eq, beq_eq_false_iff_ne, ne_eq] at hq); omega) ?_ | fail)
        refine ⟨2 * q, ⟨by omega, .inr (by omega)⟩, by omega, ?_, rfl⟩
        rw [show ((2 * q : Nat) : Int) = q * 2 by omega]
    · have hqL : chS lt q L = isort lt L := chS_one (by omega)
      rw [hqL]
      repeat' (first | refine WK_go ?_ | refine W_seqL ?_ | refine W_seq ?_ | refine W_block ?_ | ((first | refine W_regL ?_ | refine W_skip ?_ | refine W_exit ?_); simp (maxSteps := 400000) (disch := omega) only [push_cast, ↓reduceIte, reduceCtorEq, Nat.reduceAdd, Nat.reduceSub, Nat.reduceEqDiff, Nat.reduceLeDiff, Nat.reduceLT, Nat.reduceBEq, Nat.reduceDiv, Nat.reduceMod, Nat.reducePow, Nat.reduceMul, Int.reduceToNat, Int.reduceLT, Int.reduceLE, keepL]) | refine And.intro (by omega) ?_ | refine And.intro (by intro hq; (try simp only [Bool.and_eq_true, Bool.or_eq_true, Bool.and_eq_false_iff, Bool.or_eq_false_iff, decide_eq_true_eq, decide_eq_false_iff_not, Bool.not_eq_true', Bool.not_eq_false', beq_iff_eq, beq_eq_false_iff_ne, ne_eq] at hq); omega) ?_ | fail)
theorem i77 {gc : Nat} {ca : List AV} {lt : Frc → Frc → Bool} {cv : Frc → Frc → Int} (hw : SW lt) (hfz : frzAll ca = true) (hcv : ∀ x y, lt x y = decide (cv x y < 0))
    (hg : ∀ x y, Sy.Fn Try.prog gc (.agg (cF x) :: .agg (cF y) :: ca) (iv (cv x y))) {s : S} {k st : Nat} {L : List Frc} {K : AV → S → Prop} (hk : lm s.mem k = some (rF st L)) (hfr : ∀ j, s.nx ≤ j → lm s.mem j = none) (hlen : L.length ≤ 1000000)
    (hK : K (.tup []) ⟨s.tm, setm s.mem k (rF st (isort lt L)), s.nx⟩) : Inl Try.prog 77 [.row k st, .clo gc [] ca] s K := by
  refine Inl_row mixed Xt77 rfl hk hfr (fun M nx h1 h2 => ?_) hK
  have hfr' : ∀ b : Blk, ∀ j, nx ≤ j → lm (setm M k b) j = none := fun b j hj => by rw [lm_set_other _ _ (by omega)]; exact h2 j hj
  simp (maxSteps := 400000) (disch := omega) only [push_cast, ↓reduceIte, reduceCtorEq, Nat.reduceAdd, Nat.reduceSub, Nat.reduceEqDiff, Nat.reduceLeDiff, Nat.reduceLT, Nat.reduceBEq, Nat.reduceDiv, Nat.reduceMod, Nat.reducePow, Nat.reduceMul, Int.reduceToNat, Int.reduceLT, Int.reduceLE, initT]
  repeat' (first | refine WK_go ?_ | refine W_seqL ?_ | refine W_seq ?_ | refine W_block ?_ | ((first | refine W_regL ?_ | refine W_skip ?_ | refine W_exit ?_); simp (maxSteps := 400000) (disch := omega) only [push_cast, ↓reduceIte, reduceCtorEq, Nat.reduceAdd, Nat.reduceSub, Nat.reduceEqDiff, Nat.reduceLeDiff, Nat.reduceLT, Nat.reduceBEq, Nat.reduceDiv, Nat.reduceMod, Nat.reducePow, Nat.reduceMul, Int.reduceToNat, Int.reduceLT, Int.reduceLE]) | refine And.intro (by omega) ?_ | refine And.intro (by intro hq; (try simp only [Bool.and_eq_true, Bool.or_eq_true, Bool.and_eq_false_iff, Bool.or_eq_false_iff, decide_eq_true_eq, decide_eq_false_iff_not, Bool.not_eq_true', Bool.not_eq_false', beq_iff_eq, beq_eq_false_iff_ne, ne_eq] at hq); omega) ?_ | fail)
  refine CallC.inl (Inl_row mixed Xt103 rfl (lm_set_same _ _ _) (fun j hj => hfr' _ j (by dsimp only at hj; omega)) (fun M' nx' h1 h2 => w103 hw hfz hcv hg L hlen h1 h2) ?_)
  simp (maxSteps := 400000) (disch := omega) only [push_cast, ↓reduceIte, reduceCtorEq, Nat.reduceAdd, Nat.reduceSub, Nat.reduceEqDiff, Nat.reduceLeDiff, Nat.reduceLT, Nat.reduceBEq, Nat.reduceDiv, Nat.reduceMod, Nat.reducePow, Nat.reduceMul, Int.reduceToNat, Int.reduceLT, Int.reduceLE]
  repeat' (first | refine WK_go ?_ | refine W_seqL ?_ | refine W_seq ?_ | refine W_block ?_ | ((first | refine W_regL ?_ | refine W_skip ?_ | refine W_exit ?_); simp (maxSteps := 400000) (disch := omega) only [push_cast, ↓reduceIte, reduceCtorEq, Nat.reduceAdd, Nat.reduceSub, Nat.reduceEqDiff, Nat.reduceLeDiff, Nat.reduceLT, Nat.reduceBEq, Nat.reduceDiv, Nat.reduceMod, Nat.reducePow, Nat.reduceMul, Int.reduceToNat, Int.reduceLT, Int.reduceLE, keepL]) | refine And.intro (by omega) ?_ | refine And.intro (by intro hq; (try simp only [Bool.and_eq_true, Bool.or_eq_true, Bool.and_eq_false_iff, Bool.or_eq_false_iff, decide_eq_true_eq, decide_eq_false_iff_not, Bool.not_eq_true', Bool.not_eq_false', beq_iff_eq, beq_eq_false_iff_ne, ne_eq] at hq); omega) ?_ | fail)
end Go.Proofs.Ytbdnnicodailcaa

/- Searching lists. -/
namespace Go.Proofs.Ytbdnnicodailcaa
open Go Sy
set_option maxRecDepth 100000
set_option maxHeartbeats 4000000
set_option linter.unusedVariables false
set_option linter.unusedSimpArgs false
def idxF {α : Type} (p : α → Bool) : List α → Int → Int
  | [], _ => -1
  | x :: r, i => if p x then i else idxF p r (i + 1)
theorem idxF_at {α : Type} (p : α → Bool) (d : α) : ∀ (l : List α) (i : Nat) (k : Int), i < l.length → (∀ j, j < i → p (l.getD j d) = false) → p (l.getD i d) = true → idxF p l k = k + i
  | [], i, k, h, _, _ => by simp at h
  | x :: r, 0, k, _, _, h => by simp at h; simp [idxF, h]
  | x :: r, i + 1, k, h, hj, hp => by
    have h0 : p x = false := by simpa using hj 0 (by omega)
    have := idxF_at p d r i (k + 1) (by simpa using h) (fun j hlt => by simpa using hj (j + 1) (by omega)) (by simpa using hp)
    simp only [idxF, h0, Bool.false_eq_true, if_false, this]
    omega
theorem idxF_none {α : Type} (p : α → Bool) (d : α) : ∀ (l : List α) (k : Int), (∀ j, j < l.length → p (l.getD j d) = false) → idxF p l k = -1
  | [], k, _ => rfl
  | x :: r, k, h => by
    have h0 : p x = false := by simpa using h 0 (by simp)
    have := idxF_none p d r (k + 1) (fun j hlt => by simpa using h (j + 1) (by simpa using hlt))
    simp only [idxF, h0, Bool.false_eq_true, if_false, this]
theorem idxF_any {α : Type} (p : α → Bool) : ∀ (l : List α) (k : Int), 0 ≤ k → decide (0 ≤ idxF p l k) = l.any p
  | [], k, _ => by simp [idxF]
  | x :: r, k, h => by
    simp only [idxF, List.any_cons]
    by_cases hp : p x = true
    · simp [hp, h]
    · simp only [hp]
      simpa using idxF_any p r (k + 1) (by omega)
theorem fn124 (l : List Int) (hl : l.length ≤ 1000000) (g : Nat) (fi ca : List AV) (p : Int → Bool) (hg : ∀ x ∈ l, Sy.Fn Try.prog g (fi ++ [iv x] ++ ca) (bv (p x))) : Sy.Fn Try.prog 124 [.sl 1 0 cI l, .clo g fi ca] (iv (idxF p l 0)) := by
  refine Fn_of_W mixed Xt124 rfl ?_
  repeat' (first | refine WK_go ?_ | refine W_seqL ?_ | refine W_seq ?_ | refine W_block ?_ | ((first | refine W_regL ?_ | refine W_skip ?_ | refine W_exit ?_); simp (maxSteps := 400000) (disch := omega) only [push_cast, ↓reduceIte, reduceCtorEq, Nat.reduceAdd, Nat.reduceSub, Nat.reduceEqDiff, Nat.reduceLeDiff, Nat.reduceLT, Nat.reduceBEq, Nat.reduceDiv, Nat.reduceMod, Nat.reducePow, Nat.reduceMul, Int.reduceToNat, Int.reduceLT, Int.reduceLE]) | refine And.intro (by omega) ?_ | refine And.intro (by intro hq; (try simp only [Bool.and_eq_true, Bool.or_eq_true, Bool.and_eq_false_iff, Bool.or_eq_false_iff, decide_eq_true_eq, decide_eq_false_iff_not, Bool.not_eq_true', Bool.not_eq_false', beq_iff_eq, beq_eq_false_iff_ne, ne_eq] at hq); omega) ?_ | fail)
  refine W_loopU (fun i : Nat => [(8, iv i)]) (fun i => []) (fun i => i ≤ l.length ∧ ∀ j, j < i → p (l.getD j 0) = false) (fun i => l.length - i) 0 ⟨by omega, fun j hj => by omega⟩ (by rfl) (by rfl) (fun i hi => ?_)
  obtain ⟨hi, hp⟩ := hi
  simp (maxSteps := 400000) (disch := omega) only [push_cast, ↓reduceIte, reduceCtorEq, Nat.reduceAdd, Nat.reduceSub, Nat.reduceEqDiff, Nat.reduceLeDiff, Nat.reduceLT, Nat.reduceBEq, Nat.reduceDiv, Nat.reduceMod, Nat.reducePow, Nat.reduceMul, Int.reduceToNat, Int.reduceLT, Int.reduceLE]
  repeat' (first | refine WK_go ?_ | refine W_seqL ?_ | refine W_seq ?_ | refine W_block ?_ | ((first | refine W_regL ?_ | refine W_skip ?_ | refine W_exit ?_); simp (maxSteps := 400000) (disch := omega) only [push_cast, ↓reduceIte, reduceCtorEq, Nat.reduceAdd, Nat.reduceSub, Nat.reduceEqDiff, Nat.reduceLeDiff, Nat.reduceLT, Nat.reduceBEq, Nat.reduceDiv, Nat.reduceMod, Nat.reducePow, Nat.reduceMul, Int.reduceToNat, Int.reduceLT, Int.reduceLE]) | refine And.intro (by omega) ?_ | refine And.intro (by intro hq; (try simp only [Bool.and_eq_true, Bool.or_eq_true, Bool.and_eq_false_iff, Bool.or_eq_false_iff, decide_eq_true_eq, decide_eq_false_iff_not, Bool.not_eq_true', Bool.not_eq_false', beq_iff_eq, beq_eq_false_iff_ne, ne_eq] at hq); omega) ?_ | fail)
  refine W_condD (by rfl) (fun h => ?_) (fun h => ?_)
  · have hlt : i < l.length := by omega
    have cg := hg _ (getD_mem 0 l i hlt)
    repeat' (first | refine WK_go ?_ | refine W_seqL ?_ | refine W_seq ?_ | refine W_block ?_ | ((first | refine W_regL ?_ | refine W_skip ?_ | refine W_exit ?_ | refine CallC.now (cg) ?_); simp (maxSteps := 400000) (disch := omega) only [push_cast, ↓reduceIte, reduceCtorEq, Nat.reduceAdd, Nat.reduceSub, Nat.reduceEqDiff, Nat.reduceLeDiff, Nat.reduceLT, Nat.reduceBEq, Nat.reduceDiv, Nat.reduceMod, Nat.reducePow, Nat.reduceMul, Int.reduceToNat, Int.reduceLT, Int.reduceLE]) | refine And.intro (by omega) ?_ | refine And.intro (by intro hq; (try simp only [Bool.and_eq_true, Bool.or_eq_true, Bool.and_eq_false_iff, Bool.or_eq_false_iff, decide_eq_true_eq, decide_eq_false_iff_not, Bool.not_eq_true', Bool.not_eq_false', beq_iff_eq, beq_eq_false_iff_ne, ne_eq] at hq); omega) ?_ | fail)
    refine W_cond (by rfl) (fun hb => ?_) (fun hb => ?_)
    · repeat' (first | refine WK_go ?_ | refine W_seqL ?_ | refine W_seq ?_ | refine W_block ?_ | ((first | refine W_regL ?_ | refine W_skip ?_ | refine W_exit ?_); simp (maxSteps := 400000) (disch := omega) only [push_cast, ↓reduceIte, reduceCtorEq, Nat.reduceAdd, Nat.reduceSub, Nat.reduceEqDiff, Nat.reduceLeDiff, Nat.reduceLT, Nat.reduceBEq, Nat.reduceDiv, Nat.reduceMod, Nat.reducePow, Nat.reduceMul, Int.reduceToNat, Int.reduceLT, Int.reduceLE]) | refine And.intro (by omega) ?_ | refine And.intro (by intro hq; (try simp only [Bool.and_eq_true, Bool.or_eq_true, Bool.and_eq_false_iff, Bool.or_eq_false_iff, decide_eq_true_eq, decide_eq_false_iff_not, Bool.not_eq_true', Bool.not_eq_false', beq_iff_eq, beq_eq_false_iff_ne, ne_eq] at hq); omega) ?_ | fail)
      exact W_ret ⟨[_], ⟨rfl, rfl⟩, by rw [idxF_at p 0 l i 0 hlt hp hb, Int.zero_add]; rfl⟩
    · repeat' (first | refine WK_go ?_ | refine W_seqL ?_ | refine W_seq ?_ | refine W_block ?_ | ((first | refine W_regL ?_ | refine W_skip ?_ | refine W_exit ?_); simp (maxSteps := 400000) (disch := omega) only [push_cast, ↓reduceIte, reduceCtorEq, Nat.reduceAdd, Nat.reduceSub, Nat.reduceEqDiff, Nat.reduceLeDiff, Nat.reduceLT, Nat.reduceBEq, Nat.reduceDiv, Nat.reduceMod, Nat.reducePow, Nat.reduceMul, Int.reduceToNat, Int.reduceLT, Int.reduceLE]) | refine And.intro (by omega) ?_ | refine And.intro (by intro hq; (try simp only [Bool.and_eq_true, Bool.or_eq_true, Bool.and_eq_false_iff, Bool.or_eq_false_iff, decide_eq_true_eq, decide_eq_false_iff_not, Bool.not_eq_true', Bool.not_eq_false', beq_iff_eq, beq_eq_false_iff_ne, ne_eq] at hq); omega) ?_ | fail)
      refine ⟨i + 1, ⟨by omega, up_all hp hb⟩, by omega, by rfl, ?_⟩
      simp (maxSteps := 400000) (disch := omega) only [push_cast, ↓reduceIte, reduceCtorEq, Nat.reduceAdd, Nat.reduceSub, Nat.reduceEqDiff, Nat.reduceLeDiff, Nat.reduceLT, Nat.reduceBEq, Nat.reduceDiv, Nat.reduceMod, Nat.reducePow, Nat.reduceMul, Int.reduceToNat, Int.reduceLT, Int.reduceLE, S.mk.injEq, List.cons.injEq, Prod.mk.injEq, AV.v.injEq, Value.int.injEq, Value.bool.injEq, Blk.cells.injEq]
  · repeat' (first | refine WK_go ?_ | refine W_seqL ?_ | refine W_seq ?_ | refine W_block ?_ | ((first | refine W_regL ?_ | refine W_skip ?_ | refine W_exit ?_); simp (maxSteps := 400000) (disch := omega) only [push_cast, ↓reduceIte, reduceCtorEq, Nat.reduceAdd, Nat.reduceSub, Nat.reduceEqDiff, Nat.reduceLeDiff, Nat.reduceLT, Nat.reduceBEq, Nat.reduceDiv, Nat.reduceMod, Nat.reducePow, Nat.reduceMul, Int.reduceToNat, Int.reduceLT, Int.reduceLE]) | refine And.intro (by omega) ?_ | refine And.intro (by intro hq; (try simp only [Bool.and_eq_true, Bool.or_eq_true, Bool.and_eq_false_iff, Bool.or_eq_false_iff, decide_eq_true_eq, decide_eq_false_iff_not, Bool.not_eq_true', Bool.not_eq_false', beq_iff_eq, beq_eq_false_iff_ne, ne_eq] at hq); omega) ?_ | fail)
    exact W_ret ⟨[_], ⟨rfl, rfl⟩, by rw [idxF_none p 0 l 0 (fun j hj => hp j (by omega))]; rfl⟩
theorem fn115 (l : List Int) (hl : l.length ≤ 1000000) (g : Nat) (fi ca : List AV) (p : Int → Bool) (hg : ∀ x ∈ l, Sy.Fn Try.prog g (fi ++ [iv x] ++ ca) (bv (p x))) : Sy.Fn Try.prog 115 [.sl 1 0 cI l, .clo g fi ca] (bv (l.any p)) := by
  refine Fn_of_W mixed Xt115 rfl ?_
  repeat' (first | refine WK_go ?_ | refine W_seqL ?_ | refine W_seq ?_ | refine W_block ?_ | ((first | refine W_regL ?_ | refine W_skip ?_ | refine W_exit ?_ | refine CallC.now (fn124 l hl g fi ca p hg) ?_); simp (maxSteps := 400000) (disch := omega) only [push_cast, ↓reduceIte, reduceCtorEq, Nat.reduceAdd, Nat.reduceSub, Nat.reduceEqDiff, Nat.reduceLeDiff, Nat.reduceLT, Nat.reduceBEq, Nat.reduceDiv, Nat.reduceMod, Nat.reducePow, Nat.reduceMul, Int.reduceToNat, Int.reduceLT, Int.reduceLE]) | refine And.intro (by omega) ?_ | refine And.intro (by intro hq; (try simp only [Bool.and_eq_true, Bool.or_eq_true, Bool.and_eq_false_iff, Bool.or_eq_false_iff, decide_eq_true_eq, decide_eq_false_iff_not, Bool.not_eq_true', Bool.not_eq_false', beq_iff_eq, beq_eq_false_iff_ne, ne_eq] at hq); omega) ?_ | fail)
  exact W_ret ⟨[_], ⟨rfl, rfl⟩, by rw [← idxF_any p l 0 (by omega)]; rfl⟩
end Go.Proofs.Ytbdnnicodailcaa

/- Names: the library's search in a string. -/
namespace Go.Proofs.Ytbdnnicodailcaa
open Go Sy
set_option maxRecDepth 100000
set_option maxHeartbeats 4000000
set_option linter.unusedVariables false
set_option linter.unusedSimpArgs false
def rho : Go.Shelf.Ren := ⟨fun f => if f = 315 then 126 else 0, fun t => if t = 40 then 139 else t, fun g => g⟩
theorem lays : Lays.n315 Try.prog rho where
  mixed := mixed
  f315 := by kernel_rfl
  t0 := by kernel_rfl
  a0 := fun w => by kernel_rfl
  z0 := fun w => by kernel_rfl
  v0 := fun w => by kernel_rfl
  t3 := by kernel_rfl
  a3 := fun w => by kernel_rfl
  z3 := fun w => by kernel_rfl
  v3 := fun w => by kernel_rfl
  t4 := by kernel_rfl
  a4 := fun w => by kernel_rfl
  z4 := fun w => by kernel_rfl
  v4 := fun w => by kernel_rfl
  t9 := by kernel_rfl
  a9 := fun w => by kernel_rfl
  z9 := fun w => by kernel_rfl
  v9 := fun w => by kernel_rfl
  t21 := by kernel_rfl
  a21 := fun w => by kernel_rfl
  z21 := fun w => by kernel_rfl
  v21 := fun w => by kernel_rfl
  t40 := by kernel_rfl
  a40 := fun w => by kernel_rfl
  z40 := fun w => by kernel_rfl
  v40 := fun w => by kernel_rfl
abbrev stv (s : ByteArray) : AV := .v (.string s)
theorem fn126 (s : ByteArray) (g : Nat) (p : Nat → Bool) (hg : ∀ x : Nat, x ≤ 1114111 → Sy.Fn Try.prog g [.v (.int .i32 x)] (bv (p x))) : Sy.Fn Try.prog 126 [stv s, .clo g [] [], bv true] (iv (Lib.idxFunc p true s)) := by
  refine ⟨by kernel_rfl, fun A w vs hA hvs => ?_⟩
  simp only [fsatT, fsat] at hvs
  obtain ⟨x1, r1, rfl, rfl, x2, r2, rfl, ⟨fv, cv, rfl, rfl, rfl⟩, x3, r3, rfl, rfl, rfl⟩ := hvs
  have hp : PredGrows Try.prog g #[] p w := fun W x hx _ => by
    refine ((hg x hx).2 (fun _ => False) W [.int .i32 x] (fun b h => h.elim) (by simp [fsatT, fsat])).mono ?_
    rintro e w' ⟨v, rfl, hb, hv⟩
    simp only [fsat] at hv
    exact ⟨by rw [hv], hb⟩
  have h := Any.strings_indexFunc_grows lays g #[] (fun args w => run_callFunc (hg 0 (by omega)).1) p true s w hp
  refine h.mono ?_
  rintro e w' ⟨rfl, hb⟩
  exact ⟨_, rfl, hb, by simp only [fsat]⟩
theorem fn123 (s : ByteArray) (g : Nat) (p : Nat → Bool) (hg : ∀ x : Nat, x ≤ 1114111 → Sy.Fn Try.prog g [.v (.int .i32 x)] (bv (p x))) : Sy.Fn Try.prog 123 [stv s, .clo g [] []] (iv (Lib.idxFunc p true s)) := by
  refine Fn_of_W mixed Xt123 rfl ?_
  repeat' (first | refine WK_go ?_ | refine W_seqL ?_ | refine W_seq ?_ | refine W_block ?_ | ((first | refine W_regL ?_ | refine W_skip ?_ | refine W_exit ?_ | refine CallC.now (fn126 s g p hg) ?_); simp (maxSteps := 400000) (disch := omega) only [push_cast, ↓reduceIte, reduceCtorEq, Nat.reduceAdd, Nat.reduceSub, Nat.reduceEqDiff, Nat.reduceLeDiff, Nat.reduceLT, Nat.reduceBEq, Nat.reduceDiv, Nat.reduceMod, Nat.reducePow, Nat.reduceMul, Int.reduceToNat, Int.reduceLT, Int.reduceLE]) | refine And.intro (by omega) ?_ | refine And.intro (by intro hq; (try simp only [Bool.and_eq_true, Bool.or_eq_true, Bool.and_eq_false_iff, Bool.or_eq_false_iff, decide_eq_true_eq, decide_eq_false_iff_not, Bool.not_eq_true', Bool.not_eq_false', beq_iff_eq, beq_eq_false_iff_ne, ne_eq] at hq); omega) ?_ | fail)
  exact W_ret ⟨[_], ⟨rfl, rfl⟩, rfl⟩
theorem fn113 (s : ByteArray) (g : Nat) (p : Nat → Bool) (hg : ∀ x : Nat, x ≤ 1114111 → Sy.Fn Try.prog g [.v (.int .i32 x)] (bv (p x))) : Sy.Fn Try.prog 113 [stv s, .clo g [] []] (bv (decide (0 ≤ Lib.idxFunc p true s))) := by
  refine Fn_of_W mixed Xt113 rfl ?_
  repeat' (first | refine WK_go ?_ | refine W_seqL ?_ | refine W_seq ?_ | refine W_block ?_ | ((first | refine W_regL ?_ | refine W_skip ?_ | refine W_exit ?_ | refine CallC.now (fn123 s g p hg) ?_); simp (maxSteps := 400000) (disch := omega) only [push_cast, ↓reduceIte, reduceCtorEq, Nat.reduceAdd, Nat.reduceSub, Nat.reduceEqDiff, Nat.reduceLeDiff, Nat.reduceLT, Nat.reduceBEq, Nat.reduceDiv, Nat.reduceMod, Nat.reducePow, Nat.reduceMul, Int.reduceToNat, Int.reduceLT, Int.reduceLE]) | refine And.intro (by omega) ?_ | refine And.intro (by intro hq; (try simp only [Bool.and_eq_true, Bool.or_eq_true, Bool.and_eq_false_iff, Bool.or_eq_false_iff, decide_eq_true_eq, decide_eq_false_iff_not, Bool.not_eq_true', Bool.not_eq_false', beq_iff_eq, beq_eq_false_iff_ne, ne_eq] at hq); omega) ?_ | fail)
  exact W_ret ⟨[_], ⟨rfl, rfl⟩, rfl⟩
def okCh (b : Int) : Bool := (decide (97 ≤ b) && decide (b ≤ 122)) || (decide (48 ≤ b) && decide (b ≤ 57))
theorem fn114 (x : Int) : Sy.Fn Try.prog 114 [.v (.int .i32 x)] (bv (!okCh x)) := by
  refine Fn_of_W mixed Xt114 rfl ?_
  repeat' (first | refine WK_go ?_ | refine W_seqL ?_ | refine W_seq ?_ | refine W_block ?_ | ((first | refine W_regL ?_ | refine W_skip ?_ | refine W_exit ?_); simp (maxSteps := 400000) (disch := omega) only [push_cast, ↓reduceIte, reduceCtorEq, Nat.reduceAdd, Nat.reduceSub, Nat.reduceEqDiff, Nat.reduceLeDiff, Nat.reduceLT, Nat.reduceBEq, Nat.reduceDiv, Nat.reduceMod, Nat.reducePow, Nat.reduceMul, Int.reduceToNat, Int.reduceLT, Int.reduceLE]) | refine And.intro (by omega) ?_ | refine And.intro (by intro hq; (try simp only [Bool.and_eq_true, Bool.or_eq_true, Bool.and_eq_false_iff, Bool.or_eq_false_iff, decide_eq_true_eq, decide_eq_false_iff_not, Bool.not_eq_true', Bool.not_eq_false', beq_iff_eq, beq_eq_false_iff_ne, ne_eq] at hq); omega) ?_ | fail)
  have e : ((decide (x < 97) || decide (122 < x)) && (decide (x < 48) || decide (57 < x))) = !okCh x := by
    unfold okCh
    rw [Bool.eq_iff_iff]
    simp only [Bool.and_eq_true, Bool.or_eq_true, decide_eq_true_eq, Bool.not_eq_true', Bool.or_eq_false_iff, Bool.and_eq_false_iff, decide_eq_false_iff_not]
    omega
  rw [e]
  exact W_ret ⟨[_], ⟨rfl, rfl⟩, rfl⟩
theorem get_at (s : ByteArray) (i : Nat) (h : i < s.size) : s.get! i = s[i] := by
  cases s with | mk d =>
  show d[i]! = d[i]
  exact getElem!_pos d i h
theorem byteAt_get (s : ByteArray) (i : Nat) (h : i < s.size) : byteAt s i = (s.get! i).toNat := by
  unfold byteAt
  have h4 : s[i]? = some s[i] := by simp [h]
  rw [h4, get_at s i h]
def chars (s : ByteArray) : Bool := (List.range s.size).all (fun i => okCh (byteAt s i))
theorem idx_ok (s : ByteArray) : ∀ (f pos : Nat), s.size ≤ pos + f → (0 ≤ Lib.idxFuncFrom (fun x => !okCh x) true s f pos ↔ ∃ i, pos ≤ i ∧ i < s.size ∧ okCh (byteAt s i) = false)
  | 0, pos, h => by
    simp only [Lib.idxFuncFrom]
    constructor
    · intro h; omega
    · rintro ⟨i, a, b, _⟩; omega
  | f + 1, pos, h => by
    unfold Lib.idxFuncFrom
    by_cases hp : pos < s.size
    case neg =>
      rw [if_neg hp]
      constructor
      · intro h; omega
      · rintro ⟨i, a, b, _⟩; omega
    rw [if_pos hp]
    have hd := Lib.decode_at s pos
    have hb := byteAt_get s pos hp
    rw [← hb] at hd
    by_cases hc : okCh (byteAt s pos) = true
    · have hlt : byteAt s pos < 128 := by
        unfold okCh at hc
        simp only [Bool.or_eq_true, Bool.and_eq_true, decide_eq_true_eq] at hc
        omega
      have e : Utf8.decode s pos = (byteAt s pos, 1) := by rw [hd]; unfold Lib.decodeN; rw [if_pos hlt]
      rw [e]
      simp only []
      rw [hc, if_neg (by decide), idx_ok s f (pos + 1) (by omega)]
      constructor
      · rintro ⟨i, a, b, d⟩; exact ⟨i, by omega, b, d⟩
      · rintro ⟨i, a, b, d⟩
        refine ⟨i, ?_, b, d⟩
        by_cases q : i = pos
        · subst q; rw [hc] at d; cases d
        · omega
    · have hbad : okCh ((Utf8.decode s pos).1 : Nat) = false := by
        by_cases hlt : byteAt s pos < 128
        · have e : Utf8.decode s pos = (byteAt s pos, 1) := by rw [hd]; unfold Lib.decodeN; rw [if_pos hlt]
          rw [e]; simpa using hc
        · have : 128 ≤ (Utf8.decode s pos).1 := by
            rw [hd]; unfold Lib.decodeN; rw [if_neg hlt]
            repeat' split
            all_goals (simp only []; omega)
          unfold okCh
          rw [Bool.or_eq_false_iff, Bool.and_eq_false_iff, Bool.and_eq_false_iff]
          simp only [decide_eq_false_iff_not]
          omega
      rw [hbad, if_pos (by decide)]
      exact ⟨fun _ => ⟨pos, Nat.le_refl _, hp, by simpa using hc⟩, fun _ => by omega⟩
theorem idx_chars (s : ByteArray) : decide (0 ≤ Lib.idxFunc (fun x => !okCh x) true s) = !chars s := by
  have h := idx_ok s s.size 0 (by omega)
  rw [Bool.eq_iff_iff, decide_eq_true_eq, Bool.not_eq_true']
  unfold Lib.idxFunc chars
  rw [h]
  constructor
  · rintro ⟨i, _, a, b⟩
    rw [← Bool.not_eq_true, List.all_eq_true]
    intro q
    rw [q i (by simpa using a)] at b; cases b
  · intro q
    rw [← Bool.not_eq_true, List.all_eq_true] at q
    apply Classical.byContradiction
    intro hn
    apply q
    intro i hi
    rw [← Bool.not_eq_false]
    intro hb
    exact hn ⟨i, by omega, by simpa using hi, hb⟩
def nameB (s : ByteArray) : Bool := !decide (s.size = 0) && decide (s.size ≤ 20) && chars s
theorem fn100 (s : ByteArray) : Sy.Fn Try.prog 100 [stv s] (bv (nameB s)) := by
  refine Fn_of_W mixed Xt100 rfl ?_
  have c113 := fn113 s 114 (fun x => !okCh x) (fun x _ => fn114 x)
  rw [idx_chars] at c113
  unfold nameB
  repeat' (first | refine WK_go ?_ | refine W_seqL ?_ | refine W_seq ?_ | refine W_block ?_ | ((first | refine W_regL ?_ | refine W_skip ?_ | refine W_exit ?_); simp (maxSteps := 400000) (disch := omega) only [push_cast, ↓reduceIte, reduceCtorEq, Nat.reduceAdd, Nat.reduceSub, Nat.reduceEqDiff, Nat.reduceLeDiff, Nat.reduceLT, Nat.reduceBEq, Nat.reduceDiv, Nat.reduceMod, Nat.reducePow, Nat.reduceMul, Int.reduceToNat, Int.reduceLT, Int.reduceLE]) | refine And.intro (by omega) ?_ | refine And.intro (by intro hq; (try simp only [Bool.and_eq_true, Bool.or_eq_true, Bool.and_eq_false_iff, Bool.or_eq_false_iff, decide_eq_true_eq, decide_eq_false_iff_not, Bool.not_eq_true', Bool.not_eq_false', beq_iff_eq, beq_eq_false_iff_ne, ne_eq] at hq); omega) ?_ | fail)
  refine W_cond (by rfl) (fun h => ?_) (fun h => ?_)
  · have e : (!decide (s.size = 0) && decide (s.size ≤ 20)) = false := by
      rw [Bool.or_eq_true, beq_iff_eq, decide_eq_true_eq] at h
      rw [Bool.and_eq_false_iff, Bool.not_eq_false', decide_eq_true_eq, decide_eq_false_iff_not]
      omega
    rw [e, Bool.false_and]
    repeat' (first | refine WK_go ?_ | refine W_seqL ?_ | refine W_seq ?_ | refine W_block ?_ | ((first | refine W_regL ?_ | refine W_skip ?_ | refine W_exit ?_); simp (maxSteps := 400000) (disch := omega) only [push_cast, ↓reduceIte, reduceCtorEq, Nat.reduceAdd, Nat.reduceSub, Nat.reduceEqDiff, Nat.reduceLeDiff, Nat.reduceLT, Nat.reduceBEq, Nat.reduceDiv, Nat.reduceMod, Nat.reducePow, Nat.reduceMul, Int.reduceToNat, Int.reduceLT, Int.reduceLE]) | refine And.intro (by omega) ?_ | refine And.intro (by intro hq; (try simp only [Bool.and_eq_true, Bool.or_eq_true, Bool.and_eq_false_iff, Bool.or_eq_false_iff, decide_eq_true_eq, decide_eq_false_iff_not, Bool.not_eq_true', Bool.not_eq_false', beq_iff_eq, beq_eq_false_iff_ne, ne_eq] at hq); omega) ?_ | fail)
    exact W_ret ⟨[_], ⟨rfl, rfl⟩, rfl⟩
  · have e : (!decide (s.size = 0) && decide (s.size ≤ 20)) = true := by
      rw [Bool.or_eq_false_iff, beq_eq_false_iff_ne, decide_eq_false_iff_not] at h
      rw [Bool.and_eq_true, Bool.not_eq_true', decide_eq_false_iff_not, decide_eq_true_eq]
      omega
    rw [e, Bool.true_and]
    repeat' (first | refine WK_go ?_ | refine W_seqL ?_ | refine W_seq ?_ | refine W_block ?_ | ((first | refine W_regL ?_ | refine W_skip ?_ | refine W_exit ?_ | refine CallC.now (c113) ?_); simp (maxSteps := 400000) (disch := omega) only [push_cast, ↓reduceIte, reduceCtorEq, Nat.reduceAdd, Nat.reduceSub, Nat.reduceEqDiff, Nat.reduceLeDiff, Nat.reduceLT, Nat.reduceBEq, Nat.reduceDiv, Nat.reduceMod, Nat.reducePow, Nat.reduceMul, Int.reduceToNat, Int.reduceLT, Int.reduceLE]) | refine And.intro (by omega) ?_ | refine And.intro (by intro hq; (try simp only [Bool.and_eq_true, Bool.or_eq_true, Bool.and_eq_false_iff, Bool.or_eq_false_iff, decide_eq_true_eq, decide_eq_false_iff_not, Bool.not_eq_true', Bool.not_eq_false', beq_iff_eq, beq_eq_false_iff_ne, ne_eq] at hq); omega) ?_ | fail)
    rw [Bool.not_not]
    exact W_ret ⟨[_], ⟨rfl, rfl⟩, rfl⟩
end Go.Proofs.Ytbdnnicodailcaa

/- Vehicles: what is valid. -/
namespace Go.Proofs.Ytbdnnicodailcaa
open Go Sy
set_option maxRecDepth 100000
set_option maxHeartbeats 4000000
set_option linter.unusedVariables false
set_option linter.unusedSimpArgs false
theorem chars_no {s : ByteArray} {i : Nat} (hi : i < s.size) (h : okCh (byteAt s i) = false) : chars s = false := by
  rw [← Bool.not_eq_true]
  unfold chars
  rw [List.all_eq_true]
  intro q
  rw [q i (by simpa using hi)] at h; cases h
theorem chars_yes {s : ByteArray} (h : ∀ j, j < s.size → okCh (byteAt s j) = true) : chars s = true := by
  unfold chars
  rw [List.all_eq_true]
  intro j hj
  exact h j (by simpa using hj)
theorem fn105 (s : ByteArray) : Sy.Fn Try.prog 105 [stv s] (bv (nameB s)) := by
  refine Fn_of_W mixed Xt105 rfl ?_
  unfold nameB
  repeat' (first | refine WK_go ?_ | refine W_seqL ?_ | refine W_seq ?_ | refine W_block ?_ | ((first | refine W_regL ?_ | refine W_skip ?_ | refine W_exit ?_); simp (maxSteps := 400000) (disch := omega) only [push_cast, ↓reduceIte, reduceCtorEq, Nat.reduceAdd, Nat.reduceSub, Nat.reduceEqDiff, Nat.reduceLeDiff, Nat.reduceLT, Nat.reduceBEq, Nat.reduceDiv, Nat.reduceMod, Nat.reducePow, Nat.reduceMul, Int.reduceToNat, Int.reduceLT, Int.reduceLE]) | refine And.intro (by omega) ?_ | refine And.intro (by intro hq; (try simp only [Bool.and_eq_true, Bool.or_eq_true, Bool.and_eq_false_iff, Bool.or_eq_false_iff, decide_eq_true_eq, decide_eq_false_iff_not, Bool.not_eq_true', Bool.not_eq_false', beq_iff_eq, beq_eq_false_iff_ne, ne_eq] at hq); omega) ?_ | fail)
  refine W_cond (by rfl) (fun h => ?_) (fun h => ?_)
  · have e : (!decide (s.size = 0) && decide (s.size ≤ 20)) = false := by
      rw [Bool.or_eq_true, decide_eq_true_eq, decide_eq_true_eq] at h
      rw [Bool.and_eq_false_iff, Bool.not_eq_false', decide_eq_true_eq, decide_eq_false_iff_not]
      omega
    rw [e, Bool.false_and]
    repeat' (first | refine WK_go ?_ | refine W_seqL ?_ | refine W_seq ?_ | refine W_block ?_ | ((first | refine W_regL ?_ | refine W_skip ?_ | refine W_exit ?_); simp (maxSteps := 400000) (disch := omega) only [push_cast, ↓reduceIte, reduceCtorEq, Nat.reduceAdd, Nat.reduceSub, Nat.reduceEqDiff, Nat.reduceLeDiff, Nat.reduceLT, Nat.reduceBEq, Nat.reduceDiv, Nat.reduceMod, Nat.reducePow, Nat.reduceMul, Int.reduceToNat, Int.reduceLT, Int.reduceLE]) | refine And.intro (by omega) ?_ | refine And.intro (by intro hq; (try simp only [Bool.and_eq_true, Bool.or_eq_true, Bool.and_eq_false_iff, Bool.or_eq_false_iff, decide_eq_true_eq, decide_eq_false_iff_not, Bool.not_eq_true', Bool.not_eq_false', beq_iff_eq, beq_eq_false_iff_ne, ne_eq] at hq); omega) ?_ | fail)
    exact W_ret ⟨[_], ⟨rfl, rfl⟩, rfl⟩
  · have e : (!decide (s.size = 0) && decide (s.size ≤ 20)) = true := by
      rw [Bool.or_eq_false_iff, decide_eq_false_iff_not, decide_eq_false_iff_not] at h
      rw [Bool.and_eq_true, Bool.not_eq_true', decide_eq_false_iff_not, decide_eq_true_eq]
      omega
    have hsz : s.size ≤ 20 := by
      rw [Bool.or_eq_false_iff, decide_eq_false_iff_not, decide_eq_false_iff_not] at h
      omega
    rw [e, Bool.true_and]
    repeat' (first | refine WK_go ?_ | refine W_seqL ?_ | refine W_seq ?_ | refine W_block ?_ | ((first | refine W_regL ?_ | refine W_skip ?_ | refine W_exit ?_); simp (maxSteps := 400000) (disch := omega) only [push_cast, ↓reduceIte, reduceCtorEq, Nat.reduceAdd, Nat.reduceSub, Nat.reduceEqDiff, Nat.reduceLeDiff, Nat.reduceLT, Nat.reduceBEq, Nat.reduceDiv, Nat.reduceMod, Nat.reducePow, Nat.reduceMul, Int.reduceToNat, Int.reduceLT, Int.reduceLE]) | refine And.intro (by omega) ?_ | refine And.intro (by intro hq; (try simp only [Bool.and_eq_true, Bool.or_eq_true, Bool.and_eq_false_iff, Bool.or_eq_false_iff, decide_eq_true_eq, decide_eq_false_iff_not, Bool.not_eq_true', Bool.not_eq_false', beq_iff_eq, beq_eq_false_iff_ne, ne_eq] at hq); omega) ?_ | fail)
    refine W_loopU (fun i : Nat => [(3, iv i)]) (fun i => []) (fun i => i ≤ s.size ∧ ∀ j, j < i → okCh (byteAt s j) = true) (fun i => s.size - i) 0 ⟨by omega, fun j hj => by omega⟩ (by rfl) (by rfl) (fun i hi => ?_)
    obtain ⟨hi, hall⟩ := hi
    simp (maxSteps := 400000) (disch := omega) only [push_cast, ↓reduceIte, reduceCtorEq, Nat.reduceAdd, Nat.reduceSub, Nat.reduceEqDiff, Nat.reduceLeDiff, Nat.reduceLT, Nat.reduceBEq, Nat.reduceDiv, Nat.reduceMod, Nat.reducePow, Nat.reduceMul, Int.reduceToNat, Int.reduceLT, Int.reduceLE]
    repeat' (first | refine WK_go ?_ | refine W_seqL ?_ | refine W_seq ?_ | refine W_block ?_ | ((first | refine W_regL ?_ | refine W_skip ?_ | refine W_exit ?_); simp (maxSteps := 400000) (disch := omega) only [push_cast, ↓reduceIte, reduceCtorEq, Nat.reduceAdd, Nat.reduceSub, Nat.reduceEqDiff, Nat.reduceLeDiff, Nat.reduceLT, Nat.reduceBEq, Nat.reduceDiv, Nat.reduceMod, Nat.reducePow, Nat.reduceMul, Int.reduceToNat, Int.reduceLT, Int.reduceLE]) | refine And.intro (by omega) ?_ | refine And.intro (by intro hq; (try simp only [Bool.and_eq_true, Bool.or_eq_true, Bool.and_eq_false_iff, Bool.or_eq_false_iff, decide_eq_true_eq, decide_eq_false_iff_not, Bool.not_eq_true', Bool.not_eq_false', beq_iff_eq, beq_eq_false_iff_ne, ne_eq] at hq); omega) ?_ | fail)
    refine W_condD (by rfl) (fun h5 => ?_) (fun h5 => ?_)
    · have hlt : i < s.size := by omega
      repeat' (first | refine WK_go ?_ | refine W_seqL ?_ | refine W_seq ?_ | refine W_block ?_ | ((first | refine W_regL ?_ | refine W_skip ?_ | refine W_exit ?_); simp (maxSteps := 400000) (disch := omega) only [push_cast, ↓reduceIte, reduceCtorEq, Nat.reduceAdd, Nat.reduceSub, Nat.reduceEqDiff, Nat.reduceLeDiff, Nat.reduceLT, Nat.reduceBEq, Nat.reduceDiv, Nat.reduceMod, Nat.reducePow, Nat.reduceMul, Int.reduceToNat, Int.reduceLT, Int.reduceLE]) | refine And.intro (by omega) ?_ | refine And.intro (by intro hq; (try simp only [Bool.and_eq_true, Bool.or_eq_true, Bool.and_eq_false_iff, Bool.or_eq_false_iff, decide_eq_true_eq, decide_eq_false_iff_not, Bool.not_eq_true', Bool.not_eq_false', beq_iff_eq, beq_eq_false_iff_ne, ne_eq] at hq); omega) ?_ | fail)
      refine W_cond (by rfl) (fun hb => ?_) (fun hb => ?_)
      · have hno : okCh (byteAt s i) = false := by
          rw [← Bool.not_eq_true]
          intro q
          unfold okCh at q
          simp at hb q
          omega
        rw [chars_no hlt hno]
        repeat' (first | refine WK_go ?_ | refine W_seqL ?_ | refine W_seq ?_ | refine W_block ?_ | ((first | refine W_regL ?_ | refine W_skip ?_ | refine W_exit ?_); simp (maxSteps := 400000) (disch := omega) only [push_cast, ↓reduceIte, reduceCtorEq, Nat.reduceAdd, Nat.reduceSub, Nat.reduceEqDiff, Nat.reduceLeDiff, Nat.reduceLT, Nat.reduceBEq, Nat.reduceDiv, Nat.reduceMod, Nat.reducePow, Nat.reduceMul, Int.reduceToNat, Int.reduceLT, Int.reduceLE]) | refine And.intro (by omega) ?_ | refine And.intro (by intro hq; (try simp only [Bool.and_eq_true, Bool.or_eq_true, Bool.and_eq_false_iff, Bool.or_eq_false_iff, decide_eq_true_eq, decide_eq_false_iff_not, Bool.not_eq_true', Bool.not_eq_false', beq_iff_eq, beq_eq_false_iff_ne, ne_eq] at hq); omega) ?_ | fail)
        exact W_ret ⟨[_], ⟨rfl, rfl⟩, rfl⟩
      · have hyes : okCh (byteAt s i) = true := by
          unfold okCh
          simp at hb ⊢
          omega
        repeat' (first | refine WK_go ?_ | refine W_seqL ?_ | refine W_seq ?_ | refine W_block ?_ | ((first | refine W_regL ?_ | refine W_skip ?_ | refine W_exit ?_); simp (maxSteps := 400000) (disch := omega) only [push_cast, ↓reduceIte, reduceCtorEq, Nat.reduceAdd, Nat.reduceSub, Nat.reduceEqDiff, Nat.reduceLeDiff, Nat.reduceLT, Nat.reduceBEq, Nat.reduceDiv, Nat.reduceMod, Nat.reducePow, Nat.reduceMul, Int.reduceToNat, Int.reduceLT, Int.reduceLE]) | refine And.intro (by omega) ?_ | refine And.intro (by intro hq; (try simp only [Bool.and_eq_true, Bool.or_eq_true, Bool.and_eq_false_iff, Bool.or_eq_false_iff, decide_eq_true_eq, decide_eq_false_iff_not, Bool.not_eq_true', Bool.not_eq_false', beq_iff_eq, beq_eq_false_iff_ne, ne_eq] at hq); omega) ?_ | fail)
        refine ⟨i + 1, ⟨by omega, up_all hall hyes⟩, by omega, by rfl, ?_⟩
        simp (maxSteps := 400000) (disch := omega) only [push_cast, ↓reduceIte, reduceCtorEq, Nat.reduceAdd, Nat.reduceSub, Nat.reduceEqDiff, Nat.reduceLeDiff, Nat.reduceLT, Nat.reduceBEq, Nat.reduceDiv, Nat.reduceMod, Nat.reducePow, Nat.reduceMul, Int.reduceToNat, Int.reduceLT, Int.reduceLE, S.mk.injEq, List.cons.injEq, Prod.mk.injEq, AV.v.injEq, Value.int.injEq, Value.bool.injEq, Blk.cells.injEq]
    · rw [chars_yes (fun j hj => hall j (by omega))]
      repeat' (first | refine WK_go ?_ | refine W_seqL ?_ | refine W_seq ?_ | refine W_block ?_ | ((first | refine W_regL ?_ | refine W_skip ?_ | refine W_exit ?_); simp (maxSteps := 400000) (disch := omega) only [push_cast, ↓reduceIte, reduceCtorEq, Nat.reduceAdd, Nat.reduceSub, Nat.reduceEqDiff, Nat.reduceLeDiff, Nat.reduceLT, Nat.reduceBEq, Nat.reduceDiv, Nat.reduceMod, Nat.reducePow, Nat.reduceMul, Int.reduceToNat, Int.reduceLT, Int.reduceLE]) | refine And.intro (by omega) ?_ | refine And.intro (by intro hq; (try simp only [Bool.and_eq_true, Bool.or_eq_true, Bool.and_eq_false_iff, Bool.or_eq_false_iff, decide_eq_true_eq, decide_eq_false_iff_not, Bool.not_eq_true', Bool.not_eq_false', beq_iff_eq, beq_eq_false_iff_ne, ne_eq] at hq); omega) ?_ | fail)
      exact W_ret ⟨[_], ⟨rfl, rfl⟩, rfl⟩
structure Axl where
  x : Int
  limit : Int
  wheels : Int
structure Unt where
  kind : Int
  length : Int
  behind : Int
  front : Int
  rear : Int
  width : Int
  height : Int
  mass : Int
  steer : Int
  most : Int
  axles : List Axl
structure Veh where
  name : ByteArray
  units : List Unt
  fr : Int
  to : Int
def dA : Axl := ⟨0, 0, 0⟩
def cA (a : Axl) : List AV := [iv a.x, iv a.limit, iv a.wheels]
def aA (l : List Axl) : AV := .sl 3 dA cA l
def dU : Unt := ⟨0, 0, 0, 0, 0, 0, 0, 0, 0, 0, []⟩
def cU (u : Unt) : List AV := [iv u.kind, iv u.length, iv u.behind, iv u.front, iv u.rear, iv u.width, iv u.height, iv u.mass, iv u.steer, iv u.most, aA u.axles]
def aU (l : List Unt) : AV := .sl 11 dU cU l
def cV (v : Veh) : List AV := [stv v.name, aU v.units, iv v.fr, iv v.to]
theorem nA0 (a : Axl) : nth (cA a) 0 = iv a.x := rfl
theorem nA1 (a : Axl) : nth (cA a) 1 = iv a.limit := rfl
theorem nA2 (a : Axl) : nth (cA a) 2 = iv a.wheels := rfl
theorem lA (a : Axl) : (cA a).length = 3 := rfl
theorem nU0 (a : Unt) : nth (cU a) 0 = iv a.kind := rfl
theorem nU1 (a : Unt) : nth (cU a) 1 = iv a.length := rfl
theorem nU2 (a : Unt) : nth (cU a) 2 = iv a.behind := rfl
theorem nU3 (a : Unt) : nth (cU a) 3 = iv a.front := rfl
theorem nU4 (a : Unt) : nth (cU a) 4 = iv a.rear := rfl
theorem nU5 (a : Unt) : nth (cU a) 5 = iv a.width := rfl
theorem nU6 (a : Unt) : nth (cU a) 6 = iv a.height := rfl
theorem nU7 (a : Unt) : nth (cU a) 7 = iv a.mass := rfl
theorem nU8 (a : Unt) : nth (cU a) 8 = iv a.steer := rfl
theorem nU9 (a : Unt) : nth (cU a) 9 = iv a.most := rfl
theorem nU10 (a : Unt) : nth (cU a) 10 = .sl 3 dA cA a.axles := rfl
theorem lU (a : Unt) : (cU a).length = 11 := rfl
theorem nV0 (a : Veh) : nth (cV a) 0 = stv a.name := rfl
theorem nV1 (a : Veh) : nth (cV a) 1 = .sl 11 dU cU a.units := rfl
theorem nV2 (a : Veh) : nth (cV a) 2 = iv a.fr := rfl
theorem nV3 (a : Veh) : nth (cV a) 3 = iv a.to := rfl
theorem lV (a : Veh) : (cV a).length = 4 := rfl
theorem aUe (l : List Unt) : aU l = .sl 11 dU cU l := rfl
theorem aAe (l : List Axl) : aA l = .sl 3 dA cA l := rfl
theorem tA (s : Axl) : List.take 3 (cA s) = cA s := rfl
theorem frA (s : Axl) : frzAll (cA s) = true := rfl
theorem iA {m : Nat → Option Blk} {n : Nat} (s : Axl) : List.flatMap (ids m n) (cA s) = [] := flat_frz n _ (frA s)
theorem tU (s : Unt) : List.take 11 (cU s) = cU s := rfl
theorem frU (s : Unt) : frzAll (cU s) = true := rfl
theorem iU {m : Nat → Option Blk} {n : Nat} (s : Unt) : List.flatMap (ids m n) (cU s) = [] := flat_frz n _ (frU s)
theorem tV (s : Veh) : List.take 4 (cV s) = cV s := rfl
theorem frV (s : Veh) : frzAll (cV s) = true := rfl
theorem iV {m : Nat → Option Blk} {n : Nat} (s : Veh) : List.flatMap (ids m n) (cV s) = [] := flat_frz n _ (frV s)
attribute [push_cast] tA frA iA tU frU iU tV frV iV nA0 nA1 nA2 lA nU0 nU1 nU2 nU3 nU4 nU5 nU6 nU7 nU8 nU9 nU10 lU nV0 nV1 nV2 nV3 lV aUe aAe
theorem fn117 (x lo hi : Int) : Sy.Fn Try.prog 117 [iv x, iv lo, iv hi] (bv (inR x lo hi)) := by
  refine Fn_of_W mixed Xt117 rfl ?_
  repeat' (first | refine WK_go ?_ | refine W_seqL ?_ | refine W_seq ?_ | refine W_block ?_ | ((first | refine W_regL ?_ | refine W_skip ?_ | refine W_exit ?_); simp (maxSteps := 400000) (disch := omega) only [push_cast, ↓reduceIte, reduceCtorEq, Nat.reduceAdd, Nat.reduceSub, Nat.reduceEqDiff, Nat.reduceLeDiff, Nat.reduceLT, Nat.reduceBEq, Nat.reduceDiv, Nat.reduceMod, Nat.reducePow, Nat.reduceMul, Int.reduceToNat, Int.reduceLT, Int.reduceLE]) | refine And.intro (by omega) ?_ | refine And.intro (by intro hq; (try simp only [Bool.and_eq_true, Bool.or_eq_true, Bool.and_eq_false_iff, Bool.or_eq_false_iff, decide_eq_true_eq, decide_eq_false_iff_not, Bool.not_eq_true', Bool.not_eq_false', beq_iff_eq, beq_eq_false_iff_ne, ne_eq] at hq); omega) ?_ | fail)
  exact W_ret ⟨[_], ⟨rfl, rfl⟩, rfl⟩
theorem fn120 (x lo hi : Int) : Sy.Fn Try.prog 120 [iv x, iv lo, iv hi] (bv (inR x lo hi)) := by
  refine Fn_of_W mixed Xt120 rfl ?_
  repeat' (first | refine WK_go ?_ | refine W_seqL ?_ | refine W_seq ?_ | refine W_block ?_ | ((first | refine W_regL ?_ | refine W_skip ?_ | refine W_exit ?_); simp (maxSteps := 400000) (disch := omega) only [push_cast, ↓reduceIte, reduceCtorEq, Nat.reduceAdd, Nat.reduceSub, Nat.reduceEqDiff, Nat.reduceLeDiff, Nat.reduceLT, Nat.reduceBEq, Nat.reduceDiv, Nat.reduceMod, Nat.reducePow, Nat.reduceMul, Int.reduceToNat, Int.reduceLT, Int.reduceLE]) | refine And.intro (by omega) ?_ | refine And.intro (by intro hq; (try simp only [Bool.and_eq_true, Bool.or_eq_true, Bool.and_eq_false_iff, Bool.or_eq_false_iff, decide_eq_true_eq, decide_eq_false_iff_not, Bool.not_eq_true', Bool.not_eq_false', beq_iff_eq, beq_eq_false_iff_ne, ne_eq] at hq); omega) ?_ | fail)
  exact W_ret ⟨[_], ⟨rfl, rfl⟩, rfl⟩
theorem fn116 (x : Int) : Sy.Fn Try.prog 116 [iv x] (bv (!inR x 0 131072)) := by
  refine Fn_of_W mixed Xt116 rfl ?_
  repeat' (first | refine WK_go ?_ | refine W_seqL ?_ | refine W_seq ?_ | refine W_block ?_ | ((first | refine W_regL ?_ | refine W_skip ?_ | refine W_exit ?_ | refine CallC.now (fn117 _ _ _) ?_); simp (maxSteps := 400000) (disch := omega) only [push_cast, ↓reduceIte, reduceCtorEq, Nat.reduceAdd, Nat.reduceSub, Nat.reduceEqDiff, Nat.reduceLeDiff, Nat.reduceLT, Nat.reduceBEq, Nat.reduceDiv, Nat.reduceMod, Nat.reducePow, Nat.reduceMul, Int.reduceToNat, Int.reduceLT, Int.reduceLE]) | refine And.intro (by omega) ?_ | refine And.intro (by intro hq; (try simp only [Bool.and_eq_true, Bool.or_eq_true, Bool.and_eq_false_iff, Bool.or_eq_false_iff, decide_eq_true_eq, decide_eq_false_iff_not, Bool.not_eq_true', Bool.not_eq_false', beq_iff_eq, beq_eq_false_iff_ne, ne_eq] at hq); omega) ?_ | fail)
  exact W_ret ⟨[_], ⟨rfl, rfl⟩, rfl⟩
abbrev sa (l : List Axl) (j : Nat) : Axl := l.getD j dA
abbrev su (l : List Unt) (j : Nat) : Unt := l.getD j dU
/-- the place of the axle before -/
def lastX (l : List Axl) (j : Nat) : Int := if j = 0 then 0 else (sa l (j - 1)).x
def axB (u : Unt) (j : Nat) : Bool := inR (sa u.axles j).x (lastX u.axles j) (u.length + u.rear) && inR (sa u.axles j).limit 1 1048576 && decide (1 ≤ (sa u.axles j).wheels) && decide ((sa u.axles j).wheels ≤ 16)
def axOK (u : Unt) : Bool := (List.range u.axles.length).all (axB u)
def hd1 (u : Unt) : Prop := (0 ≤ u.kind ∧ u.kind ≤ 3) ∧ (100 ≤ u.length ∧ u.length ≤ 131072) ∧ (-u.length ≤ u.behind ∧ u.behind ≤ 131072) ∧ (0 ≤ u.front ∧ u.front ≤ 131072) ∧ (0 ≤ u.rear ∧ u.rear ≤ 131072) ∧ (0 ≤ u.width ∧ u.width ≤ 131072) ∧ (0 ≤ u.height ∧ u.height ≤ 131072)
def hd2 (u : Unt) : Prop := (1 ≤ u.mass ∧ u.mass ≤ 1048576) ∧ (0 ≤ u.steer ∧ u.steer ≤ 900) ∧ (0 ≤ u.most ∧ u.most ≤ 40) ∧ 0 < u.axles.length
instance (u : Unt) : Decidable (hd1 u) := by unfold hd1; infer_instance
instance (u : Unt) : Decidable (hd2 u) := by unfold hd2; infer_instance
def unitB (u : Unt) : Bool := decide (hd1 u) && decide (hd2 u) && axOK u
theorem axOK_no {u : Unt} {i : Nat} (hi : i < u.axles.length) (h : axB u i = false) : axOK u = false := by
  rw [← Bool.not_eq_true]
  unfold axOK
  rw [List.all_eq_true]
  intro q
  rw [q i (by simpa using hi)] at h; cases h
theorem axOK_yes {u : Unt} (h : ∀ j, j < u.axles.length → axB u j = true) : axOK u = true := by
  unfold axOK
  rw [List.all_eq_true]
  intro j hj
  exact h j (by simpa using hj)
theorem unitB_no1 {u : Unt} (h : ¬ hd1 u) : unitB u = false := by unfold unitB; rw [decide_eq_false h, Bool.false_and, Bool.false_and]
theorem unitB_no2 {u : Unt} (h1 : hd1 u) (h : ¬ hd2 u) : unitB u = false := by unfold unitB; rw [decide_eq_true h1, decide_eq_false h, Bool.true_and, Bool.false_and]
theorem unitB_ax {u : Unt} (h1 : hd1 u) (h : hd2 u) : unitB u = axOK u := by unfold unitB; rw [decide_eq_true h1, decide_eq_true h, Bool.true_and, Bool.true_and]
theorem fn102 (u : Unt) (hl : u.axles.length ≤ 140737488355328) : Sy.Fn Try.prog 102 [.agg (cU u)] (bv (unitB u)) := by
  refine Fn_of_W mixed Xt102 rfl ?_
  have c115 := fn115 [u.front, u.rear, u.width, u.height] (Nat.le_of_ble_eq_true rfl) 116 [] [] (fun x => !inR x 0 131072) (fun x _ => fn116 x)
  repeat' (first | refine WK_go ?_ | refine W_seqL ?_ | refine W_seq ?_ | refine W_block ?_ | ((first | refine W_regL ?_ | refine W_skip ?_ | refine W_exit ?_); simp (maxSteps := 400000) (disch := omega) only [push_cast, ↓reduceIte, reduceCtorEq, Nat.reduceAdd, Nat.reduceSub, Nat.reduceEqDiff, Nat.reduceLeDiff, Nat.reduceLT, Nat.reduceBEq, Nat.reduceDiv, Nat.reduceMod, Nat.reducePow, Nat.reduceMul, Int.reduceToNat, Int.reduceLT, Int.reduceLE]) | refine And.intro (by omega) ?_ | refine And.intro (by intro hq; (try simp only [Bool.and_eq_true, Bool.or_eq_true, Bool.and_eq_false_iff, Bool.or_eq_false_iff, decide_eq_true_eq, decide_eq_false_iff_not, Bool.not_eq_true', Bool.not_eq_false', beq_iff_eq, beq_eq_false_iff_ne, ne_eq] at hq); omega) ?_ | fail)
  refine ⟨rfl, trivial, Int, 0, cI, [u.front, u.rear, u.width, u.height], rfl, by omega, fun x _ => ⟨rfl, rfl⟩, rfl, ?_⟩
  simp (maxSteps := 400000) (disch := omega) only [push_cast, ↓reduceIte, reduceCtorEq, Nat.reduceAdd, Nat.reduceSub, Nat.reduceEqDiff, Nat.reduceLeDiff, Nat.reduceLT, Nat.reduceBEq, Nat.reduceDiv, Nat.reduceMod, Nat.reducePow, Nat.reduceMul, Int.reduceToNat, Int.reduceLT, Int.reduceLE]
  repeat' (first | refine WK_go ?_ | refine W_seqL ?_ | refine W_seq ?_ | refine W_block ?_ | ((first | refine W_regL ?_ | refine W_skip ?_ | refine W_exit ?_ | refine CallC.go _ (fun _ => ⟨trivial, c115⟩) rfl ?_ | refine CallC.go _ (fun _ => ⟨trivial, fn117 _ _ _⟩) rfl ?_); simp (maxSteps := 400000) (disch := omega) only [push_cast, ↓reduceIte, reduceCtorEq, Nat.reduceAdd, Nat.reduceSub, Nat.reduceEqDiff, Nat.reduceLeDiff, Nat.reduceLT, Nat.reduceBEq, Nat.reduceDiv, Nat.reduceMod, Nat.reducePow, Nat.reduceMul, Int.reduceToNat, Int.reduceLT, Int.reduceLE]) | refine And.intro (by omega) ?_ | refine And.intro (by intro hq; (try simp only [Bool.and_eq_true, Bool.or_eq_true, Bool.and_eq_false_iff, Bool.or_eq_false_iff, decide_eq_true_eq, decide_eq_false_iff_not, Bool.not_eq_true', Bool.not_eq_false', beq_iff_eq, beq_eq_false_iff_ne, ne_eq] at hq); omega) ?_ | fail)
  refine W_cond (by rfl) (fun h => ?_) (fun h => ?_)
  · have hno : ¬ hd1 u := by
      rintro ⟨a0, a1, a2, a3, a4, a5, a6⟩
      rw [wrap64 ⟨by omega, by omega⟩] at h
      simp only [inR, Bool.or_eq_true, Bool.or_eq_false_iff, Bool.and_eq_true, Bool.and_eq_false_iff, Bool.not_not, Bool.not_eq_true', Bool.not_eq_false', decide_eq_true_eq, decide_eq_false_iff_not, Bool.not_or, Bool.not_and] at h
      omega
    rw [unitB_no1 hno]
    repeat' (first | refine WK_go ?_ | refine W_seqL ?_ | refine W_seq ?_ | refine W_block ?_ | ((first | refine W_regL ?_ | refine W_skip ?_ | refine W_exit ?_); simp (maxSteps := 400000) (disch := omega) only [push_cast, ↓reduceIte, reduceCtorEq, Nat.reduceAdd, Nat.reduceSub, Nat.reduceEqDiff, Nat.reduceLeDiff, Nat.reduceLT, Nat.reduceBEq, Nat.reduceDiv, Nat.reduceMod, Nat.reducePow, Nat.reduceMul, Int.reduceToNat, Int.reduceLT, Int.reduceLE]) | refine And.intro (by omega) ?_ | refine And.intro (by intro hq; (try simp only [Bool.and_eq_true, Bool.or_eq_true, Bool.and_eq_false_iff, Bool.or_eq_false_iff, decide_eq_true_eq, decide_eq_false_iff_not, Bool.not_eq_true', Bool.not_eq_false', beq_iff_eq, beq_eq_false_iff_ne, ne_eq] at hq); omega) ?_ | fail)
    exact W_ret ⟨[_], ⟨rfl, rfl⟩, rfl⟩
  have h1 : hd1 u := by
    by_cases hL : 100 ≤ u.length ∧ u.length ≤ 131072
    · rw [wrap64 ⟨by omega, by omega⟩] at h
      simp only [inR, Bool.or_eq_true, Bool.or_eq_false_iff, Bool.and_eq_true, Bool.and_eq_false_iff, Bool.not_not, Bool.not_eq_true', Bool.not_eq_false', decide_eq_true_eq, decide_eq_false_iff_not, Bool.not_or, Bool.not_and] at h
      unfold hd1
      omega
    · exfalso
      generalize IntKind.i64.wrap (0 - u.length) = w at h
      simp only [inR, Bool.or_eq_true, Bool.or_eq_false_iff, Bool.and_eq_true, Bool.and_eq_false_iff, Bool.not_not, Bool.not_eq_true', Bool.not_eq_false', decide_eq_true_eq, decide_eq_false_iff_not, Bool.not_or, Bool.not_and] at h
      omega
  repeat' (first | refine WK_go ?_ | refine W_seqL ?_ | refine W_seq ?_ | refine W_block ?_ | ((first | refine W_regL ?_ | refine W_skip ?_ | refine W_exit ?_ | refine CallC.now (fn117 _ _ _) ?_ | refine CallC.go _ (fun _ => ⟨trivial, fn117 _ _ _⟩) rfl ?_); simp (maxSteps := 400000) (disch := omega) only [push_cast, ↓reduceIte, reduceCtorEq, Nat.reduceAdd, Nat.reduceSub, Nat.reduceEqDiff, Nat.reduceLeDiff, Nat.reduceLT, Nat.reduceBEq, Nat.reduceDiv, Nat.reduceMod, Nat.reducePow, Nat.reduceMul, Int.reduceToNat, Int.reduceLT, Int.reduceLE]) | refine And.intro (by omega) ?_ | refine And.intro (by intro hq; (try simp only [Bool.and_eq_true, Bool.or_eq_true, Bool.and_eq_false_iff, Bool.or_eq_false_iff, decide_eq_true_eq, decide_eq_false_iff_not, Bool.not_eq_true', Bool.not_eq_false', beq_iff_eq, beq_eq_false_iff_ne, ne_eq] at hq); omega) ?_ | fail)
  refine W_cond (by rfl) (fun h => ?_) (fun h => ?_)
  · have hno : ¬ hd2 u := by
      rintro ⟨a0, a1, a2, a3⟩
      simp only [inR, Bool.or_eq_true, Bool.or_eq_false_iff, Bool.and_eq_true, Bool.and_eq_false_iff, Bool.not_not, Bool.not_eq_true', Bool.not_eq_false', decide_eq_true_eq, decide_eq_false_iff_not, Bool.not_or, Bool.not_and, beq_iff_eq] at h
      omega
    rw [unitB_no2 h1 hno]
    repeat' (first | refine WK_go ?_ | refine W_seqL ?_ | refine W_seq ?_ | refine W_block ?_ | ((first | refine W_regL ?_ | refine W_skip ?_ | refine W_exit ?_); simp (maxSteps := 400000) (disch := omega) only [push_cast, ↓reduceIte, reduceCtorEq, Nat.reduceAdd, Nat.reduceSub, Nat.reduceEqDiff, Nat.reduceLeDiff, Nat.reduceLT, Nat.reduceBEq, Nat.reduceDiv, Nat.reduceMod, Nat.reducePow, Nat.reduceMul, Int.reduceToNat, Int.reduceLT, Int.reduceLE]) | refine And.intro (by omega) ?_ | refine And.intro (by intro hq; (try simp only [Bool.and_eq_true, Bool.or_eq_true, Bool.and_eq_false_iff, Bool.or_eq_false_iff, decide_eq_true_eq, decide_eq_false_iff_not, Bool.not_eq_true', Bool.not_eq_false', beq_iff_eq, beq_eq_false_iff_ne, ne_eq] at hq); omega) ?_ | fail)
    exact W_ret ⟨[_], ⟨rfl, rfl⟩, rfl⟩
  have h2 : hd2 u := by
    simp only [inR, Bool.or_eq_true, Bool.or_eq_false_iff, Bool.and_eq_true, Bool.and_eq_false_iff, Bool.not_not, Bool.not_eq_true', Bool.not_eq_false', decide_eq_true_eq, decide_eq_false_iff_not, Bool.not_or, Bool.not_and, beq_eq_false_iff_ne] at h
    unfold hd2
    omega
  rw [unitB_ax h1 h2]
  repeat' (first | refine WK_go ?_ | refine W_seqL ?_ | refine W_seq ?_ | refine W_block ?_ | ((first | refine W_regL ?_ | refine W_skip ?_ | refine W_exit ?_); simp (maxSteps := 400000) (disch := omega) only [push_cast, ↓reduceIte, reduceCtorEq, Nat.reduceAdd, Nat.reduceSub, Nat.reduceEqDiff, Nat.reduceLeDiff, Nat.reduceLT, Nat.reduceBEq, Nat.reduceDiv, Nat.reduceMod, Nat.reducePow, Nat.reduceMul, Int.reduceToNat, Int.reduceLT, Int.reduceLE]) | refine And.intro (by omega) ?_ | refine And.intro (by intro hq; (try simp only [Bool.and_eq_true, Bool.or_eq_true, Bool.and_eq_false_iff, Bool.or_eq_false_iff, decide_eq_true_eq, decide_eq_false_iff_not, Bool.not_eq_true', Bool.not_eq_false', beq_iff_eq, beq_eq_false_iff_ne, ne_eq] at hq); omega) ?_ | fail)
  refine W_loopU (fun i : Nat => [(4, iv (lastX u.axles i)), (74, iv i)]) (fun i => []) (fun i => i ≤ u.axles.length ∧ ∀ j, j < i → axB u j = true) (fun i => u.axles.length - i) 0 ⟨by omega, fun j hj => by omega⟩ (by rfl) (by rfl) (fun i hi => ?_)
  obtain ⟨hi, hall⟩ := hi
  obtain ⟨a0, a1, a2, a3, a4, a5, a6⟩ := h1
  simp (maxSteps := 400000) (disch := omega) only [push_cast, ↓reduceIte, reduceCtorEq, Nat.reduceAdd, Nat.reduceSub, Nat.reduceEqDiff, Nat.reduceLeDiff, Nat.reduceLT, Nat.reduceBEq, Nat.reduceDiv, Nat.reduceMod, Nat.reducePow, Nat.reduceMul, Int.reduceToNat, Int.reduceLT, Int.reduceLE]
  repeat' (first | refine WK_go ?_ | refine W_seqL ?_ | refine W_seq ?_ | refine W_block ?_ | ((first | refine W_regL ?_ | refine W_skip ?_ | refine W_exit ?_); simp (maxSteps := 400000) (disch := omega) only [push_cast, ↓reduceIte, reduceCtorEq, Nat.reduceAdd, Nat.reduceSub, Nat.reduceEqDiff, Nat.reduceLeDiff, Nat.reduceLT, Nat.reduceBEq, Nat.reduceDiv, Nat.reduceMod, Nat.reducePow, Nat.reduceMul, Int.reduceToNat, Int.reduceLT, Int.reduceLE]) | refine And.intro (by omega) ?_ | refine And.intro (by intro hq; (try simp only [Bool.and_eq_true, Bool.or_eq_true, Bool.and_eq_false_iff, Bool.or_eq_false_iff, decide_eq_true_eq, decide_eq_false_iff_not, Bool.not_eq_true', Bool.not_eq_false', beq_iff_eq, beq_eq_false_iff_ne, ne_eq] at hq); omega) ?_ | fail)
  refine W_condD (by rfl) (fun h5 => ?_) (fun h5 => ?_)
  · have hlt : i < u.axles.length := by omega
    have hsp : u.axles.getD i dA = sa u.axles i := rfl
    have hls : lastX u.axles (i + 1) = (sa u.axles i).x := by unfold lastX; rw [if_neg (by omega), Nat.add_sub_cancel]
    have hab : axB u i = (inR (sa u.axles i).x (lastX u.axles i) (u.length + u.rear) && inR (sa u.axles i).limit 1 1048576 && decide (1 ≤ (sa u.axles i).wheels) && decide ((sa u.axles i).wheels ≤ 16)) := rfl
    generalize hs : sa u.axles i = a at *
    repeat' (first | refine WK_go ?_ | refine W_seqL ?_ | refine W_seq ?_ | refine W_block ?_ | ((first | refine W_regL ?_ | refine W_skip ?_ | refine W_exit ?_ | refine CallC.now (fn117 _ _ _) ?_ | refine CallC.go _ (fun _ => ⟨trivial, fn117 _ _ _⟩) rfl ?_); simp (maxSteps := 400000) (disch := omega) only [push_cast, ↓reduceIte, reduceCtorEq, Nat.reduceAdd, Nat.reduceSub, Nat.reduceEqDiff, Nat.reduceLeDiff, Nat.reduceLT, Nat.reduceBEq, Nat.reduceDiv, Nat.reduceMod, Nat.reducePow, Nat.reduceMul, Int.reduceToNat, Int.reduceLT, Int.reduceLE, hsp]) | refine And.intro (by omega) ?_ | refine And.intro (by intro hq; (try simp only [Bool.and_eq_true, Bool.or_eq_true, Bool.and_eq_false_iff, Bool.or_eq_false_iff, decide_eq_true_eq, decide_eq_false_iff_not, Bool.not_eq_true', Bool.not_eq_false', beq_iff_eq, beq_eq_false_iff_ne, ne_eq] at hq); omega) ?_ | fail)
    refine W_cond (by rfl) (fun hb => ?_) (fun hb => ?_)
    · have hno : axB u i = false := by
        rw [hab]
        generalize inR a.x (lastX u.axles i) (u.length + u.rear) = b1 at *
        generalize inR a.limit 1 1048576 = b2 at *
        cases b1 <;> cases b2 <;> simp at hb ⊢ <;> omega
      rw [axOK_no hlt hno]
      repeat' (first | refine WK_go ?_ | refine W_seqL ?_ | refine W_seq ?_ | refine W_block ?_ | ((first | refine W_regL ?_ | refine W_skip ?_ | refine W_exit ?_); simp (maxSteps := 400000) (disch := omega) only [push_cast, ↓reduceIte, reduceCtorEq, Nat.reduceAdd, Nat.reduceSub, Nat.reduceEqDiff, Nat.reduceLeDiff, Nat.reduceLT, Nat.reduceBEq, Nat.reduceDiv, Nat.reduceMod, Nat.reducePow, Nat.reduceMul, Int.reduceToNat, Int.reduceLT, Int.reduceLE]) | refine And.intro (by omega) ?_ | refine And.intro (by intro hq; (try simp only [Bool.and_eq_true, Bool.or_eq_true, Bool.and_eq_false_iff, Bool.or_eq_false_iff, decide_eq_true_eq, decide_eq_false_iff_not, Bool.not_eq_true', Bool.not_eq_false', beq_iff_eq, beq_eq_false_iff_ne, ne_eq] at hq); omega) ?_ | fail)
      exact W_ret ⟨[_], ⟨rfl, rfl⟩, rfl⟩
    · have hyes : axB u i = true := by
        rw [hab]
        generalize inR a.x (lastX u.axles i) (u.length + u.rear) = b1 at *
        generalize inR a.limit 1 1048576 = b2 at *
        cases b1 <;> cases b2 <;> simp at hb ⊢ <;> omega
      repeat' (first | refine WK_go ?_ | refine W_seqL ?_ | refine W_seq ?_ | refine W_block ?_ | ((first | refine W_regL ?_ | refine W_skip ?_ | refine W_exit ?_); simp (maxSteps := 400000) (disch := omega) only [push_cast, ↓reduceIte, reduceCtorEq, Nat.reduceAdd, Nat.reduceSub, Nat.reduceEqDiff, Nat.reduceLeDiff, Nat.reduceLT, Nat.reduceBEq, Nat.reduceDiv, Nat.reduceMod, Nat.reducePow, Nat.reduceMul, Int.reduceToNat, Int.reduceLT, Int.reduceLE]) | refine And.intro (by omega) ?_ | refine And.intro (by intro hq; (try simp only [Bool.and_eq_true, Bool.or_eq_true, Bool.and_eq_false_iff, Bool.or_eq_false_iff, decide_eq_true_eq, decide_eq_false_iff_not, Bool.not_eq_true', Bool.not_eq_false', beq_iff_eq, beq_eq_false_iff_ne, ne_eq] at hq); omega) ?_ | fail)
      refine ⟨i + 1, ⟨by omega, up_all hall hyes⟩, by omega, by rfl, ?_⟩
      rw [hls]
      simp (maxSteps := 400000) (disch := omega) only [push_cast, ↓reduceIte, reduceCtorEq, Nat.reduceAdd, Nat.reduceSub, Nat.reduceEqDiff, Nat.reduceLeDiff, Nat.reduceLT, Nat.reduceBEq, Nat.reduceDiv, Nat.reduceMod, Nat.reducePow, Nat.reduceMul, Int.reduceToNat, Int.reduceLT, Int.reduceLE, S.mk.injEq, List.cons.injEq, Prod.mk.injEq, AV.v.injEq, Value.int.injEq, Value.bool.injEq, Blk.cells.injEq]
  · rw [axOK_yes (fun j hj => hall j (by omega))]
    repeat' (first | refine WK_go ?_ | refine W_seqL ?_ | refine W_seq ?_ | refine W_block ?_ | ((first | refine W_regL ?_ | refine W_skip ?_ | refine W_exit ?_); simp (maxSteps := 400000) (disch := omega) only [push_cast, ↓reduceIte, reduceCtorEq, Nat.reduceAdd, Nat.reduceSub, Nat.reduceEqDiff, Nat.reduceLeDiff, Nat.reduceLT, Nat.reduceBEq, Nat.reduceDiv, Nat.reduceMod, Nat.reducePow, Nat.reduceMul, Int.reduceToNat, Int.reduceLT, Int.reduceLE]) | refine And.intro (by omega) ?_ | refine And.intro (by intro hq; (try simp only [Bool.and_eq_true, Bool.or_eq_true, Bool.and_eq_false_iff, Bool.or_eq_false_iff, decide_eq_true_eq, decide_eq_false_iff_not, Bool.not_eq_true', Bool.not_eq_false', beq_iff_eq, beq_eq_false_iff_ne, ne_eq] at hq); omega) ?_ | fail)
    exact W_ret ⟨[_], ⟨rfl, rfl⟩, rfl⟩

end Go.Proofs.Ytbdnnicodailcaa

/- Vehicles: the reference's units, and Check. -/
namespace Go.Proofs.Ytbdnnicodailcaa
open Go Sy
set_option maxRecDepth 100000
set_option maxHeartbeats 4000000
set_option linter.unusedVariables false
set_option linter.unusedSimpArgs false
theorem fn106 (u : Unt) (hl : u.axles.length ≤ 140737488355328) : Sy.Fn Try.prog 106 [.agg (cU u)] (bv (unitB u)) := by
  refine Fn_of_W mixed Xt106 rfl ?_
  repeat' (first | refine WK_go ?_ | refine W_seqL ?_ | refine W_seq ?_ | refine W_block ?_ | ((first | refine W_regL ?_ | refine W_skip ?_ | refine W_exit ?_ | refine CallC.now (fn120 _ _ _) ?_ | refine CallC.go _ (fun _ => ⟨trivial, fn120 _ _ _⟩) rfl ?_); simp (maxSteps := 400000) (disch := omega) only [push_cast, ↓reduceIte, reduceCtorEq, Nat.reduceAdd, Nat.reduceSub, Nat.reduceEqDiff, Nat.reduceLeDiff, Nat.reduceLT, Nat.reduceBEq, Nat.reduceDiv, Nat.reduceMod, Nat.reducePow, Nat.reduceMul, Int.reduceToNat, Int.reduceLT, Int.reduceLE]) | refine And.intro (by omega) ?_ | refine And.intro (by intro hq; (try simp only [Bool.and_eq_true, Bool.or_eq_true, Bool.and_eq_false_iff, Bool.or_eq_false_iff, decide_eq_true_eq, decide_eq_false_iff_not, Bool.not_eq_true', Bool.not_eq_false', beq_iff_eq, beq_eq_false_iff_ne, ne_eq] at hq); omega) ?_ | fail)
  refine W_cond (by rfl) (fun h => ?_) (fun h => ?_)
  · have hno : ¬ hd1 u := by
      rintro ⟨a0, a1, a2, a3, a4, a5, a6⟩
      rw [wrap64 ⟨by omega, by omega⟩] at h
      simp only [inR, Bool.or_eq_true, Bool.or_eq_false_iff, Bool.and_eq_true, Bool.and_eq_false_iff, Bool.not_not, Bool.not_eq_true', Bool.not_eq_false', decide_eq_true_eq, decide_eq_false_iff_not, Bool.not_or, Bool.not_and] at h
      omega
    rw [unitB_no1 hno]
    repeat' (first | refine WK_go ?_ | refine W_seqL ?_ | refine W_seq ?_ | refine W_block ?_ | ((first | refine W_regL ?_ | refine W_skip ?_ | refine W_exit ?_); simp (maxSteps := 400000) (disch := omega) only [push_cast, ↓reduceIte, reduceCtorEq, Nat.reduceAdd, Nat.reduceSub, Nat.reduceEqDiff, Nat.reduceLeDiff, Nat.reduceLT, Nat.reduceBEq, Nat.reduceDiv, Nat.reduceMod, Nat.reducePow, Nat.reduceMul, Int.reduceToNat, Int.reduceLT, Int.reduceLE]) | refine And.intro (by omega) ?_ | refine And.intro (by intro hq; (try simp only [Bool.and_eq_true, Bool.or_eq_true, Bool.and_eq_false_iff, Bool.or_eq_false_iff, decide_eq_true_eq, decide_eq_false_iff_not, Bool.not_eq_true', Bool.not_eq_false', beq_iff_eq, beq_eq_false_iff_ne, ne_eq] at hq); omega) ?_ | fail)
    exact W_ret ⟨[_], ⟨rfl, rfl⟩, rfl⟩
  have h1 : hd1 u := by
    by_cases hL : 100 ≤ u.length ∧ u.length ≤ 131072
    · rw [wrap64 ⟨by omega, by omega⟩] at h
      simp only [inR, Bool.or_eq_true, Bool.or_eq_false_iff, Bool.and_eq_true, Bool.and_eq_false_iff, Bool.not_not, Bool.not_eq_true', Bool.not_eq_false', decide_eq_true_eq, decide_eq_false_iff_not, Bool.not_or, Bool.not_and] at h
      unfold hd1
      omega
    · exfalso
      generalize IntKind.i64.wrap (0 - u.length) = w at h
      simp only [inR, Bool.or_eq_true, Bool.or_eq_false_iff, Bool.and_eq_true, Bool.and_eq_false_iff, Bool.not_not, Bool.not_eq_true', Bool.not_eq_false', decide_eq_true_eq, decide_eq_false_iff_not, Bool.not_or, Bool.not_and] at h
      omega
  repeat' (first | refine WK_go ?_ | refine W_seqL ?_ | refine W_seq ?_ | refine W_block ?_ | ((first | refine W_regL ?_ | refine W_skip ?_ | refine W_exit ?_ | refine CallC.now (fn120 _ _ _) ?_ | refine CallC.go _ (fun _ => ⟨trivial, fn120 _ _ _⟩) rfl ?_); simp (maxSteps := 400000) (disch := omega) only [push_cast, ↓reduceIte, reduceCtorEq, Nat.reduceAdd, Nat.reduceSub, Nat.reduceEqDiff, Nat.reduceLeDiff, Nat.reduceLT, Nat.reduceBEq, Nat.reduceDiv, Nat.reduceMod, Nat.reducePow, Nat.reduceMul, Int.reduceToNat, Int.reduceLT, Int.reduceLE]) | refine And.intro (by omega) ?_ | refine And.intro (by intro hq; (try simp only [Bool.and_eq_true, Bool.or_eq_true, Bool.and_eq_false_iff, Bool.or_eq_false_iff, decide_eq_true_eq, decide_eq_false_iff_not, Bool.not_eq_true', Bool.not_eq_false', beq_iff_eq, beq_eq_false_iff_ne, ne_eq] at hq); omega) ?_ | fail)
  refine W_cond (by rfl) (fun h => ?_) (fun h => ?_)
  · have hno : ¬ hd2 u := by
      rintro ⟨a0, a1, a2, a3⟩
      simp only [inR, Bool.or_eq_true, Bool.or_eq_false_iff, Bool.and_eq_true, Bool.and_eq_false_iff, Bool.not_not, Bool.not_eq_true', Bool.not_eq_false', decide_eq_true_eq, decide_eq_false_iff_not, Bool.not_or, Bool.not_and, beq_iff_eq] at h
      omega
    rw [unitB_no2 h1 hno]
    repeat' (first | refine WK_go ?_ | refine W_seqL ?_ | refine W_seq ?_ | refine W_block ?_ | ((first | refine W_regL ?_ | refine W_skip ?_ | refine W_exit ?_); simp (maxSteps := 400000) (disch := omega) only [push_cast, ↓reduceIte, reduceCtorEq, Nat.reduceAdd, Nat.reduceSub, Nat.reduceEqDiff, Nat.reduceLeDiff, Nat.reduceLT, Nat.reduceBEq, Nat.reduceDiv, Nat.reduceMod, Nat.reducePow, Nat.reduceMul, Int.reduceToNat, Int.reduceLT, Int.reduceLE]) | refine And.intro (by omega) ?_ | refine And.intro (by intro hq; (try simp only [Bool.and_eq_true, Bool.or_eq_true, Bool.and_eq_false_iff, Bool.or_eq_false_iff, decide_eq_true_eq, decide_eq_false_iff_not, Bool.not_eq_true', Bool.not_eq_false', beq_iff_eq, beq_eq_false_iff_ne, ne_eq] at hq); omega) ?_ | fail)
    exact W_ret ⟨[_], ⟨rfl, rfl⟩, rfl⟩
  have h2 : hd2 u := by
    simp only [inR, Bool.or_eq_true, Bool.or_eq_false_iff, Bool.and_eq_true, Bool.and_eq_false_iff, Bool.not_not, Bool.not_eq_true', Bool.not_eq_false', decide_eq_true_eq, decide_eq_false_iff_not, Bool.not_or, Bool.not_and, beq_eq_false_iff_ne] at h
    unfold hd2
    omega
  rw [unitB_ax h1 h2]
  repeat' (first | refine WK_go ?_ | refine W_seqL ?_ | refine W_seq ?_ | refine W_block ?_ | ((first | refine W_regL ?_ | refine W_skip ?_ | refine W_exit ?_); simp (maxSteps := 400000) (disch := omega) only [push_cast, ↓reduceIte, reduceCtorEq, Nat.reduceAdd, Nat.reduceSub, Nat.reduceEqDiff, Nat.reduceLeDiff, Nat.reduceLT, Nat.reduceBEq, Nat.reduceDiv, Nat.reduceMod, Nat.reducePow, Nat.reduceMul, Int.reduceToNat, Int.reduceLT, Int.reduceLE]) | refine And.intro (by omega) ?_ | refine And.intro (by intro hq; (try simp only [Bool.and_eq_true, Bool.or_eq_true, Bool.and_eq_false_iff, Bool.or_eq_false_iff, decide_eq_true_eq, decide_eq_false_iff_not, Bool.not_eq_true', Bool.not_eq_false', beq_iff_eq, beq_eq_false_iff_ne, ne_eq] at hq); omega) ?_ | fail)
  refine W_loopU (fun i : Nat => [(3, iv (lastX u.axles i)), (4, iv i)]) (fun i => []) (fun i => i ≤ u.axles.length ∧ ∀ j, j < i → axB u j = true) (fun i => u.axles.length - i) 0 ⟨by omega, fun j hj => by omega⟩ (by rfl) (by rfl) (fun i hi => ?_)
  obtain ⟨hi, hall⟩ := hi
  obtain ⟨a0, a1, a2, a3, a4, a5, a6⟩ := h1
  simp (maxSteps := 400000) (disch := omega) only [push_cast, ↓reduceIte, reduceCtorEq, Nat.reduceAdd, Nat.reduceSub, Nat.reduceEqDiff, Nat.reduceLeDiff, Nat.reduceLT, Nat.reduceBEq, Nat.reduceDiv, Nat.reduceMod, Nat.reducePow, Nat.reduceMul, Int.reduceToNat, Int.reduceLT, Int.reduceLE]
  repeat' (first | refine WK_go ?_ | refine W_seqL ?_ | refine W_seq ?_ | refine W_block ?_ | ((first | refine W_regL ?_ | refine W_skip ?_ | refine W_exit ?_); simp (maxSteps := 400000) (disch := omega) only [push_cast, ↓reduceIte, reduceCtorEq, Nat.reduceAdd, Nat.reduceSub, Nat.reduceEqDiff, Nat.reduceLeDiff, Nat.reduceLT, Nat.reduceBEq, Nat.reduceDiv, Nat.reduceMod, Nat.reducePow, Nat.reduceMul, Int.reduceToNat, Int.reduceLT, Int.reduceLE]) | refine And.intro (by omega) ?_ | refine And.intro (by intro hq; (try simp only [Bool.and_eq_true, Bool.or_eq_true, Bool.and_eq_false_iff, Bool.or_eq_false_iff, decide_eq_true_eq, decide_eq_false_iff_not, Bool.not_eq_true', Bool.not_eq_false', beq_iff_eq, beq_eq_false_iff_ne, ne_eq] at hq); omega) ?_ | fail)
  refine W_condD (by rfl) (fun h5 => ?_) (fun h5 => ?_)
  · have hlt : i < u.axles.length := by omega
    have hsp : u.axles.getD i dA = sa u.axles i := rfl
    have hls : lastX u.axles (i + 1) = (sa u.axles i).x := by unfold lastX; rw [if_neg (by omega), Nat.add_sub_cancel]
    have hab : axB u i = (inR (sa u.axles i).x (lastX u.axles i) (u.length + u.rear) && inR (sa u.axles i).limit 1 1048576 && decide (1 ≤ (sa u.axles i).wheels) && decide ((sa u.axles i).wheels ≤ 16)) := rfl
    generalize hs : sa u.axles i = a at *
    repeat' (first | refine WK_go ?_ | refine W_seqL ?_ | refine W_seq ?_ | refine W_block ?_ | ((first | refine W_regL ?_ | refine W_skip ?_ | refine W_exit ?_ | refine CallC.now (fn120 _ _ _) ?_ | refine CallC.go _ (fun _ => ⟨trivial, fn120 _ _ _⟩) rfl ?_); simp (maxSteps := 400000) (disch := omega) only [push_cast, ↓reduceIte, reduceCtorEq, Nat.reduceAdd, Nat.reduceSub, Nat.reduceEqDiff, Nat.reduceLeDiff, Nat.reduceLT, Nat.reduceBEq, Nat.reduceDiv, Nat.reduceMod, Nat.reducePow, Nat.reduceMul, Int.reduceToNat, Int.reduceLT, Int.reduceLE, hsp]) | refine And.intro (by omega) ?_ | refine And.intro (by intro hq; (try simp only [Bool.and_eq_true, Bool.or_eq_true, Bool.and_eq_false_iff, Bool.or_eq_false_iff, decide_eq_true_eq, decide_eq_false_iff_not, Bool.not_eq_true', Bool.not_eq_false', beq_iff_eq, beq_eq_false_iff_ne, ne_eq] at hq); omega) ?_ | fail)
    refine W_cond (by rfl) (fun hb => ?_) (fun hb => ?_)
    · have hno : axB u i = false := by
        rw [hab]
        generalize inR a.x (lastX u.axles i) (u.length + u.rear) = b1 at *
        generalize inR a.limit 1 1048576 = b2 at *
        cases b1 <;> cases b2 <;> simp at hb ⊢ <;> omega
      rw [axOK_no hlt hno]
      repeat' (first | refine WK_go ?_ | refine W_seqL ?_ | refine W_seq ?_ | refine W_block ?_ | ((first | refine W_regL ?_ | refine W_skip ?_ | refine W_exit ?_); simp (maxSteps := 400000) (disch := omega) only [push_cast, ↓reduceIte, reduceCtorEq, Nat.reduceAdd, Nat.reduceSub, Nat.reduceEqDiff, Nat.reduceLeDiff, Nat.reduceLT, Nat.reduceBEq, Nat.reduceDiv, Nat.reduceMod, Nat.reducePow, Nat.reduceMul, Int.reduceToNat, Int.reduceLT, Int.reduceLE]) | refine And.intro (by omega) ?_ | refine And.intro (by intro hq; (try simp only [Bool.and_eq_true, Bool.or_eq_true, Bool.and_eq_false_iff, Bool.or_eq_false_iff, decide_eq_true_eq, decide_eq_false_iff_not, Bool.not_eq_true', Bool.not_eq_false', beq_iff_eq, beq_eq_false_iff_ne, ne_eq] at hq); omega) ?_ | fail)
      exact W_ret ⟨[_], ⟨rfl, rfl⟩, rfl⟩
    · have hyes : axB u i = true := by
        rw [hab]
        generalize inR a.x (lastX u.axles i) (u.length + u.rear) = b1 at *
        generalize inR a.limit 1 1048576 = b2 at *
        cases b1 <;> cases b2 <;> simp at hb ⊢ <;> omega
      repeat' (first | refine WK_go ?_ | refine W_seqL ?_ | refine W_seq ?_ | refine W_block ?_ | ((first | refine W_regL ?_ | refine W_skip ?_ | refine W_exit ?_); simp (maxSteps := 400000) (disch := omega) only [push_cast, ↓reduceIte, reduceCtorEq, Nat.reduceAdd, Nat.reduceSub, Nat.reduceEqDiff, Nat.reduceLeDiff, Nat.reduceLT, Nat.reduceBEq, Nat.reduceDiv, Nat.reduceMod, Nat.reducePow, Nat.reduceMul, Int.reduceToNat, Int.reduceLT, Int.reduceLE]) | refine And.intro (by omega) ?_ | refine And.intro (by intro hq; (try simp only [Bool.and_eq_true, Bool.or_eq_true, Bool.and_eq_false_iff, Bool.or_eq_false_iff, decide_eq_true_eq, decide_eq_false_iff_not, Bool.not_eq_true', Bool.not_eq_false', beq_iff_eq, beq_eq_false_iff_ne, ne_eq] at hq); omega) ?_ | fail)
      refine ⟨i + 1, ⟨by omega, up_all hall hyes⟩, by omega, by rfl, ?_⟩
      rw [hls]
      simp (maxSteps := 400000) (disch := omega) only [push_cast, ↓reduceIte, reduceCtorEq, Nat.reduceAdd, Nat.reduceSub, Nat.reduceEqDiff, Nat.reduceLeDiff, Nat.reduceLT, Nat.reduceBEq, Nat.reduceDiv, Nat.reduceMod, Nat.reducePow, Nat.reduceMul, Int.reduceToNat, Int.reduceLT, Int.reduceLE, S.mk.injEq, List.cons.injEq, Prod.mk.injEq, AV.v.injEq, Value.int.injEq, Value.bool.injEq, Blk.cells.injEq]
  · rw [axOK_yes (fun j hj => hall j (by omega))]
    repeat' (first | refine WK_go ?_ | refine W_seqL ?_ | refine W_seq ?_ | refine W_block ?_ | ((first | refine W_regL ?_ | refine W_skip ?_ | refine W_exit ?_); simp (maxSteps := 400000) (disch := omega) only [push_cast, ↓reduceIte, reduceCtorEq, Nat.reduceAdd, Nat.reduceSub, Nat.reduceEqDiff, Nat.reduceLeDiff, Nat.reduceLT, Nat.reduceBEq, Nat.reduceDiv, Nat.reduceMod, Nat.reducePow, Nat.reduceMul, Int.reduceToNat, Int.reduceLT, Int.reduceLE]) | refine And.intro (by omega) ?_ | refine And.intro (by intro hq; (try simp only [Bool.and_eq_true, Bool.or_eq_true, Bool.and_eq_false_iff, Bool.or_eq_false_iff, decide_eq_true_eq, decide_eq_false_iff_not, Bool.not_eq_true', Bool.not_eq_false', beq_iff_eq, beq_eq_false_iff_ne, ne_eq] at hq); omega) ?_ | fail)
    exact W_ret ⟨[_], ⟨rfl, rfl⟩, rfl⟩
theorem fn99 (u : Unt) : Sy.Fn Try.prog 99 [.agg (cU u)] (bv (decide (24 < u.axles.length))) := by
  refine Fn_of_W mixed Xt99 rfl ?_
  repeat' (first | refine WK_go ?_ | refine W_seqL ?_ | refine W_seq ?_ | refine W_block ?_ | ((first | refine W_regL ?_ | refine W_skip ?_ | refine W_exit ?_); simp (maxSteps := 400000) (disch := omega) only [push_cast, ↓reduceIte, reduceCtorEq, Nat.reduceAdd, Nat.reduceSub, Nat.reduceEqDiff, Nat.reduceLeDiff, Nat.reduceLT, Nat.reduceBEq, Nat.reduceDiv, Nat.reduceMod, Nat.reducePow, Nat.reduceMul, Int.reduceToNat, Int.reduceLT, Int.reduceLE]) | refine And.intro (by omega) ?_ | refine And.intro (by intro hq; (try simp only [Bool.and_eq_true, Bool.or_eq_true, Bool.and_eq_false_iff, Bool.or_eq_false_iff, decide_eq_true_eq, decide_eq_false_iff_not, Bool.not_eq_true', Bool.not_eq_false', beq_iff_eq, beq_eq_false_iff_ne, ne_eq] at hq); omega) ?_ | fail)
  have e : decide ((24 : Int) < u.axles.length) = decide (24 < u.axles.length) := by rw [Bool.eq_iff_iff]; simp only [decide_eq_true_eq]; omega
  rw [e]
  exact W_ret ⟨[_], ⟨rfl, rfl⟩, rfl⟩
theorem fn101 (u : Unt) (hl : u.axles.length ≤ 140737488355328) : Sy.Fn Try.prog 101 [.agg (cU u)] (bv (!unitB u)) := by
  refine Fn_of_W mixed Xt101 rfl ?_
  repeat' (first | refine WK_go ?_ | refine W_seqL ?_ | refine W_seq ?_ | refine W_block ?_ | ((first | refine W_regL ?_ | refine W_skip ?_ | refine W_exit ?_ | refine CallC.now (fn102 u hl) ?_); simp (maxSteps := 400000) (disch := omega) only [push_cast, ↓reduceIte, reduceCtorEq, Nat.reduceAdd, Nat.reduceSub, Nat.reduceEqDiff, Nat.reduceLeDiff, Nat.reduceLT, Nat.reduceBEq, Nat.reduceDiv, Nat.reduceMod, Nat.reducePow, Nat.reduceMul, Int.reduceToNat, Int.reduceLT, Int.reduceLE]) | refine And.intro (by omega) ?_ | refine And.intro (by intro hq; (try simp only [Bool.and_eq_true, Bool.or_eq_true, Bool.and_eq_false_iff, Bool.or_eq_false_iff, decide_eq_true_eq, decide_eq_false_iff_not, Bool.not_eq_true', Bool.not_eq_false', beq_iff_eq, beq_eq_false_iff_ne, ne_eq] at hq); omega) ?_ | fail)
  exact W_ret ⟨[_], ⟨rfl, rfl⟩, rfl⟩
theorem fn112 (l : List Unt) (hl : l.length ≤ 1000000) (g : Nat) (p : Unt → Bool) (hg : ∀ x ∈ l, Sy.Fn Try.prog g [.agg (cU x)] (bv (p x))) : Sy.Fn Try.prog 112 [aU l, .clo g [] []] (iv (idxF p l 0)) := by
  refine Fn_of_W mixed Xt112 rfl ?_
  repeat' (first | refine WK_go ?_ | refine W_seqL ?_ | refine W_seq ?_ | refine W_block ?_ | ((first | refine W_regL ?_ | refine W_skip ?_ | refine W_exit ?_); simp (maxSteps := 400000) (disch := omega) only [push_cast, ↓reduceIte, reduceCtorEq, Nat.reduceAdd, Nat.reduceSub, Nat.reduceEqDiff, Nat.reduceLeDiff, Nat.reduceLT, Nat.reduceBEq, Nat.reduceDiv, Nat.reduceMod, Nat.reducePow, Nat.reduceMul, Int.reduceToNat, Int.reduceLT, Int.reduceLE]) | refine And.intro (by omega) ?_ | refine And.intro (by intro hq; (try simp only [Bool.and_eq_true, Bool.or_eq_true, Bool.and_eq_false_iff, Bool.or_eq_false_iff, decide_eq_true_eq, decide_eq_false_iff_not, Bool.not_eq_true', Bool.not_eq_false', beq_iff_eq, beq_eq_false_iff_ne, ne_eq] at hq); omega) ?_ | fail)
  refine W_loopU (fun i : Nat => [(8, iv i)]) (fun i => []) (fun i => i ≤ l.length ∧ ∀ j, j < i → p (l.getD j dU) = false) (fun i => l.length - i) 0 ⟨by omega, fun j hj => by omega⟩ (by rfl) (by rfl) (fun i hi => ?_)
  obtain ⟨hi, hp⟩ := hi
  simp (maxSteps := 400000) (disch := omega) only [push_cast, ↓reduceIte, reduceCtorEq, Nat.reduceAdd, Nat.reduceSub, Nat.reduceEqDiff, Nat.reduceLeDiff, Nat.reduceLT, Nat.reduceBEq, Nat.reduceDiv, Nat.reduceMod, Nat.reducePow, Nat.reduceMul, Int.reduceToNat, Int.reduceLT, Int.reduceLE]
  repeat' (first | refine WK_go ?_ | refine W_seqL ?_ | refine W_seq ?_ | refine W_block ?_ | ((first | refine W_regL ?_ | refine W_skip ?_ | refine W_exit ?_); simp (maxSteps := 400000) (disch := omega) only [push_cast, ↓reduceIte, reduceCtorEq, Nat.reduceAdd, Nat.reduceSub, Nat.reduceEqDiff, Nat.reduceLeDiff, Nat.reduceLT, Nat.reduceBEq, Nat.reduceDiv, Nat.reduceMod, Nat.reducePow, Nat.reduceMul, Int.reduceToNat, Int.reduceLT, Int.reduceLE]) | refine And.intro (by omega) ?_ | refine And.intro (by intro hq; (try simp only [Bool.and_eq_true, Bool.or_eq_true, Bool.and_eq_false_iff, Bool.or_eq_false_iff, decide_eq_true_eq, decide_eq_false_iff_not, Bool.not_eq_true', Bool.not_eq_false', beq_iff_eq, beq_eq_false_iff_ne, ne_eq] at hq); omega) ?_ | fail)
  refine W_condD (by rfl) (fun h => ?_) (fun h => ?_)
  · have hlt : i < l.length := by omega
    have cg := hg _ (getD_mem dU l i hlt)
    repeat' (first | refine WK_go ?_ | refine W_seqL ?_ | refine W_seq ?_ | refine W_block ?_ | ((first | refine W_regL ?_ | refine W_skip ?_ | refine W_exit ?_ | refine CallC.now (cg) ?_); simp (maxSteps := 400000) (disch := omega) only [push_cast, ↓reduceIte, reduceCtorEq, Nat.reduceAdd, Nat.reduceSub, Nat.reduceEqDiff, Nat.reduceLeDiff, Nat.reduceLT, Nat.reduceBEq, Nat.reduceDiv, Nat.reduceMod, Nat.reducePow, Nat.reduceMul, Int.reduceToNat, Int.reduceLT, Int.reduceLE]) | refine And.intro (by omega) ?_ | refine And.intro (by intro hq; (try simp only [Bool.and_eq_true, Bool.or_eq_true, Bool.and_eq_false_iff, Bool.or_eq_false_iff, decide_eq_true_eq, decide_eq_false_iff_not, Bool.not_eq_true', Bool.not_eq_false', beq_iff_eq, beq_eq_false_iff_ne, ne_eq] at hq); omega) ?_ | fail)
    refine W_cond (by rfl) (fun hb => ?_) (fun hb => ?_)
    · repeat' (first | refine WK_go ?_ | refine W_seqL ?_ | refine W_seq ?_ | refine W_block ?_ | ((first | refine W_regL ?_ | refine W_skip ?_ | refine W_exit ?_); simp (maxSteps := 400000) (disch := omega) only [push_cast, ↓reduceIte, reduceCtorEq, Nat.reduceAdd, Nat.reduceSub, Nat.reduceEqDiff, Nat.reduceLeDiff, Nat.reduceLT, Nat.reduceBEq, Nat.reduceDiv, Nat.reduceMod, Nat.reducePow, Nat.reduceMul, Int.reduceToNat, Int.reduceLT, Int.reduceLE]) | refine And.intro (by omega) ?_ | refine And.intro (by intro hq; (try simp only [Bool.and_eq_true, Bool.or_eq_true, Bool.and_eq_false_iff, Bool.or_eq_false_iff, decide_eq_true_eq, decide_eq_false_iff_not, Bool.not_eq_true', Bool.not_eq_false', beq_iff_eq, beq_eq_false_iff_ne, ne_eq] at hq); omega) ?_ | fail)
      exact W_ret ⟨[_], ⟨rfl, rfl⟩, by rw [idxF_at p dU l i 0 hlt hp hb, Int.zero_add]; rfl⟩
    · repeat' (first | refine WK_go ?_ | refine W_seqL ?_ | refine W_seq ?_ | refine W_block ?_ | ((first | refine W_regL ?_ | refine W_skip ?_ | refine W_exit ?_); simp (maxSteps := 400000) (disch := omega) only [push_cast, ↓reduceIte, reduceCtorEq, Nat.reduceAdd, Nat.reduceSub, Nat.reduceEqDiff, Nat.reduceLeDiff, Nat.reduceLT, Nat.reduceBEq, Nat.reduceDiv, Nat.reduceMod, Nat.reducePow, Nat.reduceMul, Int.reduceToNat, Int.reduceLT, Int.reduceLE]) | refine And.intro (by omega) ?_ | refine And.intro (by intro hq; (try simp only [Bool.and_eq_true, Bool.or_eq_true, Bool.and_eq_false_iff, Bool.or_eq_false_iff, decide_eq_true_eq, decide_eq_false_iff_not, Bool.not_eq_true', Bool.not_eq_false', beq_iff_eq, beq_eq_false_iff_ne, ne_eq] at hq); omega) ?_ | fail)
      refine ⟨i + 1, ⟨by omega, up_all hp hb⟩, by omega, by rfl, ?_⟩
      simp (maxSteps := 400000) (disch := omega) only [push_cast, ↓reduceIte, reduceCtorEq, Nat.reduceAdd, Nat.reduceSub, Nat.reduceEqDiff, Nat.reduceLeDiff, Nat.reduceLT, Nat.reduceBEq, Nat.reduceDiv, Nat.reduceMod, Nat.reducePow, Nat.reduceMul, Int.reduceToNat, Int.reduceLT, Int.reduceLE, S.mk.injEq, List.cons.injEq, Prod.mk.injEq, AV.v.injEq, Value.int.injEq, Value.bool.injEq, Blk.cells.injEq]
  · repeat' (first | refine WK_go ?_ | refine W_seqL ?_ | refine W_seq ?_ | refine W_block ?_ | ((first | refine W_regL ?_ | refine W_skip ?_ | refine W_exit ?_); simp (maxSteps := 400000) (disch := omega) only [push_cast, ↓reduceIte, reduceCtorEq, Nat.reduceAdd, Nat.reduceSub, Nat.reduceEqDiff, Nat.reduceLeDiff, Nat.reduceLT, Nat.reduceBEq, Nat.reduceDiv, Nat.reduceMod, Nat.reducePow, Nat.reduceMul, Int.reduceToNat, Int.reduceLT, Int.reduceLE]) | refine And.intro (by omega) ?_ | refine And.intro (by intro hq; (try simp only [Bool.and_eq_true, Bool.or_eq_true, Bool.and_eq_false_iff, Bool.or_eq_false_iff, decide_eq_true_eq, decide_eq_false_iff_not, Bool.not_eq_true', Bool.not_eq_false', beq_iff_eq, beq_eq_false_iff_ne, ne_eq] at hq); omega) ?_ | fail)
    exact W_ret ⟨[_], ⟨rfl, rfl⟩, by rw [idxF_none p dU l 0 (fun j hj => hp j (by omega))]; rfl⟩
theorem fn98 (l : List Unt) (hl : l.length ≤ 1000000) (g : Nat) (p : Unt → Bool) (hg : ∀ x ∈ l, Sy.Fn Try.prog g [.agg (cU x)] (bv (p x))) : Sy.Fn Try.prog 98 [aU l, .clo g [] []] (bv (l.any p)) := by
  refine Fn_of_W mixed Xt98 rfl ?_
  repeat' (first | refine WK_go ?_ | refine W_seqL ?_ | refine W_seq ?_ | refine W_block ?_ | ((first | refine W_regL ?_ | refine W_skip ?_ | refine W_exit ?_ | refine CallC.now (fn112 l hl g p hg) ?_); simp (maxSteps := 400000) (disch := omega) only [push_cast, ↓reduceIte, reduceCtorEq, Nat.reduceAdd, Nat.reduceSub, Nat.reduceEqDiff, Nat.reduceLeDiff, Nat.reduceLT, Nat.reduceBEq, Nat.reduceDiv, Nat.reduceMod, Nat.reducePow, Nat.reduceMul, Int.reduceToNat, Int.reduceLT, Int.reduceLE]) | refine And.intro (by omega) ?_ | refine And.intro (by intro hq; (try simp only [Bool.and_eq_true, Bool.or_eq_true, Bool.and_eq_false_iff, Bool.or_eq_false_iff, decide_eq_true_eq, decide_eq_false_iff_not, Bool.not_eq_true', Bool.not_eq_false', beq_iff_eq, beq_eq_false_iff_ne, ne_eq] at hq); omega) ?_ | fail)
  exact W_ret ⟨[_], ⟨rfl, rfl⟩, by rw [← idxF_any p l 0 (by omega)]; rfl⟩
end Go.Proofs.Ytbdnnicodailcaa

/- Vehicles: Check. -/
namespace Go.Proofs.Ytbdnnicodailcaa
open Go Sy
set_option maxRecDepth 100000
set_option maxHeartbeats 4000000
set_option linter.unusedVariables false
set_option linter.unusedSimpArgs false
def manyB (v : Veh) : Bool := decide (12 < v.units.length) || v.units.any (fun u => decide (24 < u.axles.length))
def argP (v : Veh) : Prop := nameB v.name = false ∨ v.units.length = 0 ∨ (su v.units 0).kind ≠ 0 ∨ v.fr < 0 ∨ v.to < v.fr ∨ (v.units.length : Int) ≤ v.to
instance (v : Veh) : Decidable (argP v) := by unfold argP; infer_instance
def chkV (v : Veh) : Int := if manyB v = true then 6 else if argP v then 2 else if v.units.any (fun u => !unitB u) = true then 2 else 0
abbrev Gr (v : Veh) : Prop := v.units.length ≤ 20 ∧ ∀ u ∈ v.units, u.axles.length ≤ 40
theorem fn76 (v : Veh) (hv : Gr v) : Sy.Fn Try.prog 76 [.agg (cV v)] (iv (chkV v)) := by
  refine Fn_of_W mixed Xt76 rfl ?_
  have hl := hv.1
  have c1 := fn98 v.units (by omega) 99 (fun u => decide (24 < u.axles.length)) (fun u _ => fn99 u)
  have c2 := fn98 v.units (by omega) 101 (fun u => !unitB u) (fun u hu => fn101 u (by have := hv.2 u hu; omega))
  repeat' (first | refine WK_go ?_ | refine W_seqL ?_ | refine W_seq ?_ | refine W_block ?_ | ((first | refine W_regL ?_ | refine W_skip ?_ | refine W_exit ?_ | refine CallC.go _ (fun _ => ⟨trivial, c1⟩) rfl ?_); simp (maxSteps := 400000) (disch := omega) only [push_cast, ↓reduceIte, reduceCtorEq, Nat.reduceAdd, Nat.reduceSub, Nat.reduceEqDiff, Nat.reduceLeDiff, Nat.reduceLT, Nat.reduceBEq, Nat.reduceDiv, Nat.reduceMod, Nat.reducePow, Nat.reduceMul, Int.reduceToNat, Int.reduceLT, Int.reduceLE]) | refine And.intro (by omega) ?_ | refine And.intro (by intro hq; (try simp only [Bool.and_eq_true, Bool.or_eq_true, Bool.and_eq_false_iff, Bool.or_eq_false_iff, decide_eq_true_eq, decide_eq_false_iff_not, Bool.not_eq_true', Bool.not_eq_false', beq_iff_eq, beq_eq_false_iff_ne, ne_eq] at hq); omega) ?_ | fail)
  refine W_cond (by rfl) (fun h => ?_) (fun h => ?_)
  · have e : manyB v = true := by
      unfold manyB
      rw [← h]; congr 1; rw [Bool.eq_iff_iff]; simp only [decide_eq_true_eq]; omega
    unfold chkV
    rw [if_pos e]
    repeat' (first | refine WK_go ?_ | refine W_seqL ?_ | refine W_seq ?_ | refine W_block ?_ | ((first | refine W_regL ?_ | refine W_skip ?_ | refine W_exit ?_); simp (maxSteps := 400000) (disch := omega) only [push_cast, ↓reduceIte, reduceCtorEq, Nat.reduceAdd, Nat.reduceSub, Nat.reduceEqDiff, Nat.reduceLeDiff, Nat.reduceLT, Nat.reduceBEq, Nat.reduceDiv, Nat.reduceMod, Nat.reducePow, Nat.reduceMul, Int.reduceToNat, Int.reduceLT, Int.reduceLE]) | refine And.intro (by omega) ?_ | refine And.intro (by intro hq; (try simp only [Bool.and_eq_true, Bool.or_eq_true, Bool.and_eq_false_iff, Bool.or_eq_false_iff, decide_eq_true_eq, decide_eq_false_iff_not, Bool.not_eq_true', Bool.not_eq_false', beq_iff_eq, beq_eq_false_iff_ne, ne_eq] at hq); omega) ?_ | fail)
    exact W_ret ⟨[_], ⟨rfl, rfl⟩, rfl⟩
  have e : ¬ manyB v = true := by
    rw [Bool.not_eq_true]
    unfold manyB
    rw [← h]; congr 1; rw [Bool.eq_iff_iff]; simp only [decide_eq_true_eq]; omega
  unfold chkV
  rw [if_neg e]
  have hsu : v.units.getD 0 dU = su v.units 0 := rfl
  repeat' (first | refine WK_go ?_ | refine W_seqL ?_ | refine W_seq ?_ | refine W_block ?_ | ((first | refine W_regL ?_ | refine W_skip ?_ | refine W_exit ?_ | refine CallC.now (fn100 _) ?_); simp (maxSteps := 400000) (disch := omega) only [push_cast, ↓reduceIte, reduceCtorEq, Nat.reduceAdd, Nat.reduceSub, Nat.reduceEqDiff, Nat.reduceLeDiff, Nat.reduceLT, Nat.reduceBEq, Nat.reduceDiv, Nat.reduceMod, Nat.reducePow, Nat.reduceMul, Int.reduceToNat, Int.reduceLT, Int.reduceLE, hsu]) | refine And.intro (by omega) ?_ | refine And.intro (by intro hq; (try simp only [Bool.and_eq_true, Bool.or_eq_true, Bool.and_eq_false_iff, Bool.or_eq_false_iff, decide_eq_true_eq, decide_eq_false_iff_not, Bool.not_eq_true', Bool.not_eq_false', beq_iff_eq, beq_eq_false_iff_ne, ne_eq] at hq); omega) ?_ | fail)
  refine W_cond (by rfl) (fun h => ?_) (fun h => ?_)
  · have ea : argP v := by
      unfold argP
      generalize nameB v.name = b at *
      cases b
      · exact .inl rfl
      · right
        simp only [Bool.or_eq_true, Bool.or_eq_false_iff, decide_eq_true_eq, decide_eq_false_iff_not, bne_iff_ne, beq_iff_eq, beq_eq_false_iff_ne, bne_eq_false_iff_eq, Bool.not_true, Bool.not_false, Bool.false_eq_true, false_or, true_and, reduceCtorEq, ne_eq] at h ⊢
        omega
    rw [if_pos ea]
    repeat' (first | refine WK_go ?_ | refine W_seqL ?_ | refine W_seq ?_ | refine W_block ?_ | ((first | refine W_regL ?_ | refine W_skip ?_ | refine W_exit ?_); simp (maxSteps := 400000) (disch := omega) only [push_cast, ↓reduceIte, reduceCtorEq, Nat.reduceAdd, Nat.reduceSub, Nat.reduceEqDiff, Nat.reduceLeDiff, Nat.reduceLT, Nat.reduceBEq, Nat.reduceDiv, Nat.reduceMod, Nat.reducePow, Nat.reduceMul, Int.reduceToNat, Int.reduceLT, Int.reduceLE]) | refine And.intro (by omega) ?_ | refine And.intro (by intro hq; (try simp only [Bool.and_eq_true, Bool.or_eq_true, Bool.and_eq_false_iff, Bool.or_eq_false_iff, decide_eq_true_eq, decide_eq_false_iff_not, Bool.not_eq_true', Bool.not_eq_false', beq_iff_eq, beq_eq_false_iff_ne, ne_eq] at hq); omega) ?_ | fail)
    exact W_ret ⟨[_], ⟨rfl, rfl⟩, rfl⟩
  have ea : ¬ argP v := by
    unfold argP
    generalize nameB v.name = b at *
    cases b
    · simp at h
    · simp only [Bool.or_eq_true, Bool.or_eq_false_iff, decide_eq_true_eq, decide_eq_false_iff_not, bne_iff_ne, beq_iff_eq, beq_eq_false_iff_ne, bne_eq_false_iff_eq, Bool.not_true, Bool.not_false, Bool.false_eq_true, false_or, true_and, reduceCtorEq, ne_eq] at h ⊢
      omega
  rw [if_neg ea]
  repeat' (first | refine WK_go ?_ | refine W_seqL ?_ | refine W_seq ?_ | refine W_block ?_ | ((first | refine W_regL ?_ | refine W_skip ?_ | refine W_exit ?_ | refine CallC.now (c2) ?_); simp (maxSteps := 400000) (disch := omega) only [push_cast, ↓reduceIte, reduceCtorEq, Nat.reduceAdd, Nat.reduceSub, Nat.reduceEqDiff, Nat.reduceLeDiff, Nat.reduceLT, Nat.reduceBEq, Nat.reduceDiv, Nat.reduceMod, Nat.reducePow, Nat.reduceMul, Int.reduceToNat, Int.reduceLT, Int.reduceLE]) | refine And.intro (by omega) ?_ | refine And.intro (by intro hq; (try simp only [Bool.and_eq_true, Bool.or_eq_true, Bool.and_eq_false_iff, Bool.or_eq_false_iff, decide_eq_true_eq, decide_eq_false_iff_not, Bool.not_eq_true', Bool.not_eq_false', beq_iff_eq, beq_eq_false_iff_ne, ne_eq] at hq); omega) ?_ | fail)
  refine W_cond (by rfl) (fun h => ?_) (fun h => ?_)
  · rw [if_pos h]
    repeat' (first | refine WK_go ?_ | refine W_seqL ?_ | refine W_seq ?_ | refine W_block ?_ | ((first | refine W_regL ?_ | refine W_skip ?_ | refine W_exit ?_); simp (maxSteps := 400000) (disch := omega) only [push_cast, ↓reduceIte, reduceCtorEq, Nat.reduceAdd, Nat.reduceSub, Nat.reduceEqDiff, Nat.reduceLeDiff, Nat.reduceLT, Nat.reduceBEq, Nat.reduceDiv, Nat.reduceMod, Nat.reducePow, Nat.reduceMul, Int.reduceToNat, Int.reduceLT, Int.reduceLE]) | refine And.intro (by omega) ?_ | refine And.intro (by intro hq; (try simp only [Bool.and_eq_true, Bool.or_eq_true, Bool.and_eq_false_iff, Bool.or_eq_false_iff, decide_eq_true_eq, decide_eq_false_iff_not, Bool.not_eq_true', Bool.not_eq_false', beq_iff_eq, beq_eq_false_iff_ne, ne_eq] at hq); omega) ?_ | fail)
    exact W_ret ⟨[_], ⟨rfl, rfl⟩, rfl⟩
  · rw [if_neg (by rw [h]; decide)]
    repeat' (first | refine WK_go ?_ | refine W_seqL ?_ | refine W_seq ?_ | refine W_block ?_ | ((first | refine W_regL ?_ | refine W_skip ?_ | refine W_exit ?_); simp (maxSteps := 400000) (disch := omega) only [push_cast, ↓reduceIte, reduceCtorEq, Nat.reduceAdd, Nat.reduceSub, Nat.reduceEqDiff, Nat.reduceLeDiff, Nat.reduceLT, Nat.reduceBEq, Nat.reduceDiv, Nat.reduceMod, Nat.reducePow, Nat.reduceMul, Int.reduceToNat, Int.reduceLT, Int.reduceLE]) | refine And.intro (by omega) ?_ | refine And.intro (by intro hq; (try simp only [Bool.and_eq_true, Bool.or_eq_true, Bool.and_eq_false_iff, Bool.or_eq_false_iff, decide_eq_true_eq, decide_eq_false_iff_not, Bool.not_eq_true', Bool.not_eq_false', beq_iff_eq, beq_eq_false_iff_ne, ne_eq] at hq); omega) ?_ | fail)
    exact W_ret ⟨[_], ⟨rfl, rfl⟩, rfl⟩
theorem any_at {α : Type} {p : α → Bool} {d : α} {l : List α} {i : Nat} (hi : i < l.length) (h : p (l.getD i d) = true) : l.any p = true := List.any_eq_true.2 ⟨_, getD_mem d l i hi, h⟩
theorem any_no {α : Type} {p : α → Bool} {d : α} {l : List α} (h : ∀ j, j < l.length → p (l.getD j d) = false) : l.any p = false := by
  rw [← Bool.not_eq_true, List.any_eq_true]
  rintro ⟨x, hx, hp⟩
  obtain ⟨j, hj, rfl⟩ := List.getElem_of_mem hx
  have := h j hj
  simp [List.getD, hj] at this
  rw [this] at hp; cases hp
theorem fn80 (v : Veh) (hv : Gr v) : Sy.Fn Try.prog 80 [.agg (cV v)] (iv (chkV v)) := by
  refine Fn_of_W mixed Xt80 rfl ?_
  have hl := hv.1
  have hax : ∀ j, j < v.units.length → (su v.units j).axles.length ≤ 40 := fun j hj => hv.2 _ (getD_mem dU _ j hj)
  have hsu : ∀ j, v.units.getD j dU = su v.units j := fun j => rfl
  repeat' (first | refine WK_go ?_ | refine W_seqL ?_ | refine W_seq ?_ | refine W_block ?_ | ((first | refine W_regL ?_ | refine W_skip ?_ | refine W_exit ?_); simp (maxSteps := 400000) (disch := omega) only [push_cast, ↓reduceIte, reduceCtorEq, Nat.reduceAdd, Nat.reduceSub, Nat.reduceEqDiff, Nat.reduceLeDiff, Nat.reduceLT, Nat.reduceBEq, Nat.reduceDiv, Nat.reduceMod, Nat.reducePow, Nat.reduceMul, Int.reduceToNat, Int.reduceLT, Int.reduceLE]) | refine And.intro (by omega) ?_ | refine And.intro (by intro hq; (try simp only [Bool.and_eq_true, Bool.or_eq_true, Bool.and_eq_false_iff, Bool.or_eq_false_iff, decide_eq_true_eq, decide_eq_false_iff_not, Bool.not_eq_true', Bool.not_eq_false', beq_iff_eq, beq_eq_false_iff_ne, ne_eq] at hq); omega) ?_ | fail)
  refine W_condD (by rfl) (fun h12 => ?_) (fun h12 => ?_)
  · have e : manyB v = true := by unfold manyB; rw [decide_eq_true (by omega), Bool.true_or]
    unfold chkV
    rw [if_pos e]
    repeat' (first | refine WK_go ?_ | refine W_seqL ?_ | refine W_seq ?_ | refine W_block ?_ | ((first | refine W_regL ?_ | refine W_skip ?_ | refine W_exit ?_); simp (maxSteps := 400000) (disch := omega) only [push_cast, ↓reduceIte, reduceCtorEq, Nat.reduceAdd, Nat.reduceSub, Nat.reduceEqDiff, Nat.reduceLeDiff, Nat.reduceLT, Nat.reduceBEq, Nat.reduceDiv, Nat.reduceMod, Nat.reducePow, Nat.reduceMul, Int.reduceToNat, Int.reduceLT, Int.reduceLE]) | refine And.intro (by omega) ?_ | refine And.intro (by intro hq; (try simp only [Bool.and_eq_true, Bool.or_eq_true, Bool.and_eq_false_iff, Bool.or_eq_false_iff, decide_eq_true_eq, decide_eq_false_iff_not, Bool.not_eq_true', Bool.not_eq_false', beq_iff_eq, beq_eq_false_iff_ne, ne_eq] at hq); omega) ?_ | fail)
    exact W_ret ⟨[_], ⟨rfl, rfl⟩, rfl⟩
  repeat' (first | refine WK_go ?_ | refine W_seqL ?_ | refine W_seq ?_ | refine W_block ?_ | ((first | refine W_regL ?_ | refine W_skip ?_ | refine W_exit ?_); simp (maxSteps := 400000) (disch := omega) only [push_cast, ↓reduceIte, reduceCtorEq, Nat.reduceAdd, Nat.reduceSub, Nat.reduceEqDiff, Nat.reduceLeDiff, Nat.reduceLT, Nat.reduceBEq, Nat.reduceDiv, Nat.reduceMod, Nat.reducePow, Nat.reduceMul, Int.reduceToNat, Int.reduceLT, Int.reduceLE]) | refine And.intro (by omega) ?_ | refine And.intro (by intro hq; (try simp only [Bool.and_eq_true, Bool.or_eq_true, Bool.and_eq_false_iff, Bool.or_eq_false_iff, decide_eq_true_eq, decide_eq_false_iff_not, Bool.not_eq_true', Bool.not_eq_false', beq_iff_eq, beq_eq_false_iff_ne, ne_eq] at hq); omega) ?_ | fail)
  refine W_loopU (fun i : Nat => [(3, iv i)]) (fun i => []) (fun i => i ≤ v.units.length ∧ ∀ j, j < i → decide (24 < (su v.units j).axles.length) = false) (fun i => v.units.length - i) 0 ⟨by omega, fun j hj => by omega⟩ (by rfl) (by rfl) (fun i hi => ?_)
  obtain ⟨hi, hall⟩ := hi
  simp (maxSteps := 400000) (disch := omega) only [push_cast, ↓reduceIte, reduceCtorEq, Nat.reduceAdd, Nat.reduceSub, Nat.reduceEqDiff, Nat.reduceLeDiff, Nat.reduceLT, Nat.reduceBEq, Nat.reduceDiv, Nat.reduceMod, Nat.reducePow, Nat.reduceMul, Int.reduceToNat, Int.reduceLT, Int.reduceLE]
  repeat' (first | refine WK_go ?_ | refine W_seqL ?_ | refine W_seq ?_ | refine W_block ?_ | ((first | refine W_regL ?_ | refine W_skip ?_ | refine W_exit ?_); simp (maxSteps := 400000) (disch := omega) only [push_cast, ↓reduceIte, reduceCtorEq, Nat.reduceAdd, Nat.reduceSub, Nat.reduceEqDiff, Nat.reduceLeDiff, Nat.reduceLT, Nat.reduceBEq, Nat.reduceDiv, Nat.reduceMod, Nat.reducePow, Nat.reduceMul, Int.reduceToNat, Int.reduceLT, Int.reduceLE]) | refine And.intro (by omega) ?_ | refine And.intro (by intro hq; (try simp only [Bool.and_eq_true, Bool.or_eq_true, Bool.and_eq_false_iff, Bool.or_eq_false_iff, decide_eq_true_eq, decide_eq_false_iff_not, Bool.not_eq_true', Bool.not_eq_false', beq_iff_eq, beq_eq_false_iff_ne, ne_eq] at hq); omega) ?_ | fail)
  refine W_condD (by rfl) (fun h5 => ?_) (fun h5 => ?_)
  · have hlt : i < v.units.length := by omega
    have := hax i hlt
    repeat' (first | refine WK_go ?_ | refine W_seqL ?_ | refine W_seq ?_ | refine W_block ?_ | ((first | refine W_regL ?_ | refine W_skip ?_ | refine W_exit ?_); simp (maxSteps := 400000) (disch := omega) only [push_cast, ↓reduceIte, reduceCtorEq, Nat.reduceAdd, Nat.reduceSub, Nat.reduceEqDiff, Nat.reduceLeDiff, Nat.reduceLT, Nat.reduceBEq, Nat.reduceDiv, Nat.reduceMod, Nat.reducePow, Nat.reduceMul, Int.reduceToNat, Int.reduceLT, Int.reduceLE, hsu]) | refine And.intro (by omega) ?_ | refine And.intro (by intro hq; (try simp only [Bool.and_eq_true, Bool.or_eq_true, Bool.and_eq_false_iff, Bool.or_eq_false_iff, decide_eq_true_eq, decide_eq_false_iff_not, Bool.not_eq_true', Bool.not_eq_false', beq_iff_eq, beq_eq_false_iff_ne, ne_eq] at hq); omega) ?_ | fail)
    refine W_condD (by rfl) (fun hb => ?_) (fun hb => ?_)
    · have e : manyB v = true := by unfold manyB; rw [any_at (d := dU) hlt (decide_eq_true (by rw [hsu]; omega)), Bool.or_true]
      unfold chkV
      rw [if_pos e]
      repeat' (first | refine WK_go ?_ | refine W_seqL ?_ | refine W_seq ?_ | refine W_block ?_ | ((first | refine W_regL ?_ | refine W_skip ?_ | refine W_exit ?_); simp (maxSteps := 400000) (disch := omega) only [push_cast, ↓reduceIte, reduceCtorEq, Nat.reduceAdd, Nat.reduceSub, Nat.reduceEqDiff, Nat.reduceLeDiff, Nat.reduceLT, Nat.reduceBEq, Nat.reduceDiv, Nat.reduceMod, Nat.reducePow, Nat.reduceMul, Int.reduceToNat, Int.reduceLT, Int.reduceLE]) | refine And.intro (by omega) ?_ | refine And.intro (by intro hq; (try simp only [Bool.and_eq_true, Bool.or_eq_true, Bool.and_eq_false_iff, Bool.or_eq_false_iff, decide_eq_true_eq, decide_eq_false_iff_not, Bool.not_eq_true', Bool.not_eq_false', beq_iff_eq, beq_eq_false_iff_ne, ne_eq] at hq); omega) ?_ | fail)
      exact W_ret ⟨[_], ⟨rfl, rfl⟩, rfl⟩
    · repeat' (first | refine WK_go ?_ | refine W_seqL ?_ | refine W_seq ?_ | refine W_block ?_ | ((first | refine W_regL ?_ | refine W_skip ?_ | refine W_exit ?_); simp (maxSteps := 400000) (disch := omega) only [push_cast, ↓reduceIte, reduceCtorEq, Nat.reduceAdd, Nat.reduceSub, Nat.reduceEqDiff, Nat.reduceLeDiff, Nat.reduceLT, Nat.reduceBEq, Nat.reduceDiv, Nat.reduceMod, Nat.reducePow, Nat.reduceMul, Int.reduceToNat, Int.reduceLT, Int.reduceLE]) | refine And.intro (by omega) ?_ | refine And.intro (by intro hq; (try simp only [Bool.and_eq_true, Bool.or_eq_true, Bool.and_eq_false_iff, Bool.or_eq_false_iff, decide_eq_true_eq, decide_eq_false_iff_not, Bool.not_eq_true', Bool.not_eq_false', beq_iff_eq, beq_eq_false_iff_ne, ne_eq] at hq); omega) ?_ | fail)
      refine ⟨i + 1, ⟨by omega, up_all hall (decide_eq_false (by omega))⟩, by omega, by rfl, ?_⟩
      simp (maxSteps := 400000) (disch := omega) only [push_cast, ↓reduceIte, reduceCtorEq, Nat.reduceAdd, Nat.reduceSub, Nat.reduceEqDiff, Nat.reduceLeDiff, Nat.reduceLT, Nat.reduceBEq, Nat.reduceDiv, Nat.reduceMod, Nat.reducePow, Nat.reduceMul, Int.reduceToNat, Int.reduceLT, Int.reduceLE, S.mk.injEq, List.cons.injEq, Prod.mk.injEq, AV.v.injEq, Value.int.injEq, Value.bool.injEq, Blk.cells.injEq]
  have e : ¬ manyB v = true := by unfold manyB; rw [decide_eq_false (by omega), any_no (d := dU) (fun j hj => hall j (by omega))]; decide
  unfold chkV
  rw [if_neg e]
  repeat' (first | refine WK_go ?_ | refine W_seqL ?_ | refine W_seq ?_ | refine W_block ?_ | ((first | refine W_regL ?_ | refine W_skip ?_ | refine W_exit ?_ | refine CallC.now (fn105 _) ?_); simp (maxSteps := 400000) (disch := omega) only [push_cast, ↓reduceIte, reduceCtorEq, Nat.reduceAdd, Nat.reduceSub, Nat.reduceEqDiff, Nat.reduceLeDiff, Nat.reduceLT, Nat.reduceBEq, Nat.reduceDiv, Nat.reduceMod, Nat.reducePow, Nat.reduceMul, Int.reduceToNat, Int.reduceLT, Int.reduceLE, hsu]) | refine And.intro (by omega) ?_ | refine And.intro (by intro hq; (try simp only [Bool.and_eq_true, Bool.or_eq_true, Bool.and_eq_false_iff, Bool.or_eq_false_iff, decide_eq_true_eq, decide_eq_false_iff_not, Bool.not_eq_true', Bool.not_eq_false', beq_iff_eq, beq_eq_false_iff_ne, ne_eq] at hq); omega) ?_ | fail)
  refine W_cond (by rfl) (fun h => ?_) (fun h => ?_)
  · have ea : argP v := by
      unfold argP
      generalize nameB v.name = b at *
      cases b
      · exact .inl rfl
      · right
        simp only [Bool.or_eq_true, Bool.or_eq_false_iff, decide_eq_true_eq, decide_eq_false_iff_not, bne_iff_ne, beq_iff_eq, beq_eq_false_iff_ne, bne_eq_false_iff_eq, Bool.not_true, Bool.not_false, Bool.false_eq_true, false_or, true_and, reduceCtorEq, ne_eq] at h ⊢
        omega
    rw [if_pos ea]
    repeat' (first | refine WK_go ?_ | refine W_seqL ?_ | refine W_seq ?_ | refine W_block ?_ | ((first | refine W_regL ?_ | refine W_skip ?_ | refine W_exit ?_); simp (maxSteps := 400000) (disch := omega) only [push_cast, ↓reduceIte, reduceCtorEq, Nat.reduceAdd, Nat.reduceSub, Nat.reduceEqDiff, Nat.reduceLeDiff, Nat.reduceLT, Nat.reduceBEq, Nat.reduceDiv, Nat.reduceMod, Nat.reducePow, Nat.reduceMul, Int.reduceToNat, Int.reduceLT, Int.reduceLE]) | refine And.intro (by omega) ?_ | refine And.intro (by intro hq; (try simp only [Bool.and_eq_true, Bool.or_eq_true, Bool.and_eq_false_iff, Bool.or_eq_false_iff, decide_eq_true_eq, decide_eq_false_iff_not, Bool.not_eq_true', Bool.not_eq_false', beq_iff_eq, beq_eq_false_iff_ne, ne_eq] at hq); omega) ?_ | fail)
    exact W_ret ⟨[_], ⟨rfl, rfl⟩, rfl⟩
  have ea : ¬ argP v := by
    unfold argP
    generalize nameB v.name = b at *
    cases b
    · simp at h
    · simp only [Bool.or_eq_true, Bool.or_eq_false_iff, decide_eq_true_eq, decide_eq_false_iff_not, bne_iff_ne, beq_iff_eq, beq_eq_false_iff_ne, bne_eq_false_iff_eq, Bool.not_true, Bool.not_false, Bool.false_eq_true, false_or, true_and, reduceCtorEq, ne_eq] at h ⊢
      omega
  rw [if_neg ea]
  repeat' (first | refine WK_go ?_ | refine W_seqL ?_ | refine W_seq ?_ | refine W_block ?_ | ((first | refine W_regL ?_ | refine W_skip ?_ | refine W_exit ?_); simp (maxSteps := 400000) (disch := omega) only [push_cast, ↓reduceIte, reduceCtorEq, Nat.reduceAdd, Nat.reduceSub, Nat.reduceEqDiff, Nat.reduceLeDiff, Nat.reduceLT, Nat.reduceBEq, Nat.reduceDiv, Nat.reduceMod, Nat.reducePow, Nat.reduceMul, Int.reduceToNat, Int.reduceLT, Int.reduceLE]) | refine And.intro (by omega) ?_ | refine And.intro (by intro hq; (try simp only [Bool.and_eq_true, Bool.or_eq_true, Bool.and_eq_false_iff, Bool.or_eq_false_iff, decide_eq_true_eq, decide_eq_false_iff_not, Bool.not_eq_true', Bool.not_eq_false', beq_iff_eq, beq_eq_false_iff_ne, ne_eq] at hq); omega) ?_ | fail)
  refine W_loopU (fun i : Nat => [(4, iv i)]) (fun i => []) (fun i => i ≤ v.units.length ∧ ∀ j, j < i → (!unitB (su v.units j)) = false) (fun i => v.units.length - i) 0 ⟨by omega, fun j hj => by omega⟩ (by rfl) (by rfl) (fun i hi => ?_)
  obtain ⟨hi, hall2⟩ := hi
  simp (maxSteps := 400000) (disch := omega) only [push_cast, ↓reduceIte, reduceCtorEq, Nat.reduceAdd, Nat.reduceSub, Nat.reduceEqDiff, Nat.reduceLeDiff, Nat.reduceLT, Nat.reduceBEq, Nat.reduceDiv, Nat.reduceMod, Nat.reducePow, Nat.reduceMul, Int.reduceToNat, Int.reduceLT, Int.reduceLE]
  repeat' (first | refine WK_go ?_ | refine W_seqL ?_ | refine W_seq ?_ | refine W_block ?_ | ((first | refine W_regL ?_ | refine W_skip ?_ | refine W_exit ?_); simp (maxSteps := 400000) (disch := omega) only [push_cast, ↓reduceIte, reduceCtorEq, Nat.reduceAdd, Nat.reduceSub, Nat.reduceEqDiff, Nat.reduceLeDiff, Nat.reduceLT, Nat.reduceBEq, Nat.reduceDiv, Nat.reduceMod, Nat.reducePow, Nat.reduceMul, Int.reduceToNat, Int.reduceLT, Int.reduceLE]) | refine And.intro (by omega) ?_ | refine And.intro (by intro hq; (try simp only [Bool.and_eq_true, Bool.or_eq_true, Bool.and_eq_false_iff, Bool.or_eq_false_iff, decide_eq_true_eq, decide_eq_false_iff_not, Bool.not_eq_true', Bool.not_eq_false', beq_iff_eq, beq_eq_false_iff_ne, ne_eq] at hq); omega) ?_ | fail)
  refine W_condD (by rfl) (fun h5 => ?_) (fun h5 => ?_)
  · have hlt : i < v.units.length := by omega
    have := hax i hlt
    have c106 := fn106 (su v.units i) (by omega)
    repeat' (first | refine WK_go ?_ | refine W_seqL ?_ | refine W_seq ?_ | refine W_block ?_ | ((first | refine W_regL ?_ | refine W_skip ?_ | refine W_exit ?_ | refine CallC.now (c106) ?_); simp (maxSteps := 400000) (disch := omega) only [push_cast, ↓reduceIte, reduceCtorEq, Nat.reduceAdd, Nat.reduceSub, Nat.reduceEqDiff, Nat.reduceLeDiff, Nat.reduceLT, Nat.reduceBEq, Nat.reduceDiv, Nat.reduceMod, Nat.reducePow, Nat.reduceMul, Int.reduceToNat, Int.reduceLT, Int.reduceLE, hsu]) | refine And.intro (by omega) ?_ | refine And.intro (by intro hq; (try simp only [Bool.and_eq_true, Bool.or_eq_true, Bool.and_eq_false_iff, Bool.or_eq_false_iff, decide_eq_true_eq, decide_eq_false_iff_not, Bool.not_eq_true', Bool.not_eq_false', beq_iff_eq, beq_eq_false_iff_ne, ne_eq] at hq); omega) ?_ | fail)
    refine W_cond (by rfl) (fun hb => ?_) (fun hb => ?_)
    · rw [any_at (d := dU) hlt hb, if_pos rfl]
      repeat' (first | refine WK_go ?_ | refine W_seqL ?_ | refine W_seq ?_ | refine W_block ?_ | ((first | refine W_regL ?_ | refine W_skip ?_ | refine W_exit ?_); simp (maxSteps := 400000) (disch := omega) only [push_cast, ↓reduceIte, reduceCtorEq, Nat.reduceAdd, Nat.reduceSub, Nat.reduceEqDiff, Nat.reduceLeDiff, Nat.reduceLT, Nat.reduceBEq, Nat.reduceDiv, Nat.reduceMod, Nat.reducePow, Nat.reduceMul, Int.reduceToNat, Int.reduceLT, Int.reduceLE]) | refine And.intro (by omega) ?_ | refine And.intro (by intro hq; (try simp only [Bool.and_eq_true, Bool.or_eq_true, Bool.and_eq_false_iff, Bool.or_eq_false_iff, decide_eq_true_eq, decide_eq_false_iff_not, Bool.not_eq_true', Bool.not_eq_false', beq_iff_eq, beq_eq_false_iff_ne, ne_eq] at hq); omega) ?_ | fail)
      exact W_ret ⟨[_], ⟨rfl, rfl⟩, rfl⟩
    · repeat' (first | refine WK_go ?_ | refine W_seqL ?_ | refine W_seq ?_ | refine W_block ?_ | ((first | refine W_regL ?_ | refine W_skip ?_ | refine W_exit ?_); simp (maxSteps := 400000) (disch := omega) only [push_cast, ↓reduceIte, reduceCtorEq, Nat.reduceAdd, Nat.reduceSub, Nat.reduceEqDiff, Nat.reduceLeDiff, Nat.reduceLT, Nat.reduceBEq, Nat.reduceDiv, Nat.reduceMod, Nat.reducePow, Nat.reduceMul, Int.reduceToNat, Int.reduceLT, Int.reduceLE]) | refine And.intro (by omega) ?_ | refine And.intro (by intro hq; (try simp only [Bool.and_eq_true, Bool.or_eq_true, Bool.and_eq_false_iff, Bool.or_eq_false_iff, decide_eq_true_eq, decide_eq_false_iff_not, Bool.not_eq_true', Bool.not_eq_false', beq_iff_eq, beq_eq_false_iff_ne, ne_eq] at hq); omega) ?_ | fail)
      refine ⟨i + 1, ⟨by omega, up_all hall2 hb⟩, by omega, by rfl, ?_⟩
      simp (maxSteps := 400000) (disch := omega) only [push_cast, ↓reduceIte, reduceCtorEq, Nat.reduceAdd, Nat.reduceSub, Nat.reduceEqDiff, Nat.reduceLeDiff, Nat.reduceLT, Nat.reduceBEq, Nat.reduceDiv, Nat.reduceMod, Nat.reducePow, Nat.reduceMul, Int.reduceToNat, Int.reduceLT, Int.reduceLE, S.mk.injEq, List.cons.injEq, Prod.mk.injEq, AV.v.injEq, Value.int.injEq, Value.bool.injEq, Blk.cells.injEq]
  rw [any_no (d := dU) (fun j hj => hall2 j (by omega)), if_neg (by decide)]
  repeat' (first | refine WK_go ?_ | refine W_seqL ?_ | refine W_seq ?_ | refine W_block ?_ | ((first | refine W_regL ?_ | refine W_skip ?_ | refine W_exit ?_); simp (maxSteps := 400000) (disch := omega) only [push_cast, ↓reduceIte, reduceCtorEq, Nat.reduceAdd, Nat.reduceSub, Nat.reduceEqDiff, Nat.reduceLeDiff, Nat.reduceLT, Nat.reduceBEq, Nat.reduceDiv, Nat.reduceMod, Nat.reducePow, Nat.reduceMul, Int.reduceToNat, Int.reduceLT, Int.reduceLE]) | refine And.intro (by omega) ?_ | refine And.intro (by intro hq; (try simp only [Bool.and_eq_true, Bool.or_eq_true, Bool.and_eq_false_iff, Bool.or_eq_false_iff, decide_eq_true_eq, decide_eq_false_iff_not, Bool.not_eq_true', Bool.not_eq_false', beq_iff_eq, beq_eq_false_iff_ne, ne_eq] at hq); omega) ?_ | fail)
  exact W_ret ⟨[_], ⟨rfl, rfl⟩, rfl⟩
end Go.Proofs.Ytbdnnicodailcaa

/- The train of a vehicle: plain. -/
namespace Go.Proofs.Ytbdnnicodailcaa
open Go Sy
set_option maxRecDepth 100000
set_option maxHeartbeats 4000000
set_option linter.unusedVariables false
set_option linter.unusedSimpArgs false
theorem chkV_ok {v : Veh} (h : chkV v = 0) : v.units.length ≤ 12 ∧ (∀ i, i < v.units.length → hd1 (su v.units i) ∧ hd2 (su v.units i) ∧ (su v.units i).axles.length ≤ 24) ∧ 0 < v.units.length ∧ 0 ≤ v.fr ∧ v.fr ≤ v.to ∧ v.to < v.units.length := by
  unfold chkV at h
  by_cases h1 : manyB v = true
  · rw [if_pos h1] at h; omega
  rw [if_neg h1] at h
  by_cases h2 : argP v
  · rw [if_pos h2] at h; omega
  rw [if_neg h2] at h
  by_cases h3 : (v.units.any fun u => !unitB u) = true
  · rw [if_pos h3] at h; omega
  rw [Bool.not_eq_true] at h1 h3
  unfold manyB at h1
  rw [Bool.or_eq_false_iff, decide_eq_false_iff_not, ← Bool.not_eq_true, List.any_eq_true] at h1
  rw [← Bool.not_eq_true, List.any_eq_true] at h3
  unfold argP at h2
  simp only [not_or] at h2
  refine ⟨by omega, fun i hi => ?_, by omega, by omega, by omega, by omega⟩
  have hm := getD_mem dU v.units i hi
  have hu : unitB (su v.units i) = true := by
    rw [← Bool.not_eq_false]
    intro q
    exact h3 ⟨_, hm, by rw [q]; rfl⟩
  unfold unitB at hu
  simp only [Bool.and_eq_true, decide_eq_true_eq] at hu
  refine ⟨hu.1.1, hu.1.2, ?_⟩
  apply Classical.byContradiction
  intro q
  exact h1.2 ⟨_, hm, decide_eq_true (show 24 < (su v.units i).axles.length by omega)⟩
theorem sa_get {l : List Axl} {j : Nat} (h : j < l.length) : sa l j = l[j] := by simp [sa, List.getD, h]
theorem sf_get {l : List Frc} {j : Nat} (h : j < l.length) : sf l j = l[j] := by simp [sf, List.getD, h]
theorem chkV_ax {v : Veh} (h : chkV v = 0) {i : Nat} (hi : i < v.units.length) {j : Nat} (hj : j < (su v.units i).axles.length) : 0 ≤ (sa (su v.units i).axles j).x ∧ (sa (su v.units i).axles j).x ≤ 262144 := by
  obtain ⟨_, h1, _⟩ := chkV_ok h
  have hh := (h1 i hi).1
  have hu : axOK (su v.units i) = true := by
    unfold chkV at h
    by_cases q1 : manyB v = true
    · rw [if_pos q1] at h; omega
    rw [if_neg q1] at h
    by_cases q2 : argP v
    · rw [if_pos q2] at h; omega
    rw [if_neg q2] at h
    by_cases q3 : (v.units.any fun u => !unitB u) = true
    · rw [if_pos q3] at h; omega
    rw [List.any_eq_true] at q3
    have hm := getD_mem dU v.units i hi
    have : unitB (su v.units i) = true := by
      rw [← Bool.not_eq_false]
      intro q
      exact q3 ⟨_, hm, by rw [q]; rfl⟩
    unfold unitB at this
    simp only [Bool.and_eq_true] at this
    exact this.2
  generalize su v.units i = u at *
  have hall := all_of hu
  have key : ∀ j, j < u.axles.length → 0 ≤ (sa u.axles j).x ∧ (sa u.axles j).x ≤ u.length + u.rear := by
    intro j
    induction j with
    | zero =>
      intro hj
      have := hall 0 hj
      unfold axB at this
      simp only [Bool.and_eq_true, inR_iff] at this
      have h0 : lastX u.axles 0 = 0 := rfl
      omega
    | succ j ih =>
      intro hj
      have := hall (j + 1) hj
      unfold axB at this
      simp only [Bool.and_eq_true, inR_iff] at this
      have h0 : lastX u.axles (j + 1) = (sa u.axles j).x := rfl
      have := ih (by omega)
      omega
  have := key j hj
  unfold hd1 at hh
  omega
/-- where units begin -/
def frnt (us : List Unt) : Nat → Int
  | 0 => 0
  | n + 1 => frnt us n + ((su us n).length + (su us n).behind)
theorem frnt_rng {v : Veh} (h : chkV v = 0) : ∀ n, n ≤ v.units.length → 0 ≤ frnt v.units n ∧ frnt v.units n ≤ 262144 * n
  | 0, _ => by simp [frnt]
  | n + 1, hn => by
    have ih := frnt_rng h n (by omega)
    have hh := ((chkV_ok h).2.1 n (by omega)).1
    unfold hd1 at hh
    simp only [frnt]
    omega
def axF (v : Veh) (ld : List Int) (i : Nat) (a : Axl) : Frc := ⟨frnt v.units i + a.x, gi ld i⟩
def unL (v : Veh) (ld : List Int) (i : Nat) : List Frc := (su v.units i).axles.map (axF v ld i)
def rawL (v : Veh) (ld : List Int) : Nat → List Frc
  | 0 => []
  | n + 1 => rawL v ld n ++ unL v ld n
theorem unL_len (v : Veh) (ld : List Int) (i : Nat) : (unL v ld i).length = (su v.units i).axles.length := by simp [unL]
theorem unL_take {v : Veh} {ld : List Int} {i j : Nat} (hj : j < (su v.units i).axles.length) : (unL v ld i).take (j + 1) = (unL v ld i).take j ++ [axF v ld i (sa (su v.units i).axles j)] := by
  have h1 : j < (unL v ld i).length := by rw [unL_len]; exact hj
  rw [List.take_succ_eq_append_getElem h1]
  have : (unL v ld i)[j] = axF v ld i (sa (su v.units i).axles j) := by
    rw [sa_get hj]
    simp only [unL, List.getElem_map]
  rw [this]
theorem rawL_len {v : Veh} (h : chkV v = 0) (ld : List Int) : ∀ n, n ≤ v.units.length → n ≤ (rawL v ld n).length ∧ (rawL v ld n).length ≤ 24 * n
  | 0, _ => by simp [rawL]
  | n + 1, hn => by
    have ih := rawL_len h ld n (by omega)
    have hh := (chkV_ok h).2.1 n (by omega)
    have h2 := hh.2.1
    unfold hd2 at h2
    simp only [rawL, List.length_append, unL_len]
    omega
theorem rawL_rng {v : Veh} (h : chkV v = 0) (ld : List Int) : ∀ n, n ≤ v.units.length → ∀ f ∈ rawL v ld n, 0 ≤ f.x ∧ f.x ≤ 4194304
  | 0, _ => by simp [rawL]
  | n + 1, hn => fun f hf => by
    simp only [rawL, List.mem_append] at hf
    rcases hf with hf | hf
    · exact rawL_rng h ld n (by omega) f hf
    · unfold unL at hf
      obtain ⟨a, ha, rfl⟩ := List.mem_map.1 hf
      obtain ⟨j, hj, rfl⟩ := List.getElem_of_mem ha
      have h1 := chkV_ax h (show n < v.units.length by omega) hj
      have h2 := frnt_rng h n (by omega)
      have h3 := (chkV_ok h).1
      rw [sa_get hj] at h1
      simp only [axF]
      omega
def ltX (a b : Frc) : Bool := decide (cmpI a.x b.x < 0)
theorem ltX_iff {a b : Frc} : ltX a b = true ↔ a.x < b.x := by unfold ltX; rw [decide_eq_true_eq, cmpI_neg]
theorem ltX_no {a b : Frc} : ltX a b = false ↔ b.x ≤ a.x := by rw [← Bool.not_eq_true, ltX_iff]; omega
theorem swX : SW ltX where
  asym := fun h => by rw [ltX_iff] at h; rw [ltX_no]; omega
  nt := fun h1 h2 => by rw [ltX_no] at *; omega
def shF (x : Int) (f : Frc) : Frc := ⟨f.x - x, f.p⟩
def badL (ld : List Int) : Bool := ld.any (fun n => !inR n 0 1048576)
def srtL (v : Veh) (ld : List Int) : List Frc := isort ltX (rawL v ld v.units.length)
def shL (l : List Frc) : List Frc := l.map (shF (sf l 0).x)
def trE (v : Veh) (ld : List Int) : Int := if chkV v ≠ 0 then chkV v else if ld.length ≠ v.units.length then 17 else if badL ld = true then 3 else if chkT (shL (srtL v ld)) ≠ 0 then 4 else 0
def trV (v : Veh) (ld : List Int) : List Frc := if trE v ld = 0 then shL (srtL v ld) else []
theorem badL_no {ld : List Int} : badL ld = false ↔ ∀ i, i < ld.length → inR (gi ld i) 0 1048576 = true := by
  unfold badL
  rw [← Bool.not_eq_true, List.any_eq_true]
  constructor
  · intro h i hi
    rw [← Bool.not_eq_false]
    intro q
    exact h ⟨_, getD_mem 0 ld i hi, by show (!inR (gi ld i) 0 1048576) = true; rw [q]; rfl⟩
  · rintro h ⟨x, hx, q⟩
    obtain ⟨i, hi, rfl⟩ := List.getElem_of_mem hx
    have := h i hi
    have e : gi ld i = ld[i] := by simp [gi, List.getD, hi]
    rw [e] at this
    rw [this] at q; cases q
theorem badL_yes {ld : List Int} {i : Nat} (hi : i < ld.length) (h : inR (gi ld i) 0 1048576 = false) : badL ld = true := by
  rw [← Bool.not_eq_false]
  intro q
  rw [badL_no.1 q i hi] at h; cases h
/-- a list, changed up to a place -/
def mapJ (g : Frc → Frc) (t : List Frc) (j : Nat) : List Frc := (t.map g).take j ++ t.drop j
theorem mapJ_len (g : Frc → Frc) (t : List Frc) (j : Nat) (hj : j ≤ t.length) : (mapJ g t j).length = t.length := by
  unfold mapJ
  rw [List.length_append, List.length_take, List.length_drop, List.length_map]; omega
theorem mapJ_at (g : Frc → Frc) (t : List Frc) (j : Nat) (hj : j < t.length) : (mapJ g t j).getD j dF = sf t j := by
  unfold mapJ
  have hl : ((t.map g).take j).length = j := by rw [List.length_take, List.length_map]; omega
  simp only [List.getD_eq_getElem?_getD, sf]
  rw [List.getElem?_append_right (by omega), hl, Nat.sub_self, List.getElem?_drop, Nat.add_zero]
theorem mapJ_set (g : Frc → Frc) (t : List Frc) (j : Nat) (hj : j < t.length) : (mapJ g t j).set j (g (sf t j)) = mapJ g t (j + 1) := by
  unfold mapJ
  have hl : ((t.map g).take j).length = j := by rw [List.length_take, List.length_map]; omega
  have hm : j < (t.map g).length := by rw [List.length_map]; exact hj
  rw [List.set_append_right _ _ (by omega), hl, Nat.sub_self, List.take_succ_eq_append_getElem hm, List.append_assoc]
  congr 1
  rw [List.drop_eq_getElem_cons hj, List.set_cons_zero, List.getElem_map, List.singleton_append, sf_get hj]
theorem mapJ_zero (g : Frc → Frc) (t : List Frc) : mapJ g t 0 = t := by simp [mapJ]
theorem mapJ_all (g : Frc → Frc) (t : List Frc) : mapJ g t t.length = t.map g := by
  unfold mapJ
  rw [List.take_of_length_le (by rw [List.length_map]; omega), List.drop_length, List.append_nil]
end Go.Proofs.Ytbdnnicodailcaa

/- The train of a vehicle, walked. -/
namespace Go.Proofs.Ytbdnnicodailcaa
open Go Sy
set_option maxRecDepth 100000
set_option maxHeartbeats 4000000
set_option linter.unusedVariables false
set_option linter.unusedSimpArgs false
theorem fn78 (a b : Frc) : Sy.Fn Try.prog 78 [.agg (cF a), .agg (cF b)] (iv (cmpI a.x b.x)) := by
  refine Fn_of_W mixed Xt78 rfl ?_
  repeat' (first | refine WK_go ?_ | refine W_seqL ?_ | refine W_seq ?_ | refine W_block ?_ | ((first | refine W_regL ?_ | refine W_skip ?_ | refine W_exit ?_ | refine CallC.now (fn79 _ _) ?_); simp (maxSteps := 400000) (disch := omega) only [push_cast, ↓reduceIte, reduceCtorEq, Nat.reduceAdd, Nat.reduceSub, Nat.reduceEqDiff, Nat.reduceLeDiff, Nat.reduceLT, Nat.reduceBEq, Nat.reduceDiv, Nat.reduceMod, Nat.reducePow, Nat.reduceMul, Int.reduceToNat, Int.reduceLT, Int.reduceLE]) | refine And.intro (by omega) ?_ | refine And.intro (by intro hq; (try simp only [Bool.and_eq_true, Bool.or_eq_true, Bool.and_eq_false_iff, Bool.or_eq_false_iff, decide_eq_true_eq, decide_eq_false_iff_not, Bool.not_eq_true', Bool.not_eq_false', beq_iff_eq, beq_eq_false_iff_ne, ne_eq] at hq); omega) ?_ | fail)
  exact W_ret ⟨[_], ⟨rfl, rfl⟩, rfl⟩
theorem fn44 (v : Veh) (ld : List Int) (hv : Gr v) (hl : ld.length ≤ 1000) : Sy.Fn Try.prog 44 [.agg (cV v), aI ld] (.tup [aT (trV v ld), iv (trE v ld)]) := by
  refine Fn_of_W mixed Xt44 rfl ?_
  have c76 := fn76 v hv
  have hv1 := hv.1
  repeat' (first | refine WK_go ?_ | refine W_seqL ?_ | refine W_seq ?_ | refine W_block ?_ | ((first | refine W_regL ?_ | refine W_skip ?_ | refine W_exit ?_ | refine CallC.now (c76) ?_); simp (maxSteps := 400000) (disch := omega) only [push_cast, ↓reduceIte, reduceCtorEq, Nat.reduceAdd, Nat.reduceSub, Nat.reduceEqDiff, Nat.reduceLeDiff, Nat.reduceLT, Nat.reduceBEq, Nat.reduceDiv, Nat.reduceMod, Nat.reducePow, Nat.reduceMul, Int.reduceToNat, Int.reduceLT, Int.reduceLE]) | refine And.intro (by omega) ?_ | refine And.intro (by intro hq; (try simp only [Bool.and_eq_true, Bool.or_eq_true, Bool.and_eq_false_iff, Bool.or_eq_false_iff, decide_eq_true_eq, decide_eq_false_iff_not, Bool.not_eq_true', Bool.not_eq_false', beq_iff_eq, beq_eq_false_iff_ne, ne_eq] at hq); omega) ?_ | fail)
  refine W_cond (by rfl) (fun q => ?_) (fun q => ?_)
  · have q' : chkV v ≠ 0 := by simpa using q
    have e : trE v ld = chkV v := by unfold trE; rw [if_pos q']
    have e2 : trV v ld = [] := by unfold trV; rw [e, if_neg q']
    rw [e, e2]
    repeat' (first | refine WK_go ?_ | refine W_seqL ?_ | refine W_seq ?_ | refine W_block ?_ | ((first | refine W_regL ?_ | refine W_skip ?_ | refine W_exit ?_); simp (maxSteps := 400000) (disch := omega) only [push_cast, ↓reduceIte, reduceCtorEq, Nat.reduceAdd, Nat.reduceSub, Nat.reduceEqDiff, Nat.reduceLeDiff, Nat.reduceLT, Nat.reduceBEq, Nat.reduceDiv, Nat.reduceMod, Nat.reducePow, Nat.reduceMul, Int.reduceToNat, Int.reduceLT, Int.reduceLE]) | refine And.intro (by omega) ?_ | refine And.intro (by intro hq; (try simp only [Bool.and_eq_true, Bool.or_eq_true, Bool.and_eq_false_iff, Bool.or_eq_false_iff, decide_eq_true_eq, decide_eq_false_iff_not, Bool.not_eq_true', Bool.not_eq_false', beq_iff_eq, beq_eq_false_iff_ne, ne_eq] at hq); omega) ?_ | fail)
    refine W_le (le_nil 4 2 dF cF rfl) ?_
    exact W_ret ⟨[_, _], ⟨rfl, rfl, rfl⟩, rfl⟩
  have hc : chkV v = 0 := by simpa using q
  have e0 : trE v ld = if ld.length ≠ v.units.length then 17 else if badL ld = true then 3 else if chkT (shL (srtL v ld)) ≠ 0 then 4 else 0 := by unfold trE; rw [if_neg (by omega)]
  repeat' (first | refine WK_go ?_ | refine W_seqL ?_ | refine W_seq ?_ | refine W_block ?_ | ((first | refine W_regL ?_ | refine W_skip ?_ | refine W_exit ?_); simp (maxSteps := 400000) (disch := omega) only [push_cast, ↓reduceIte, reduceCtorEq, Nat.reduceAdd, Nat.reduceSub, Nat.reduceEqDiff, Nat.reduceLeDiff, Nat.reduceLT, Nat.reduceBEq, Nat.reduceDiv, Nat.reduceMod, Nat.reducePow, Nat.reduceMul, Int.reduceToNat, Int.reduceLT, Int.reduceLE]) | refine And.intro (by omega) ?_ | refine And.intro (by intro hq; (try simp only [Bool.and_eq_true, Bool.or_eq_true, Bool.and_eq_false_iff, Bool.or_eq_false_iff, decide_eq_true_eq, decide_eq_false_iff_not, Bool.not_eq_true', Bool.not_eq_false', beq_iff_eq, beq_eq_false_iff_ne, ne_eq] at hq); omega) ?_ | fail)
  refine W_cond (by rfl) (fun q => ?_) (fun q => ?_)
  · have q' : ld.length ≠ v.units.length := by simp only [bne_iff_ne, ne_eq] at q; omega
    have e : trE v ld = 17 := by rw [e0, if_pos q']
    have e2 : trV v ld = [] := by unfold trV; rw [e]; rfl
    rw [e, e2]
    repeat' (first | refine WK_go ?_ | refine W_seqL ?_ | refine W_seq ?_ | refine W_block ?_ | ((first | refine W_regL ?_ | refine W_skip ?_ | refine W_exit ?_); simp (maxSteps := 400000) (disch := omega) only [push_cast, ↓reduceIte, reduceCtorEq, Nat.reduceAdd, Nat.reduceSub, Nat.reduceEqDiff, Nat.reduceLeDiff, Nat.reduceLT, Nat.reduceBEq, Nat.reduceDiv, Nat.reduceMod, Nat.reducePow, Nat.reduceMul, Int.reduceToNat, Int.reduceLT, Int.reduceLE]) | refine And.intro (by omega) ?_ | refine And.intro (by intro hq; (try simp only [Bool.and_eq_true, Bool.or_eq_true, Bool.and_eq_false_iff, Bool.or_eq_false_iff, decide_eq_true_eq, decide_eq_false_iff_not, Bool.not_eq_true', Bool.not_eq_false', beq_iff_eq, beq_eq_false_iff_ne, ne_eq] at hq); omega) ?_ | fail)
    refine W_le (le_nil 4 2 dF cF rfl) ?_
    exact W_ret ⟨[_, _], ⟨rfl, rfl, rfl⟩, rfl⟩
  have hll : ld.length = v.units.length := by simp only [bne_eq_false_iff_eq] at q; omega
  rw [if_neg (by omega)] at e0
  obtain ⟨n1, n2, n3, _⟩ := chkV_ok hc
  repeat' (first | refine WK_go ?_ | refine W_seqL ?_ | refine W_seq ?_ | refine W_block ?_ | ((first | refine W_regL ?_ | refine W_skip ?_ | refine W_exit ?_); simp (maxSteps := 400000) (disch := omega) only [push_cast, ↓reduceIte, reduceCtorEq, Nat.reduceAdd, Nat.reduceSub, Nat.reduceEqDiff, Nat.reduceLeDiff, Nat.reduceLT, Nat.reduceBEq, Nat.reduceDiv, Nat.reduceMod, Nat.reducePow, Nat.reduceMul, Int.reduceToNat, Int.reduceLT, Int.reduceLE]) | refine And.intro (by omega) ?_ | refine And.intro (by intro hq; (try simp only [Bool.and_eq_true, Bool.or_eq_true, Bool.and_eq_false_iff, Bool.or_eq_false_iff, decide_eq_true_eq, decide_eq_false_iff_not, Bool.not_eq_true', Bool.not_eq_false', beq_iff_eq, beq_eq_false_iff_ne, ne_eq] at hq); omega) ?_ | fail)
  refine W_le (le_adopt 7 35 2 dF cF (by omega) rfl) ?_
  simp (maxSteps := 400000) (disch := omega) only [push_cast, ↓reduceIte, reduceCtorEq, Nat.reduceAdd, Nat.reduceSub, Nat.reduceEqDiff, Nat.reduceLeDiff, Nat.reduceLT, Nat.reduceBEq, Nat.reduceDiv, Nat.reduceMod, Nat.reducePow, Nat.reduceMul, Int.reduceToNat, Int.reduceLT, Int.reduceLE]
  refine W_loopU (fun i : Nat => [(7, .row 20 (rawL v ld i).length), (8, iv (frnt v.units i)), (29, iv i)]) (fun i => [(20, .row (rawL v ld i).length 35 2 dF cF (rawL v ld i))]) (fun i => i ≤ v.units.length ∧ ∀ j, j < i → inR (gi ld j) 0 1048576 = true) (fun i => v.units.length - i) 0 ⟨by omega, fun j hj => by omega⟩ (by rfl) (by rfl) (fun i hi => ?_)
  obtain ⟨hi1, hok⟩ := hi
  have fr := frnt_rng hc i hi1
  have rl := rawL_len hc ld i hi1
  simp (maxSteps := 400000) (disch := omega) only [push_cast, ↓reduceIte, reduceCtorEq, Nat.reduceAdd, Nat.reduceSub, Nat.reduceEqDiff, Nat.reduceLeDiff, Nat.reduceLT, Nat.reduceBEq, Nat.reduceDiv, Nat.reduceMod, Nat.reducePow, Nat.reduceMul, Int.reduceToNat, Int.reduceLT, Int.reduceLE]
  repeat' (first | refine WK_go ?_ | refine W_seqL ?_ | refine W_seq ?_ | refine W_block ?_ | ((first | refine W_regL ?_ | refine W_skip ?_ | refine W_exit ?_); simp (maxSteps := 400000) (disch := omega) only [push_cast, ↓reduceIte, reduceCtorEq, Nat.reduceAdd, Nat.reduceSub, Nat.reduceEqDiff, Nat.reduceLeDiff, Nat.reduceLT, Nat.reduceBEq, Nat.reduceDiv, Nat.reduceMod, Nat.reducePow, Nat.reduceMul, Int.reduceToNat, Int.reduceLT, Int.reduceLE]) | refine And.intro (by omega) ?_ | refine And.intro (by intro hq; (try simp only [Bool.and_eq_true, Bool.or_eq_true, Bool.and_eq_false_iff, Bool.or_eq_false_iff, decide_eq_true_eq, decide_eq_false_iff_not, Bool.not_eq_true', Bool.not_eq_false', beq_iff_eq, beq_eq_false_iff_ne, ne_eq] at hq); omega) ?_ | fail)
  refine W_condD (by rfl) (fun h5 => ?_) (fun h5 => ?_)
  · have hlt : i < v.units.length := by omega
    obtain ⟨d1, d2, d3⟩ := n2 i hlt
    have hax := fun j hj => chkV_ax hc hlt (j := j) hj
    have hgl : ld.getD i 0 = gi ld i := rfl
    have hsu : v.units.getD i dU = su v.units i := rfl
    have hfr2 : frnt v.units (i + 1) = frnt v.units i + ((su v.units i).length + (su v.units i).behind) := rfl
    have hrw : rawL v ld (i + 1) = rawL v ld i ++ unL v ld i := rfl
    have hul := unL_len v ld i
    have htk := fun j hj => unL_take (v := v) (ld := ld) (i := i) (j := j) hj
    have haxf : ∀ a : Axl, axF v ld i a = ⟨frnt v.units i + a.x, gi ld i⟩ := fun _ => rfl
    unfold hd1 at d1
    unfold hd2 at d2
    generalize unL v ld i = B at *
    generalize su v.units i = u at *
    generalize rawL v ld i = A at *
    generalize frnt v.units i = F at *
    repeat' (first | refine WK_go ?_ | refine W_seqL ?_ | refine W_seq ?_ | refine W_block ?_ | ((first | refine W_regL ?_ | refine W_skip ?_ | refine W_exit ?_ | refine CallC.now (fn48 _ _ _) ?_); simp (maxSteps := 400000) (disch := omega) only [push_cast, ↓reduceIte, reduceCtorEq, Nat.reduceAdd, Nat.reduceSub, Nat.reduceEqDiff, Nat.reduceLeDiff, Nat.reduceLT, Nat.reduceBEq, Nat.reduceDiv, Nat.reduceMod, Nat.reducePow, Nat.reduceMul, Int.reduceToNat, Int.reduceLT, Int.reduceLE, hgl, hsu]) | refine And.intro (by omega) ?_ | refine And.intro (by intro hq; (try simp only [Bool.and_eq_true, Bool.or_eq_true, Bool.and_eq_false_iff, Bool.or_eq_false_iff, decide_eq_true_eq, decide_eq_false_iff_not, Bool.not_eq_true', Bool.not_eq_false', beq_iff_eq, beq_eq_false_iff_ne, ne_eq] at hq); omega) ?_ | fail)
    refine W_cond (by rfl) (fun hb => ?_) (fun hb => ?_)
    · have e : trE v ld = 3 := by rw [e0, if_pos (badL_yes (i := i) (by omega) (by simpa using hb))]
      have e2 : trV v ld = [] := by unfold trV; rw [e]; rfl
      rw [e, e2]
      repeat' (first | refine WK_go ?_ | refine W_seqL ?_ | refine W_seq ?_ | refine W_block ?_ | ((first | refine W_regL ?_ | refine W_skip ?_ | refine W_exit ?_); simp (maxSteps := 400000) (disch := omega) only [push_cast, ↓reduceIte, reduceCtorEq, Nat.reduceAdd, Nat.reduceSub, Nat.reduceEqDiff, Nat.reduceLeDiff, Nat.reduceLT, Nat.reduceBEq, Nat.reduceDiv, Nat.reduceMod, Nat.reducePow, Nat.reduceMul, Int.reduceToNat, Int.reduceLT, Int.reduceLE]) | refine And.intro (by omega) ?_ | refine And.intro (by intro hq; (try simp only [Bool.and_eq_true, Bool.or_eq_true, Bool.and_eq_false_iff, Bool.or_eq_false_iff, decide_eq_true_eq, decide_eq_false_iff_not, Bool.not_eq_true', Bool.not_eq_false', beq_iff_eq, beq_eq_false_iff_ne, ne_eq] at hq); omega) ?_ | fail)
      refine W_le (le_nil 4 2 dF cF rfl) ?_
      exact W_ret ⟨[_, _], ⟨rfl, rfl, rfl⟩, rfl⟩
    have hok2 : inR (gi ld i) 0 1048576 = true := by simpa using hb
    have hgr := inR_iff.1 hok2
    repeat' (first | refine WK_go ?_ | refine W_seqL ?_ | refine W_seq ?_ | refine W_block ?_ | ((first | refine W_regL ?_ | refine W_skip ?_ | refine W_exit ?_); simp (maxSteps := 400000) (disch := omega) only [push_cast, ↓reduceIte, reduceCtorEq, Nat.reduceAdd, Nat.reduceSub, Nat.reduceEqDiff, Nat.reduceLeDiff, Nat.reduceLT, Nat.reduceBEq, Nat.reduceDiv, Nat.reduceMod, Nat.reducePow, Nat.reduceMul, Int.reduceToNat, Int.reduceLT, Int.reduceLE]) | refine And.intro (by omega) ?_ | refine And.intro (by intro hq; (try simp only [Bool.and_eq_true, Bool.or_eq_true, Bool.and_eq_false_iff, Bool.or_eq_false_iff, decide_eq_true_eq, decide_eq_false_iff_not, Bool.not_eq_true', Bool.not_eq_false', beq_iff_eq, beq_eq_false_iff_ne, ne_eq] at hq); omega) ?_ | fail)
    refine W_loopU (fun j : Nat => [(7, .row 20 (A.length + j)), (43, iv j)]) (fun j => [(20, .row (A.length + j) 35 2 dF cF (A ++ B.take j))]) (fun j => j ≤ u.axles.length) (fun j => u.axles.length - j) 0 (by omega) (by rfl) (by rw [List.take_zero, List.append_nil]; rfl) (fun j hj => ?_)
    have htl : (A ++ B.take j).length = A.length + j := by rw [List.length_append, List.length_take, hul]; omega
    simp (maxSteps := 400000) (disch := omega) only [push_cast, ↓reduceIte, reduceCtorEq, Nat.reduceAdd, Nat.reduceSub, Nat.reduceEqDiff, Nat.reduceLeDiff, Nat.reduceLT, Nat.reduceBEq, Nat.reduceDiv, Nat.reduceMod, Nat.reducePow, Nat.reduceMul, Int.reduceToNat, Int.reduceLT, Int.reduceLE]
    repeat' (first | refine WK_go ?_ | refine W_seqL ?_ | refine W_seq ?_ | refine W_block ?_ | ((first | refine W_regL ?_ | refine W_skip ?_ | refine W_exit ?_); simp (maxSteps := 400000) (disch := omega) only [push_cast, ↓reduceIte, reduceCtorEq, Nat.reduceAdd, Nat.reduceSub, Nat.reduceEqDiff, Nat.reduceLeDiff, Nat.reduceLT, Nat.reduceBEq, Nat.reduceDiv, Nat.reduceMod, Nat.reducePow, Nat.reduceMul, Int.reduceToNat, Int.reduceLT, Int.reduceLE]) | refine And.intro (by omega) ?_ | refine And.intro (by intro hq; (try simp only [Bool.and_eq_true, Bool.or_eq_true, Bool.and_eq_false_iff, Bool.or_eq_false_iff, decide_eq_true_eq, decide_eq_false_iff_not, Bool.not_eq_true', Bool.not_eq_false', beq_iff_eq, beq_eq_false_iff_ne, ne_eq] at hq); omega) ?_ | fail)
    refine W_condD (by rfl) (fun h6 => ?_) (fun h6 => ?_)
    · have hjt : j < u.axles.length := by omega
      have haj := hax j hjt
      have hsa : u.axles.getD j dA = sa u.axles j := rfl
      have htj := htk j hjt
      have haxj := haxf (sa u.axles j)
      generalize sa u.axles j = ax at *
      rw [haxj] at htj
      repeat' (first | refine WK_go ?_ | refine W_seqL ?_ | refine W_seq ?_ | refine W_block ?_ | ((first | refine W_regL ?_ | refine W_skip ?_ | refine W_exit ?_); simp (maxSteps := 400000) (disch := omega) only [push_cast, ↓reduceIte, reduceCtorEq, Nat.reduceAdd, Nat.reduceSub, Nat.reduceEqDiff, Nat.reduceLeDiff, Nat.reduceLT, Nat.reduceBEq, Nat.reduceDiv, Nat.reduceMod, Nat.reducePow, Nat.reduceMul, Int.reduceToNat, Int.reduceLT, Int.reduceLE, hsa, hgl]) | refine And.intro (by omega) ?_ | refine And.intro (by intro hq; (try simp only [Bool.and_eq_true, Bool.or_eq_true, Bool.and_eq_false_iff, Bool.or_eq_false_iff, decide_eq_true_eq, decide_eq_false_iff_not, Bool.not_eq_true', Bool.not_eq_false', beq_iff_eq, beq_eq_false_iff_ne, ne_eq] at hq); omega) ?_ | fail)
      refine ⟨rfl, trivial, Frc, dF, cF, [⟨F + ax.x, gi ld i⟩], rfl, by omega, fun x _ => ⟨rfl, rfl⟩, rfl, ?_⟩
      simp (maxSteps := 400000) (disch := omega) only [push_cast, ↓reduceIte, reduceCtorEq, Nat.reduceAdd, Nat.reduceSub, Nat.reduceEqDiff, Nat.reduceLeDiff, Nat.reduceLT, Nat.reduceBEq, Nat.reduceDiv, Nat.reduceMod, Nat.reducePow, Nat.reduceMul, Int.reduceToNat, Int.reduceLT, Int.reduceLE]
      refine ⟨rfl, ⟨Nat.le_of_ble_eq_true rfl, rfl⟩, trivial, [⟨F + ax.x, gi ld i⟩], rfl, by first | omega | (simp; omega), by first | omega | (simp; omega), ?_⟩
      simp (maxSteps := 400000) (disch := omega) only [push_cast, ↓reduceIte, reduceCtorEq, Nat.reduceAdd, Nat.reduceSub, Nat.reduceEqDiff, Nat.reduceLeDiff, Nat.reduceLT, Nat.reduceBEq, Nat.reduceDiv, Nat.reduceMod, Nat.reducePow, Nat.reduceMul, Int.reduceToNat, Int.reduceLT, Int.reduceLE]
      repeat' (first | refine WK_go ?_ | refine W_seqL ?_ | refine W_seq ?_ | refine W_block ?_ | ((first | refine W_regL ?_ | refine W_skip ?_ | refine W_exit ?_); simp (maxSteps := 400000) (disch := omega) only [push_cast, ↓reduceIte, reduceCtorEq, Nat.reduceAdd, Nat.reduceSub, Nat.reduceEqDiff, Nat.reduceLeDiff, Nat.reduceLT, Nat.reduceBEq, Nat.reduceDiv, Nat.reduceMod, Nat.reducePow, Nat.reduceMul, Int.reduceToNat, Int.reduceLT, Int.reduceLE]) | refine And.intro (by omega) ?_ | refine And.intro (by intro hq; (try simp only [Bool.and_eq_true, Bool.or_eq_true, Bool.and_eq_false_iff, Bool.or_eq_false_iff, decide_eq_true_eq, decide_eq_false_iff_not, Bool.not_eq_true', Bool.not_eq_false', beq_iff_eq, beq_eq_false_iff_ne, ne_eq] at hq); omega) ?_ | fail)
      refine ⟨j + 1, by omega, by omega, by rfl, ?_⟩
      rw [htj, ← List.append_assoc, ← Nat.add_assoc]
      simp (maxSteps := 400000) (disch := omega) only [push_cast, ↓reduceIte, reduceCtorEq, Nat.reduceAdd, Nat.reduceSub, Nat.reduceEqDiff, Nat.reduceLeDiff, Nat.reduceLT, Nat.reduceBEq, Nat.reduceDiv, Nat.reduceMod, Nat.reducePow, Nat.reduceMul, Int.reduceToNat, Int.reduceLT, Int.reduceLE, S.mk.injEq, List.cons.injEq, Prod.mk.injEq, AV.v.injEq, Value.int.injEq, Value.bool.injEq, Blk.cells.injEq]
    · obtain rfl : j = u.axles.length := by omega
      have hfull : B.take u.axles.length = B := List.take_of_length_le (by omega)
      rw [hfull]
      repeat' (first | refine WK_go ?_ | refine W_seqL ?_ | refine W_seq ?_ | refine W_block ?_ | ((first | refine W_regL ?_ | refine W_skip ?_ | refine W_exit ?_); simp (maxSteps := 400000) (disch := omega) only [push_cast, ↓reduceIte, reduceCtorEq, Nat.reduceAdd, Nat.reduceSub, Nat.reduceEqDiff, Nat.reduceLeDiff, Nat.reduceLT, Nat.reduceBEq, Nat.reduceDiv, Nat.reduceMod, Nat.reducePow, Nat.reduceMul, Int.reduceToNat, Int.reduceLT, Int.reduceLE]) | refine And.intro (by omega) ?_ | refine And.intro (by intro hq; (try simp only [Bool.and_eq_true, Bool.or_eq_true, Bool.and_eq_false_iff, Bool.or_eq_false_iff, decide_eq_true_eq, decide_eq_false_iff_not, Bool.not_eq_true', Bool.not_eq_false', beq_iff_eq, beq_eq_false_iff_ne, ne_eq] at hq); omega) ?_ | fail)
      refine ⟨i + 1, ⟨by omega, up_all hok hok2⟩, by omega, by rfl, ?_⟩
      rw [hrw, hfr2, List.length_append, hul]
      simp (maxSteps := 400000) (disch := omega) only [push_cast, ↓reduceIte, reduceCtorEq, Nat.reduceAdd, Nat.reduceSub, Nat.reduceEqDiff, Nat.reduceLeDiff, Nat.reduceLT, Nat.reduceBEq, Nat.reduceDiv, Nat.reduceMod, Nat.reducePow, Nat.reduceMul, Int.reduceToNat, Int.reduceLT, Int.reduceLE, S.mk.injEq, List.cons.injEq, Prod.mk.injEq, AV.v.injEq, Value.int.injEq, Value.bool.injEq, Blk.cells.injEq]
  · have hin : i = v.units.length := by omega
    have hbad : badL ld = false := badL_no.2 (fun j hj => hok j (by omega))
    have rr := rawL_rng hc ld v.units.length (Nat.le_refl _)
    have rl2 := rawL_len hc ld v.units.length (Nat.le_refl _)
    rw [hbad, if_neg (by decide)] at e0
    rw [hin]
    repeat' (first | refine WK_go ?_ | refine W_seqL ?_ | refine W_seq ?_ | refine W_block ?_ | ((first | refine W_regL ?_ | refine W_skip ?_ | refine W_exit ?_); simp (maxSteps := 400000) (disch := omega) only [push_cast, ↓reduceIte, reduceCtorEq, Nat.reduceAdd, Nat.reduceSub, Nat.reduceEqDiff, Nat.reduceLeDiff, Nat.reduceLT, Nat.reduceBEq, Nat.reduceDiv, Nat.reduceMod, Nat.reducePow, Nat.reduceMul, Int.reduceToNat, Int.reduceLT, Int.reduceLE]) | refine And.intro (by omega) ?_ | refine And.intro (by intro hq; (try simp only [Bool.and_eq_true, Bool.or_eq_true, Bool.and_eq_false_iff, Bool.or_eq_false_iff, decide_eq_true_eq, decide_eq_false_iff_not, Bool.not_eq_true', Bool.not_eq_false', beq_iff_eq, beq_eq_false_iff_ne, ne_eq] at hq); omega) ?_ | fail)
    refine CallC.inl (i77 swX rfl (fun x y => rfl) (fun x y => fn78 x y) (L := rawL v ld v.units.length) (by rfl) (fun j hj => ?_) (by omega) ?_)
    · dsimp only at hj ⊢
      simp only [lm]
      rw [if_neg (by omega)]
    have hS : isort ltX (rawL v ld v.units.length) = srtL v ld := rfl
    have hSl : (srtL v ld).length = (rawL v ld v.units.length).length := isort_len _
    have hSx : ∀ k, k < (srtL v ld).length → 0 ≤ (sf (srtL v ld) k).x ∧ (sf (srtL v ld) k).x ≤ 4194304 := fun k hk => by
      refine rr _ ((isort_mem (lt := ltX) _).1 ?_)
      exact getD_mem dF (srtL v ld) k hk
    have e2 : trV v ld = if trE v ld = 0 then shL (srtL v ld) else [] := rfl
    have hsh : shL (srtL v ld) = (srtL v ld).map (shF (sf (srtL v ld) 0).x) := rfl
    have h0 : (srtL v ld).getD 0 dF = sf (srtL v ld) 0 := rfl
    rw [hS]
    rw [e2, e0]
    clear e2 e0 hS
    generalize (rawL v ld v.units.length).length = stp at *
    generalize srtL v ld = Z at *
    have hz0 := hSx 0 (by omega)
    generalize hX : (sf Z 0).x = X at *
    generalize hZ0 : sf Z 0 = z0 at *
    simp (maxSteps := 400000) (disch := omega) only [push_cast, ↓reduceIte, reduceCtorEq, Nat.reduceAdd, Nat.reduceSub, Nat.reduceEqDiff, Nat.reduceLeDiff, Nat.reduceLT, Nat.reduceBEq, Nat.reduceDiv, Nat.reduceMod, Nat.reducePow, Nat.reduceMul, Int.reduceToNat, Int.reduceLT, Int.reduceLE]
    repeat' (first | refine WK_go ?_ | refine W_seqL ?_ | refine W_seq ?_ | refine W_block ?_ | ((first | refine W_regL ?_ | refine W_skip ?_ | refine W_exit ?_); simp (maxSteps := 400000) (disch := omega) only [push_cast, ↓reduceIte, reduceCtorEq, Nat.reduceAdd, Nat.reduceSub, Nat.reduceEqDiff, Nat.reduceLeDiff, Nat.reduceLT, Nat.reduceBEq, Nat.reduceDiv, Nat.reduceMod, Nat.reducePow, Nat.reduceMul, Int.reduceToNat, Int.reduceLT, Int.reduceLE, h0, hX]) | refine And.intro (by omega) ?_ | refine And.intro (by intro hq; (try simp only [Bool.and_eq_true, Bool.or_eq_true, Bool.and_eq_false_iff, Bool.or_eq_false_iff, decide_eq_true_eq, decide_eq_false_iff_not, Bool.not_eq_true', Bool.not_eq_false', beq_iff_eq, beq_eq_false_iff_ne, ne_eq] at hq); omega) ?_ | fail)
    refine W_loopU (fun k : Nat => [(76, iv k)]) (fun k => [(20, .row stp 35 2 dF cF (mapJ (shF X) Z k))]) (fun k => k ≤ Z.length) (fun k => Z.length - k) 0 (by omega) (by rfl) (by rw [mapJ_zero]; rfl) (fun k hk => ?_)
    have hml := mapJ_len (shF X) Z k hk
    simp (maxSteps := 400000) (disch := omega) only [push_cast, ↓reduceIte, reduceCtorEq, Nat.reduceAdd, Nat.reduceSub, Nat.reduceEqDiff, Nat.reduceLeDiff, Nat.reduceLT, Nat.reduceBEq, Nat.reduceDiv, Nat.reduceMod, Nat.reducePow, Nat.reduceMul, Int.reduceToNat, Int.reduceLT, Int.reduceLE]
    repeat' (first | refine WK_go ?_ | refine W_seqL ?_ | refine W_seq ?_ | refine W_block ?_ | ((first | refine W_regL ?_ | refine W_skip ?_ | refine W_exit ?_); simp (maxSteps := 400000) (disch := omega) only [push_cast, ↓reduceIte, reduceCtorEq, Nat.reduceAdd, Nat.reduceSub, Nat.reduceEqDiff, Nat.reduceLeDiff, Nat.reduceLT, Nat.reduceBEq, Nat.reduceDiv, Nat.reduceMod, Nat.reducePow, Nat.reduceMul, Int.reduceToNat, Int.reduceLT, Int.reduceLE, hml]) | refine And.intro (by omega) ?_ | refine And.intro (by intro hq; (try simp only [Bool.and_eq_true, Bool.or_eq_true, Bool.and_eq_false_iff, Bool.or_eq_false_iff, decide_eq_true_eq, decide_eq_false_iff_not, Bool.not_eq_true', Bool.not_eq_false', beq_iff_eq, beq_eq_false_iff_ne, ne_eq] at hq); omega) ?_ | fail)
    refine W_condD (by rfl) (fun h6 => ?_) (fun h6 => ?_)
    · have hkl : k < Z.length := by omega
      have hat := mapJ_at (shF X) Z k hkl
      have hset := mapJ_set (shF X) Z k hkl
      have hxk := hSx k hkl
      have hsf : shF X (sf Z k) = ⟨(sf Z k).x - X, (sf Z k).p⟩ := rfl
      generalize sf Z k = zk at *
      repeat' (first | refine WK_go ?_ | refine W_seqL ?_ | refine W_seq ?_ | refine W_block ?_ | ((first | refine W_regL ?_ | refine W_skip ?_ | refine W_exit ?_); simp (maxSteps := 400000) (disch := omega) only [push_cast, ↓reduceIte, reduceCtorEq, Nat.reduceAdd, Nat.reduceSub, Nat.reduceEqDiff, Nat.reduceLeDiff, Nat.reduceLT, Nat.reduceBEq, Nat.reduceDiv, Nat.reduceMod, Nat.reducePow, Nat.reduceMul, Int.reduceToNat, Int.reduceLT, Int.reduceLE, hml, hat]) | refine And.intro (by omega) ?_ | refine And.intro (by intro hq; (try simp only [Bool.and_eq_true, Bool.or_eq_true, Bool.and_eq_false_iff, Bool.or_eq_false_iff, decide_eq_true_eq, decide_eq_false_iff_not, Bool.not_eq_true', Bool.not_eq_false', beq_iff_eq, beq_eq_false_iff_ne, ne_eq] at hq); omega) ?_ | fail)
      refine ⟨rfl, ⟨Nat.le_of_ble_eq_true rfl, rfl⟩, by omega, shF X zk, by rw [hat]; rfl, rfl, ?_⟩
      rw [hset]
      simp (maxSteps := 400000) (disch := omega) only [push_cast, ↓reduceIte, reduceCtorEq, Nat.reduceAdd, Nat.reduceSub, Nat.reduceEqDiff, Nat.reduceLeDiff, Nat.reduceLT, Nat.reduceBEq, Nat.reduceDiv, Nat.reduceMod, Nat.reducePow, Nat.reduceMul, Int.reduceToNat, Int.reduceLT, Int.reduceLE]
      repeat' (first | refine WK_go ?_ | refine W_seqL ?_ | refine W_seq ?_ | refine W_block ?_ | ((first | refine W_regL ?_ | refine W_skip ?_ | refine W_exit ?_); simp (maxSteps := 400000) (disch := omega) only [push_cast, ↓reduceIte, reduceCtorEq, Nat.reduceAdd, Nat.reduceSub, Nat.reduceEqDiff, Nat.reduceLeDiff, Nat.reduceLT, Nat.reduceBEq, Nat.reduceDiv, Nat.reduceMod, Nat.reducePow, Nat.reduceMul, Int.reduceToNat, Int.reduceLT, Int.reduceLE]) | refine And.intro (by omega) ?_ | refine And.intro (by intro hq; (try simp only [Bool.and_eq_true, Bool.or_eq_true, Bool.and_eq_false_iff, Bool.or_eq_false_iff, decide_eq_true_eq, decide_eq_false_iff_not, Bool.not_eq_true', Bool.not_eq_false', beq_iff_eq, beq_eq_false_iff_ne, ne_eq] at hq); omega) ?_ | fail)
      refine ⟨k + 1, by omega, by omega, by rfl, ?_⟩
      simp (maxSteps := 400000) (disch := omega) only [push_cast, ↓reduceIte, reduceCtorEq, Nat.reduceAdd, Nat.reduceSub, Nat.reduceEqDiff, Nat.reduceLeDiff, Nat.reduceLT, Nat.reduceBEq, Nat.reduceDiv, Nat.reduceMod, Nat.reducePow, Nat.reduceMul, Int.reduceToNat, Int.reduceLT, Int.reduceLE, S.mk.injEq, List.cons.injEq, Prod.mk.injEq, AV.v.injEq, Value.int.injEq, Value.bool.injEq, Blk.cells.injEq]
    · have hkn : k = Z.length := by omega
      rw [hkn, mapJ_all, ← hsh]
      have c30 := fn30 (shL Z) (by rw [hsh, List.length_map]; omega)
      repeat' (first | refine WK_go ?_ | refine W_seqL ?_ | refine W_seq ?_ | refine W_block ?_ | ((first | refine W_regL ?_ | refine W_skip ?_ | refine W_exit ?_ | refine CallC.go _ (fun _ => ⟨trivial, c30⟩) rfl ?_); simp (maxSteps := 400000) (disch := omega) only [push_cast, ↓reduceIte, reduceCtorEq, Nat.reduceAdd, Nat.reduceSub, Nat.reduceEqDiff, Nat.reduceLeDiff, Nat.reduceLT, Nat.reduceBEq, Nat.reduceDiv, Nat.reduceMod, Nat.reducePow, Nat.reduceMul, Int.reduceToNat, Int.reduceLT, Int.reduceLE]) | refine And.intro (by omega) ?_ | refine And.intro (by intro hq; (try simp only [Bool.and_eq_true, Bool.or_eq_true, Bool.and_eq_false_iff, Bool.or_eq_false_iff, decide_eq_true_eq, decide_eq_false_iff_not, Bool.not_eq_true', Bool.not_eq_false', beq_iff_eq, beq_eq_false_iff_ne, ne_eq] at hq); omega) ?_ | fail)
      refine W_cond (by rfl) (fun hb => ?_) (fun hb => ?_)
      · have hb' : chkT (shL Z) ≠ 0 := by simpa using hb
        rw [if_pos hb', if_neg (by decide)]
        repeat' (first | refine WK_go ?_ | refine W_seqL ?_ | refine W_seq ?_ | refine W_block ?_ | ((first | refine W_regL ?_ | refine W_skip ?_ | refine W_exit ?_); simp (maxSteps := 400000) (disch := omega) only [push_cast, ↓reduceIte, reduceCtorEq, Nat.reduceAdd, Nat.reduceSub, Nat.reduceEqDiff, Nat.reduceLeDiff, Nat.reduceLT, Nat.reduceBEq, Nat.reduceDiv, Nat.reduceMod, Nat.reducePow, Nat.reduceMul, Int.reduceToNat, Int.reduceLT, Int.reduceLE]) | refine And.intro (by omega) ?_ | refine And.intro (by intro hq; (try simp only [Bool.and_eq_true, Bool.or_eq_true, Bool.and_eq_false_iff, Bool.or_eq_false_iff, decide_eq_true_eq, decide_eq_false_iff_not, Bool.not_eq_true', Bool.not_eq_false', beq_iff_eq, beq_eq_false_iff_ne, ne_eq] at hq); omega) ?_ | fail)
        refine W_le (le_nil 4 2 dF cF rfl) ?_
        exact W_ret ⟨[_, _], ⟨rfl, rfl, rfl⟩, rfl⟩
      · have hb' : chkT (shL Z) = 0 := by simpa using hb
        have hn' : ¬ chkT (shL Z) ≠ 0 := by omega
        rw [if_neg hn', if_pos rfl]
        repeat' (first | refine WK_go ?_ | refine W_seqL ?_ | refine W_seq ?_ | refine W_block ?_ | ((first | refine W_regL ?_ | refine W_skip ?_ | refine W_exit ?_); simp (maxSteps := 400000) (disch := omega) only [push_cast, ↓reduceIte, reduceCtorEq, Nat.reduceAdd, Nat.reduceSub, Nat.reduceEqDiff, Nat.reduceLeDiff, Nat.reduceLT, Nat.reduceBEq, Nat.reduceDiv, Nat.reduceMod, Nat.reducePow, Nat.reduceMul, Int.reduceToNat, Int.reduceLT, Int.reduceLE]) | refine And.intro (by omega) ?_ | refine And.intro (by intro hq; (try simp only [Bool.and_eq_true, Bool.or_eq_true, Bool.and_eq_false_iff, Bool.or_eq_false_iff, decide_eq_true_eq, decide_eq_false_iff_not, Bool.not_eq_true', Bool.not_eq_false', beq_iff_eq, beq_eq_false_iff_ne, ne_eq] at hq); omega) ?_ | fail)
        exact W_ret ⟨[_, _], ⟨rfl, rfl, rfl⟩, by show AV.tup [if stp = stp then _ else _, _] = _; rw [if_pos rfl]; rfl⟩
end Go.Proofs.Ytbdnnicodailcaa

/- The train of a vehicle by the definition, walked. -/
namespace Go.Proofs.Ytbdnnicodailcaa
open Go Sy
set_option maxRecDepth 100000
set_option maxHeartbeats 4000000
set_option linter.unusedVariables false
set_option linter.unusedSimpArgs false
theorem fn45 (v : Veh) (ld : List Int) (hv : Gr v) (hl : ld.length ≤ 1000) : Sy.Fn Try.prog 45 [.agg (cV v), aI ld] (.tup [aT (trV v ld), iv (trE v ld)]) := by
  refine Fn_of_W mixed Xt45 rfl ?_
  have c80 := fn80 v hv
  have hv1 := hv.1
  repeat' (first | refine WK_go ?_ | refine W_seqL ?_ | refine W_seq ?_ | refine W_block ?_ | ((first | refine W_regL ?_ | refine W_skip ?_ | refine W_exit ?_ | refine CallC.now (c80) ?_); simp (maxSteps := 400000) (disch := omega) only [push_cast, ↓reduceIte, reduceCtorEq, Nat.reduceAdd, Nat.reduceSub, Nat.reduceEqDiff, Nat.reduceLeDiff, Nat.reduceLT, Nat.reduceBEq, Nat.reduceDiv, Nat.reduceMod, Nat.reducePow, Nat.reduceMul, Int.reduceToNat, Int.reduceLT, Int.reduceLE]) | refine And.intro (by omega) ?_ | refine And.intro (by intro hq; (try simp only [Bool.and_eq_true, Bool.or_eq_true, Bool.and_eq_false_iff, Bool.or_eq_false_iff, decide_eq_true_eq, decide_eq_false_iff_not, Bool.not_eq_true', Bool.not_eq_false', beq_iff_eq, beq_eq_false_iff_ne, ne_eq] at hq); omega) ?_ | fail)
  refine W_cond (by rfl) (fun q => ?_) (fun q => ?_)
  · have q' : chkV v ≠ 0 := by simpa using q
    have e : trE v ld = chkV v := by unfold trE; rw [if_pos q']
    have e2 : trV v ld = [] := by unfold trV; rw [e, if_neg q']
    rw [e, e2]
    repeat' (first | refine WK_go ?_ | refine W_seqL ?_ | refine W_seq ?_ | refine W_block ?_ | ((first | refine W_regL ?_ | refine W_skip ?_ | refine W_exit ?_ | refine CallC.now (c80) ?_); simp (maxSteps := 400000) (disch := omega) only [push_cast, ↓reduceIte, reduceCtorEq, Nat.reduceAdd, Nat.reduceSub, Nat.reduceEqDiff, Nat.reduceLeDiff, Nat.reduceLT, Nat.reduceBEq, Nat.reduceDiv, Nat.reduceMod, Nat.reducePow, Nat.reduceMul, Int.reduceToNat, Int.reduceLT, Int.reduceLE]) | refine And.intro (by omega) ?_ | refine And.intro (by intro hq; (try simp only [Bool.and_eq_true, Bool.or_eq_true, Bool.and_eq_false_iff, Bool.or_eq_false_iff, decide_eq_true_eq, decide_eq_false_iff_not, Bool.not_eq_true', Bool.not_eq_false', beq_iff_eq, beq_eq_false_iff_ne, ne_eq] at hq); omega) ?_ | fail)
    refine W_le (le_nil 4 2 dF cF rfl) ?_
    exact W_ret ⟨[_, _], ⟨rfl, rfl, rfl⟩, rfl⟩
  have hc : chkV v = 0 := by simpa using q
  have e0 : trE v ld = if ld.length ≠ v.units.length then 17 else if badL ld = true then 3 else if chkT (shL (srtL v ld)) ≠ 0 then 4 else 0 := by unfold trE; rw [if_neg (by omega)]
  repeat' (first | refine WK_go ?_ | refine W_seqL ?_ | refine W_seq ?_ | refine W_block ?_ | ((first | refine W_regL ?_ | refine W_skip ?_ | refine W_exit ?_); simp (maxSteps := 400000) (disch := omega) only [push_cast, ↓reduceIte, reduceCtorEq, Nat.reduceAdd, Nat.reduceSub, Nat.reduceEqDiff, Nat.reduceLeDiff, Nat.reduceLT, Nat.reduceBEq, Nat.reduceDiv, Nat.reduceMod, Nat.reducePow, Nat.reduceMul, Int.reduceToNat, Int.reduceLT, Int.reduceLE]) | refine And.intro (by omega) ?_ | refine And.intro (by intro hq; (try simp only [Bool.and_eq_true, Bool.or_eq_true, Bool.and_eq_false_iff, Bool.or_eq_false_iff, decide_eq_true_eq, decide_eq_false_iff_not, Bool.not_eq_true', Bool.not_eq_false', beq_iff_eq, beq_eq_false_iff_ne, ne_eq] at hq); omega) ?_ | fail)
  refine W_cond (by rfl) (fun q => ?_) (fun q => ?_)
  · have q' : ld.length ≠ v.units.length := by simp only [bne_iff_ne, ne_eq] at q; omega
    have e : trE v ld = 17 := by rw [e0, if_pos q']
    have e2 : trV v ld = [] := by unfold trV; rw [e]; rfl
    rw [e, e2]
    repeat' (first | refine WK_go ?_ | refine W_seqL ?_ | refine W_seq ?_ | refine W_block ?_ | ((first | refine W_regL ?_ | refine W_skip ?_ | refine W_exit ?_); simp (maxSteps := 400000) (disch := omega) only [push_cast, ↓reduceIte, reduceCtorEq, Nat.reduceAdd, Nat.reduceSub, Nat.reduceEqDiff, Nat.reduceLeDiff, Nat.reduceLT, Nat.reduceBEq, Nat.reduceDiv, Nat.reduceMod, Nat.reducePow, Nat.reduceMul, Int.reduceToNat, Int.reduceLT, Int.reduceLE]) | refine And.intro (by omega) ?_ | refine And.intro (by intro hq; (try simp only [Bool.and_eq_true, Bool.or_eq_true, Bool.and_eq_false_iff, Bool.or_eq_false_iff, decide_eq_true_eq, decide_eq_false_iff_not, Bool.not_eq_true', Bool.not_eq_false', beq_iff_eq, beq_eq_false_iff_ne, ne_eq] at hq); omega) ?_ | fail)
    refine W_le (le_nil 4 2 dF cF rfl) ?_
    exact W_ret ⟨[_, _], ⟨rfl, rfl, rfl⟩, rfl⟩
  have hll : ld.length = v.units.length := by simp only [bne_eq_false_iff_eq] at q; omega
  rw [if_neg (by omega)] at e0
  obtain ⟨n1, n2, n3, _⟩ := chkV_ok hc
  repeat' (first | refine WK_go ?_ | refine W_seqL ?_ | refine W_seq ?_ | refine W_block ?_ | ((first | refine W_regL ?_ | refine W_skip ?_ | refine W_exit ?_); simp (maxSteps := 400000) (disch := omega) only [push_cast, ↓reduceIte, reduceCtorEq, Nat.reduceAdd, Nat.reduceSub, Nat.reduceEqDiff, Nat.reduceLeDiff, Nat.reduceLT, Nat.reduceBEq, Nat.reduceDiv, Nat.reduceMod, Nat.reducePow, Nat.reduceMul, Int.reduceToNat, Int.reduceLT, Int.reduceLE]) | refine And.intro (by omega) ?_ | refine And.intro (by intro hq; (try simp only [Bool.and_eq_true, Bool.or_eq_true, Bool.and_eq_false_iff, Bool.or_eq_false_iff, decide_eq_true_eq, decide_eq_false_iff_not, Bool.not_eq_true', Bool.not_eq_false', beq_iff_eq, beq_eq_false_iff_ne, ne_eq] at hq); omega) ?_ | fail)
  refine W_loopU (fun i : Nat => [(6, iv i)]) (fun i => []) (fun i => i ≤ ld.length ∧ ∀ j, j < i → inR (gi ld j) 0 1048576 = true) (fun i => ld.length - i) 0 ⟨by omega, fun j hj => by omega⟩ (by rfl) (by rfl) (fun i hi => ?_)
  obtain ⟨hi1, hok⟩ := hi
  simp (maxSteps := 400000) (disch := omega) only [push_cast, ↓reduceIte, reduceCtorEq, Nat.reduceAdd, Nat.reduceSub, Nat.reduceEqDiff, Nat.reduceLeDiff, Nat.reduceLT, Nat.reduceBEq, Nat.reduceDiv, Nat.reduceMod, Nat.reducePow, Nat.reduceMul, Int.reduceToNat, Int.reduceLT, Int.reduceLE]
  repeat' (first | refine WK_go ?_ | refine W_seqL ?_ | refine W_seq ?_ | refine W_block ?_ | ((first | refine W_regL ?_ | refine W_skip ?_ | refine W_exit ?_); simp (maxSteps := 400000) (disch := omega) only [push_cast, ↓reduceIte, reduceCtorEq, Nat.reduceAdd, Nat.reduceSub, Nat.reduceEqDiff, Nat.reduceLeDiff, Nat.reduceLT, Nat.reduceBEq, Nat.reduceDiv, Nat.reduceMod, Nat.reducePow, Nat.reduceMul, Int.reduceToNat, Int.reduceLT, Int.reduceLE]) | refine And.intro (by omega) ?_ | refine And.intro (by intro hq; (try simp only [Bool.and_eq_true, Bool.or_eq_true, Bool.and_eq_false_iff, Bool.or_eq_false_iff, decide_eq_true_eq, decide_eq_false_iff_not, Bool.not_eq_true', Bool.not_eq_false', beq_iff_eq, beq_eq_false_iff_ne, ne_eq] at hq); omega) ?_ | fail)
  refine W_condD (by rfl) (fun h5 => ?_) (fun h5 => ?_)
  · have hlt : i < ld.length := by omega
    have hgl : ld.getD i 0 = gi ld i := rfl
    repeat' (first | refine WK_go ?_ | refine W_seqL ?_ | refine W_seq ?_ | refine W_block ?_ | ((first | refine W_regL ?_ | refine W_skip ?_ | refine W_exit ?_ | refine CallC.now (fn61 _ _ _) ?_); simp (maxSteps := 400000) (disch := omega) only [push_cast, ↓reduceIte, reduceCtorEq, Nat.reduceAdd, Nat.reduceSub, Nat.reduceEqDiff, Nat.reduceLeDiff, Nat.reduceLT, Nat.reduceBEq, Nat.reduceDiv, Nat.reduceMod, Nat.reducePow, Nat.reduceMul, Int.reduceToNat, Int.reduceLT, Int.reduceLE, hgl]) | refine And.intro (by omega) ?_ | refine And.intro (by intro hq; (try simp only [Bool.and_eq_true, Bool.or_eq_true, Bool.and_eq_false_iff, Bool.or_eq_false_iff, decide_eq_true_eq, decide_eq_false_iff_not, Bool.not_eq_true', Bool.not_eq_false', beq_iff_eq, beq_eq_false_iff_ne, ne_eq] at hq); omega) ?_ | fail)
    refine W_cond (by rfl) (fun hb => ?_) (fun hb => ?_)
    · have e : trE v ld = 3 := by rw [e0, if_pos (badL_yes (i := i) (by omega) (by simpa using hb))]
      have e2 : trV v ld = [] := by unfold trV; rw [e]; rfl
      rw [e, e2]
      repeat' (first | refine WK_go ?_ | refine W_seqL ?_ | refine W_seq ?_ | refine W_block ?_ | ((first | refine W_regL ?_ | refine W_skip ?_ | refine W_exit ?_); simp (maxSteps := 400000) (disch := omega) only [push_cast, ↓reduceIte, reduceCtorEq, Nat.reduceAdd, Nat.reduceSub, Nat.reduceEqDiff, Nat.reduceLeDiff, Nat.reduceLT, Nat.reduceBEq, Nat.reduceDiv, Nat.reduceMod, Nat.reducePow, Nat.reduceMul, Int.reduceToNat, Int.reduceLT, Int.reduceLE]) | refine And.intro (by omega) ?_ | refine And.intro (by intro hq; (try simp only [Bool.and_eq_true, Bool.or_eq_true, Bool.and_eq_false_iff, Bool.or_eq_false_iff, decide_eq_true_eq, decide_eq_false_iff_not, Bool.not_eq_true', Bool.not_eq_false', beq_iff_eq, beq_eq_false_iff_ne, ne_eq] at hq); omega) ?_ | fail)
      refine W_le (le_nil 4 2 dF cF rfl) ?_
      exact W_ret ⟨[_, _], ⟨rfl, rfl, rfl⟩, rfl⟩
    have hok2 : inR (gi ld i) 0 1048576 = true := by simpa using hb
    repeat' (first | refine WK_go ?_ | refine W_seqL ?_ | refine W_seq ?_ | refine W_block ?_ | ((first | refine W_regL ?_ | refine W_skip ?_ | refine W_exit ?_); simp (maxSteps := 400000) (disch := omega) only [push_cast, ↓reduceIte, reduceCtorEq, Nat.reduceAdd, Nat.reduceSub, Nat.reduceEqDiff, Nat.reduceLeDiff, Nat.reduceLT, Nat.reduceBEq, Nat.reduceDiv, Nat.reduceMod, Nat.reducePow, Nat.reduceMul, Int.reduceToNat, Int.reduceLT, Int.reduceLE]) | refine And.intro (by omega) ?_ | refine And.intro (by intro hq; (try simp only [Bool.and_eq_true, Bool.or_eq_true, Bool.and_eq_false_iff, Bool.or_eq_false_iff, decide_eq_true_eq, decide_eq_false_iff_not, Bool.not_eq_true', Bool.not_eq_false', beq_iff_eq, beq_eq_false_iff_ne, ne_eq] at hq); omega) ?_ | fail)
    refine ⟨i + 1, ⟨by omega, up_all hok hok2⟩, by omega, by rfl, ?_⟩
    simp (maxSteps := 400000) (disch := omega) only [push_cast, ↓reduceIte, reduceCtorEq, Nat.reduceAdd, Nat.reduceSub, Nat.reduceEqDiff, Nat.reduceLeDiff, Nat.reduceLT, Nat.reduceBEq, Nat.reduceDiv, Nat.reduceMod, Nat.reducePow, Nat.reduceMul, Int.reduceToNat, Int.reduceLT, Int.reduceLE, S.mk.injEq, List.cons.injEq, Prod.mk.injEq, AV.v.injEq, Value.int.injEq, Value.bool.injEq, Blk.cells.injEq]
  have hbad : badL ld = false := badL_no.2 (fun j hj => hok j (by omega))
  have hok : ∀ j, j < v.units.length → inR (gi ld j) 0 1048576 = true := fun j hj => hok j (by omega)
  rw [hbad, if_neg (by decide)] at e0
  repeat' (first | refine WK_go ?_ | refine W_seqL ?_ | refine W_seq ?_ | refine W_block ?_ | ((first | refine W_regL ?_ | refine W_skip ?_ | refine W_exit ?_); simp (maxSteps := 400000) (disch := omega) only [push_cast, ↓reduceIte, reduceCtorEq, Nat.reduceAdd, Nat.reduceSub, Nat.reduceEqDiff, Nat.reduceLeDiff, Nat.reduceLT, Nat.reduceBEq, Nat.reduceDiv, Nat.reduceMod, Nat.reducePow, Nat.reduceMul, Int.reduceToNat, Int.reduceLT, Int.reduceLE]) | refine And.intro (by omega) ?_ | refine And.intro (by intro hq; (try simp only [Bool.and_eq_true, Bool.or_eq_true, Bool.and_eq_false_iff, Bool.or_eq_false_iff, decide_eq_true_eq, decide_eq_false_iff_not, Bool.not_eq_true', Bool.not_eq_false', beq_iff_eq, beq_eq_false_iff_ne, ne_eq] at hq); omega) ?_ | fail)
  refine W_le (le_adopt 7 35 2 dF cF (by omega) rfl) ?_
  simp (maxSteps := 400000) (disch := omega) only [push_cast, ↓reduceIte, reduceCtorEq, Nat.reduceAdd, Nat.reduceSub, Nat.reduceEqDiff, Nat.reduceLeDiff, Nat.reduceLT, Nat.reduceBEq, Nat.reduceDiv, Nat.reduceMod, Nat.reducePow, Nat.reduceMul, Int.reduceToNat, Int.reduceLT, Int.reduceLE]
  clear h5 hi1
  refine W_loopU (fun i : Nat => [(7, .row 20 0), (8, iv (frnt v.units i)), (9, iv i)]) (fun i => [(20, .row 0 35 2 dF cF (isort ltX (rawL v ld i)))]) (fun i => i ≤ v.units.length) (fun i => v.units.length - i) 0 (by omega) (by rfl) (by rfl) (fun i hi1 => ?_)
  have fr := frnt_rng hc i hi1
  have rl := rawL_len hc ld i hi1
  simp (maxSteps := 400000) (disch := omega) only [push_cast, ↓reduceIte, reduceCtorEq, Nat.reduceAdd, Nat.reduceSub, Nat.reduceEqDiff, Nat.reduceLeDiff, Nat.reduceLT, Nat.reduceBEq, Nat.reduceDiv, Nat.reduceMod, Nat.reducePow, Nat.reduceMul, Int.reduceToNat, Int.reduceLT, Int.reduceLE]
  repeat' (first | refine WK_go ?_ | refine W_seqL ?_ | refine W_seq ?_ | refine W_block ?_ | ((first | refine W_regL ?_ | refine W_skip ?_ | refine W_exit ?_); simp (maxSteps := 400000) (disch := omega) only [push_cast, ↓reduceIte, reduceCtorEq, Nat.reduceAdd, Nat.reduceSub, Nat.reduceEqDiff, Nat.reduceLeDiff, Nat.reduceLT, Nat.reduceBEq, Nat.reduceDiv, Nat.reduceMod, Nat.reducePow, Nat.reduceMul, Int.reduceToNat, Int.reduceLT, Int.reduceLE]) | refine And.intro (by omega) ?_ | refine And.intro (by intro hq; (try simp only [Bool.and_eq_true, Bool.or_eq_true, Bool.and_eq_false_iff, Bool.or_eq_false_iff, decide_eq_true_eq, decide_eq_false_iff_not, Bool.not_eq_true', Bool.not_eq_false', beq_iff_eq, beq_eq_false_iff_ne, ne_eq] at hq); omega) ?_ | fail)
  refine W_condD (by rfl) (fun h5 => ?_) (fun h5 => ?_)
  · have hlt : i < v.units.length := by omega
    obtain ⟨d1, d2, d3⟩ := n2 i hlt
    have hax := fun j hj => chkV_ax hc hlt (j := j) hj
    have hgl : ld.getD i 0 = gi ld i := rfl
    have hgr := inR_iff.1 (hok i hlt)
    have hsu : v.units.getD i dU = su v.units i := rfl
    have hfr2 : frnt v.units (i + 1) = frnt v.units i + ((su v.units i).length + (su v.units i).behind) := rfl
    have hrw : rawL v ld (i + 1) = rawL v ld i ++ unL v ld i := rfl
    have hul := unL_len v ld i
    have htk := fun j hj => unL_take (v := v) (ld := ld) (i := i) (j := j) hj
    have haxf : ∀ a : Axl, axF v ld i a = ⟨frnt v.units i + a.x, gi ld i⟩ := fun _ => rfl
    unfold hd1 at d1
    unfold hd2 at d2
    generalize unL v ld i = B at *
    generalize su v.units i = u at *
    generalize rawL v ld i = A at *
    generalize frnt v.units i = F at *
    repeat' (first | refine WK_go ?_ | refine W_seqL ?_ | refine W_seq ?_ | refine W_block ?_ | ((first | refine W_regL ?_ | refine W_skip ?_ | refine W_exit ?_); simp (maxSteps := 400000) (disch := omega) only [push_cast, ↓reduceIte, reduceCtorEq, Nat.reduceAdd, Nat.reduceSub, Nat.reduceEqDiff, Nat.reduceLeDiff, Nat.reduceLT, Nat.reduceBEq, Nat.reduceDiv, Nat.reduceMod, Nat.reducePow, Nat.reduceMul, Int.reduceToNat, Int.reduceLT, Int.reduceLE, hgl, hsu]) | refine And.intro (by omega) ?_ | refine And.intro (by intro hq; (try simp only [Bool.and_eq_true, Bool.or_eq_true, Bool.and_eq_false_iff, Bool.or_eq_false_iff, decide_eq_true_eq, decide_eq_false_iff_not, Bool.not_eq_true', Bool.not_eq_false', beq_iff_eq, beq_eq_false_iff_ne, ne_eq] at hq); omega) ?_ | fail)
    refine W_loopU (fun j : Nat => [(7, .row 20 0), (11, iv j)]) (fun j => [(20, .row 0 35 2 dF cF (isort ltX (A ++ B.take j)))]) (fun j => j ≤ u.axles.length) (fun j => u.axles.length - j) 0 (by omega) (by rfl) (by rw [List.take_zero, List.append_nil]; rfl) (fun j hj => ?_)
    have htl : (isort ltX (A ++ B.take j)).length = A.length + j := by rw [isort_len, List.length_append, List.length_take, hul]; omega
    have hsrt := srt_isort swX (A ++ B.take j)
    simp (maxSteps := 400000) (disch := omega) only [push_cast, ↓reduceIte, reduceCtorEq, Nat.reduceAdd, Nat.reduceSub, Nat.reduceEqDiff, Nat.reduceLeDiff, Nat.reduceLT, Nat.reduceBEq, Nat.reduceDiv, Nat.reduceMod, Nat.reducePow, Nat.reduceMul, Int.reduceToNat, Int.reduceLT, Int.reduceLE]
    repeat' (first | refine WK_go ?_ | refine W_seqL ?_ | refine W_seq ?_ | refine W_block ?_ | ((first | refine W_regL ?_ | refine W_skip ?_ | refine W_exit ?_); simp (maxSteps := 400000) (disch := omega) only [push_cast, ↓reduceIte, reduceCtorEq, Nat.reduceAdd, Nat.reduceSub, Nat.reduceEqDiff, Nat.reduceLeDiff, Nat.reduceLT, Nat.reduceBEq, Nat.reduceDiv, Nat.reduceMod, Nat.reducePow, Nat.reduceMul, Int.reduceToNat, Int.reduceLT, Int.reduceLE]) | refine And.intro (by omega) ?_ | refine And.intro (by intro hq; (try simp only [Bool.and_eq_true, Bool.or_eq_true, Bool.and_eq_false_iff, Bool.or_eq_false_iff, decide_eq_true_eq, decide_eq_false_iff_not, Bool.not_eq_true', Bool.not_eq_false', beq_iff_eq, beq_eq_false_iff_ne, ne_eq] at hq); omega) ?_ | fail)
    refine W_condD (by rfl) (fun h6 => ?_) (fun h6 => ?_)
    · have hjt : j < u.axles.length := by omega
      have haj := hax j hjt
      have hsa : u.axles.getD j dA = sa u.axles j := rfl
      have htj := htk j hjt
      have haxj := haxf (sa u.axles j)
      have hins : isort ltX (A ++ B.take (j + 1)) = ins ltX (axF v ld i (sa u.axles j)) (isort ltX (A ++ B.take j)) := by
        rw [htj, ← List.append_assoc, isort_snoc]
      generalize isort ltX (A ++ B.take j) = O at *
      generalize sa u.axles j = ax at *
      rw [haxj] at hins
      repeat' (first | refine WK_go ?_ | refine W_seqL ?_ | refine W_seq ?_ | refine W_block ?_ | ((first | refine W_regL ?_ | refine W_skip ?_ | refine W_exit ?_); simp (maxSteps := 400000) (disch := omega) only [push_cast, ↓reduceIte, reduceCtorEq, Nat.reduceAdd, Nat.reduceSub, Nat.reduceEqDiff, Nat.reduceLeDiff, Nat.reduceLT, Nat.reduceBEq, Nat.reduceDiv, Nat.reduceMod, Nat.reducePow, Nat.reduceMul, Int.reduceToNat, Int.reduceLT, Int.reduceLE, hsa, hgl, htl]) | refine And.intro (by omega) ?_ | refine And.intro (by intro hq; (try simp only [Bool.and_eq_true, Bool.or_eq_true, Bool.and_eq_false_iff, Bool.or_eq_false_iff, decide_eq_true_eq, decide_eq_false_iff_not, Bool.not_eq_true', Bool.not_eq_false', beq_iff_eq, beq_eq_false_iff_ne, ne_eq] at hq); omega) ?_ | fail)
      refine W_loopU (fun e : Nat => [(13, iv e)]) (fun e => []) (fun e => e ≤ O.length ∧ ∀ f ∈ O.drop e, ltX ⟨F + ax.x, gi ld i⟩ f = true) (fun e => e) (A.length + j) ⟨by omega, by rw [← htl, List.drop_length]; intro f hf; cases hf⟩ (by rfl) (by rfl) (fun e he => ?_)
      obtain ⟨he1, he2⟩ := he
      obtain ⟨y, hy⟩ : ∃ y, O.getD ((e : Int) - 1).toNat dF = y := ⟨_, rfl⟩
      simp (maxSteps := 400000) (disch := omega) only [push_cast, ↓reduceIte, reduceCtorEq, Nat.reduceAdd, Nat.reduceSub, Nat.reduceEqDiff, Nat.reduceLeDiff, Nat.reduceLT, Nat.reduceBEq, Nat.reduceDiv, Nat.reduceMod, Nat.reducePow, Nat.reduceMul, Int.reduceToNat, Int.reduceLT, Int.reduceLE]
      repeat' (first | refine WK_go ?_ | refine W_seqL ?_ | refine W_seq ?_ | refine W_block ?_ | ((first | refine W_regL ?_ | refine W_skip ?_ | refine W_exit ?_); simp (maxSteps := 400000) (disch := omega) only [push_cast, ↓reduceIte, reduceCtorEq, Nat.reduceAdd, Nat.reduceSub, Nat.reduceEqDiff, Nat.reduceLeDiff, Nat.reduceLT, Nat.reduceBEq, Nat.reduceDiv, Nat.reduceMod, Nat.reducePow, Nat.reduceMul, Int.reduceToNat, Int.reduceLT, Int.reduceLE, hy, htl]) | refine And.intro (by omega) ?_ | refine And.intro (by intro hq; (try simp only [Bool.and_eq_true, Bool.or_eq_true, Bool.and_eq_false_iff, Bool.or_eq_false_iff, decide_eq_true_eq, decide_eq_false_iff_not, Bool.not_eq_true', Bool.not_eq_false', beq_iff_eq, beq_eq_false_iff_ne, ne_eq] at hq); omega) ?_ | fail)
      refine W_cond (by rfl) (fun hb => ?_) (fun hb => ?_)
      · simp only [Bool.and_eq_true, decide_eq_true_eq] at hb
        obtain ⟨e', rfl⟩ : ∃ e', e = e' + 1 := ⟨e - 1, by omega⟩
        have eb : (((e' + 1 : Nat) : Int) - 1).toNat = e' := by omega
        rw [eb] at hy
        have hall : ∀ f ∈ O.drop e', ltX ⟨F + ax.x, gi ld i⟩ f = true := by
          have he' : e' < O.length := by omega
          have e1 : O.drop e' = O.getD e' dF :: O.drop (e' + 1) := by rw [List.drop_eq_getElem_cons he']; simp [List.getD, he']
          rw [e1, hy]
          intro f hf
          rcases List.mem_cons.1 hf with rfl | hf
          · exact ltX_iff.2 hb.2
          · exact he2 f hf
        repeat' (first | refine WK_go ?_ | refine W_seqL ?_ | refine W_seq ?_ | refine W_block ?_ | ((first | refine W_regL ?_ | refine W_skip ?_ | refine W_exit ?_); simp (maxSteps := 400000) (disch := omega) only [push_cast, ↓reduceIte, reduceCtorEq, Nat.reduceAdd, Nat.reduceSub, Nat.reduceEqDiff, Nat.reduceLeDiff, Nat.reduceLT, Nat.reduceBEq, Nat.reduceDiv, Nat.reduceMod, Nat.reducePow, Nat.reduceMul, Int.reduceToNat, Int.reduceLT, Int.reduceLE]) | refine And.intro (by omega) ?_ | refine And.intro (by intro hq; (try simp only [Bool.and_eq_true, Bool.or_eq_true, Bool.and_eq_false_iff, Bool.or_eq_false_iff, decide_eq_true_eq, decide_eq_false_iff_not, Bool.not_eq_true', Bool.not_eq_false', beq_iff_eq, beq_eq_false_iff_ne, ne_eq] at hq); omega) ?_ | fail)
        refine ⟨e', ⟨by omega, hall⟩, by omega, by rfl, ?_⟩
        simp (maxSteps := 400000) (disch := omega) only [push_cast, ↓reduceIte, reduceCtorEq, Nat.reduceAdd, Nat.reduceSub, Nat.reduceEqDiff, Nat.reduceLeDiff, Nat.reduceLT, Nat.reduceBEq, Nat.reduceDiv, Nat.reduceMod, Nat.reducePow, Nat.reduceMul, Int.reduceToNat, Int.reduceLT, Int.reduceLE, S.mk.injEq, List.cons.injEq, Prod.mk.injEq, AV.v.injEq, Value.int.injEq, Value.bool.injEq, Blk.cells.injEq]
        omega
      · have hstop : e = 0 ∨ ltX ⟨F + ax.x, gi ld i⟩ (O.getD (e - 1) dF) = false := by
          by_cases z : e = 0
          · exact .inl z
          · right
            have eb : ((e : Int) - 1).toNat = e - 1 := by omega
            rw [eb] at hy
            simp only [Bool.and_eq_false_iff, decide_eq_false_iff_not] at hb
            rw [hy, ltX_no]
            show y.x ≤ F + ax.x
            omega
        have hi2 := ins_at swX hsrt dF _ he1 hstop he2
        rw [hi2] at hins
        have lt1 : (O.take e).length = e := by rw [List.length_take]; omega
        have lt2 : (O.drop e).length = O.length - e := List.length_drop
        refine W_exit ?_
        simp (maxSteps := 400000) (disch := omega) only [push_cast, ↓reduceIte, reduceCtorEq, Nat.reduceAdd, Nat.reduceSub, Nat.reduceEqDiff, Nat.reduceLeDiff, Nat.reduceLT, Nat.reduceBEq, Nat.reduceDiv, Nat.reduceMod, Nat.reducePow, Nat.reduceMul, Int.reduceToNat, Int.reduceLT, Int.reduceLE]
        refine WK_go (W_le (le_frzR 7 [1, 2, 8, 9, 10, 11, 12, 13] [31, 52] 57 20 0 35 2 dF cF O rfl rfl rfl rfl) ?_)
        simp (maxSteps := 400000) (disch := omega) only [push_cast, ↓reduceIte, reduceCtorEq, Nat.reduceAdd, Nat.reduceSub, Nat.reduceEqDiff, Nat.reduceLeDiff, Nat.reduceLT, Nat.reduceBEq, Nat.reduceDiv, Nat.reduceMod, Nat.reducePow, Nat.reduceMul, Int.reduceToNat, Int.reduceLT, Int.reduceLE, keepL, keepM]
        repeat' (first | refine WK_go ?_ | refine W_seqL ?_ | refine W_seq ?_ | refine W_block ?_ | ((first | refine W_regL ?_ | refine W_skip ?_ | refine W_exit ?_); simp (maxSteps := 400000) (disch := omega) only [push_cast, ↓reduceIte, reduceCtorEq, Nat.reduceAdd, Nat.reduceSub, Nat.reduceEqDiff, Nat.reduceLeDiff, Nat.reduceLT, Nat.reduceBEq, Nat.reduceDiv, Nat.reduceMod, Nat.reducePow, Nat.reduceMul, Int.reduceToNat, Int.reduceLT, Int.reduceLE, keepL, keepM]) | refine And.intro (by omega) ?_ | refine And.intro (by intro hq; (try simp only [Bool.and_eq_true, Bool.or_eq_true, Bool.and_eq_false_iff, Bool.or_eq_false_iff, decide_eq_true_eq, decide_eq_false_iff_not, Bool.not_eq_true', Bool.not_eq_false', beq_iff_eq, beq_eq_false_iff_ne, ne_eq] at hq); omega) ?_ | fail)
        refine ⟨rfl, trivial, Frc, dF, cF, [], rfl, by omega, fun x _ => ⟨rfl, rfl⟩, rfl, ?_⟩
        simp (maxSteps := 400000) (disch := omega) only [push_cast, ↓reduceIte, reduceCtorEq, Nat.reduceAdd, Nat.reduceSub, Nat.reduceEqDiff, Nat.reduceLeDiff, Nat.reduceLT, Nat.reduceBEq, Nat.reduceDiv, Nat.reduceMod, Nat.reducePow, Nat.reduceMul, Int.reduceToNat, Int.reduceLT, Int.reduceLE, keepL, keepM]
        repeat' (first | refine WK_go ?_ | refine W_seqL ?_ | refine W_seq ?_ | refine W_block ?_ | ((first | refine W_regL ?_ | refine W_skip ?_ | refine W_exit ?_); simp (maxSteps := 400000) (disch := omega) only [push_cast, ↓reduceIte, reduceCtorEq, Nat.reduceAdd, Nat.reduceSub, Nat.reduceEqDiff, Nat.reduceLeDiff, Nat.reduceLT, Nat.reduceBEq, Nat.reduceDiv, Nat.reduceMod, Nat.reducePow, Nat.reduceMul, Int.reduceToNat, Int.reduceLT, Int.reduceLE, keepL, keepM]) | refine And.intro (by omega) ?_ | refine And.intro (by intro hq; (try simp only [Bool.and_eq_true, Bool.or_eq_true, Bool.and_eq_false_iff, Bool.or_eq_false_iff, decide_eq_true_eq, decide_eq_false_iff_not, Bool.not_eq_true', Bool.not_eq_false', beq_iff_eq, beq_eq_false_iff_ne, ne_eq] at hq); omega) ?_ | fail)
        refine ⟨rfl, ⟨Nat.le_of_ble_eq_true rfl, rfl⟩, trivial, (O.take e), rfl, by first | omega | (simp; omega), by first | omega | (simp; omega), ?_⟩
        simp (maxSteps := 400000) (disch := omega) only [push_cast, ↓reduceIte, reduceCtorEq, Nat.reduceAdd, Nat.reduceSub, Nat.reduceEqDiff, Nat.reduceLeDiff, Nat.reduceLT, Nat.reduceBEq, Nat.reduceDiv, Nat.reduceMod, Nat.reducePow, Nat.reduceMul, Int.reduceToNat, Int.reduceLT, Int.reduceLE]
        repeat' (first | refine WK_go ?_ | refine W_seqL ?_ | refine W_seq ?_ | refine W_block ?_ | ((first | refine W_regL ?_ | refine W_skip ?_ | refine W_exit ?_); simp (maxSteps := 400000) (disch := omega) only [push_cast, ↓reduceIte, reduceCtorEq, Nat.reduceAdd, Nat.reduceSub, Nat.reduceEqDiff, Nat.reduceLeDiff, Nat.reduceLT, Nat.reduceBEq, Nat.reduceDiv, Nat.reduceMod, Nat.reducePow, Nat.reduceMul, Int.reduceToNat, Int.reduceLT, Int.reduceLE]) | refine And.intro (by omega) ?_ | refine And.intro (by intro hq; (try simp only [Bool.and_eq_true, Bool.or_eq_true, Bool.and_eq_false_iff, Bool.or_eq_false_iff, decide_eq_true_eq, decide_eq_false_iff_not, Bool.not_eq_true', Bool.not_eq_false', beq_iff_eq, beq_eq_false_iff_ne, ne_eq] at hq); omega) ?_ | fail)
        refine ⟨rfl, trivial, Frc, dF, cF, [⟨F + ax.x, gi ld i⟩], rfl, by omega, fun x _ => ⟨rfl, rfl⟩, rfl, ?_⟩
        simp (maxSteps := 400000) (disch := omega) only [push_cast, ↓reduceIte, reduceCtorEq, Nat.reduceAdd, Nat.reduceSub, Nat.reduceEqDiff, Nat.reduceLeDiff, Nat.reduceLT, Nat.reduceBEq, Nat.reduceDiv, Nat.reduceMod, Nat.reducePow, Nat.reduceMul, Int.reduceToNat, Int.reduceLT, Int.reduceLE]
        repeat' (first | refine WK_go ?_ | refine W_seqL ?_ | refine W_seq ?_ | refine W_block ?_ | ((first | refine W_regL ?_ | refine W_skip ?_ | refine W_exit ?_); simp (maxSteps := 400000) (disch := omega) only [push_cast, ↓reduceIte, reduceCtorEq, Nat.reduceAdd, Nat.reduceSub, Nat.reduceEqDiff, Nat.reduceLeDiff, Nat.reduceLT, Nat.reduceBEq, Nat.reduceDiv, Nat.reduceMod, Nat.reducePow, Nat.reduceMul, Int.reduceToNat, Int.reduceLT, Int.reduceLE]) | refine And.intro (by omega) ?_ | refine And.intro (by intro hq; (try simp only [Bool.and_eq_true, Bool.or_eq_true, Bool.and_eq_false_iff, Bool.or_eq_false_iff, decide_eq_true_eq, decide_eq_false_iff_not, Bool.not_eq_true', Bool.not_eq_false', beq_iff_eq, beq_eq_false_iff_ne, ne_eq] at hq); omega) ?_ | fail)
        refine ⟨rfl, ⟨Nat.le_of_ble_eq_true rfl, rfl⟩, trivial, [⟨F + ax.x, gi ld i⟩], rfl, by first | omega | (simp; omega), by first | omega | (simp; omega), ?_⟩
        simp (maxSteps := 400000) (disch := omega) only [push_cast, ↓reduceIte, reduceCtorEq, Nat.reduceAdd, Nat.reduceSub, Nat.reduceEqDiff, Nat.reduceLeDiff, Nat.reduceLT, Nat.reduceBEq, Nat.reduceDiv, Nat.reduceMod, Nat.reducePow, Nat.reduceMul, Int.reduceToNat, Int.reduceLT, Int.reduceLE]
        repeat' (first | refine WK_go ?_ | refine W_seqL ?_ | refine W_seq ?_ | refine W_block ?_ | ((first | refine W_regL ?_ | refine W_skip ?_ | refine W_exit ?_); simp (maxSteps := 400000) (disch := omega) only [push_cast, ↓reduceIte, reduceCtorEq, Nat.reduceAdd, Nat.reduceSub, Nat.reduceEqDiff, Nat.reduceLeDiff, Nat.reduceLT, Nat.reduceBEq, Nat.reduceDiv, Nat.reduceMod, Nat.reducePow, Nat.reduceMul, Int.reduceToNat, Int.reduceLT, Int.reduceLE, lt2]) | refine And.intro (by omega) ?_ | refine And.intro (by intro hq; (try simp only [Bool.and_eq_true, Bool.or_eq_true, Bool.and_eq_false_iff, Bool.or_eq_false_iff, decide_eq_true_eq, decide_eq_false_iff_not, Bool.not_eq_true', Bool.not_eq_false', beq_iff_eq, beq_eq_false_iff_ne, ne_eq] at hq); omega) ?_ | fail)
        refine ⟨rfl, ⟨Nat.le_of_ble_eq_true rfl, rfl⟩, trivial, (O.drop e), rfl, by first | omega | (simp; omega), by first | omega | (simp; omega), ?_⟩
        simp (maxSteps := 400000) (disch := omega) only [push_cast, ↓reduceIte, reduceCtorEq, Nat.reduceAdd, Nat.reduceSub, Nat.reduceEqDiff, Nat.reduceLeDiff, Nat.reduceLT, Nat.reduceBEq, Nat.reduceDiv, Nat.reduceMod, Nat.reducePow, Nat.reduceMul, Int.reduceToNat, Int.reduceLT, Int.reduceLE]
        have hlist : (O.take e ++ [⟨F + ax.x, gi ld i⟩]) ++ O.drop e = isort ltX (A ++ B.take (j + 1)) := by rw [hins]; simp
        refine WK_go (W_le (le_move 7 20 0 57 3 35 2 [1, 2, 8, 9, 10, 11] [31] 60 dF cF ((O.take e ++ [⟨F + ax.x, gi ld i⟩]) ++ O.drop e) rfl rfl rfl rfl rfl rfl rfl (by omega)) ?_)
        rw [hlist]
        simp (maxSteps := 400000) (disch := omega) only [push_cast, ↓reduceIte, reduceCtorEq, Nat.reduceAdd, Nat.reduceSub, Nat.reduceEqDiff, Nat.reduceLeDiff, Nat.reduceLT, Nat.reduceBEq, Nat.reduceDiv, Nat.reduceMod, Nat.reducePow, Nat.reduceMul, Int.reduceToNat, Int.reduceLT, Int.reduceLE, List.map_cons, List.map_nil, keepM]
        repeat' (first | refine WK_go ?_ | refine W_seqL ?_ | refine W_seq ?_ | refine W_block ?_ | ((first | refine W_regL ?_ | refine W_skip ?_ | refine W_exit ?_); simp (maxSteps := 400000) (disch := omega) only [push_cast, ↓reduceIte, reduceCtorEq, Nat.reduceAdd, Nat.reduceSub, Nat.reduceEqDiff, Nat.reduceLeDiff, Nat.reduceLT, Nat.reduceBEq, Nat.reduceDiv, Nat.reduceMod, Nat.reducePow, Nat.reduceMul, Int.reduceToNat, Int.reduceLT, Int.reduceLE]) | refine And.intro (by omega) ?_ | refine And.intro (by intro hq; (try simp only [Bool.and_eq_true, Bool.or_eq_true, Bool.and_eq_false_iff, Bool.or_eq_false_iff, decide_eq_true_eq, decide_eq_false_iff_not, Bool.not_eq_true', Bool.not_eq_false', beq_iff_eq, beq_eq_false_iff_ne, ne_eq] at hq); omega) ?_ | fail)
        refine ⟨j + 1, by omega, by omega, by rfl, ?_⟩
        simp (maxSteps := 400000) (disch := omega) only [push_cast, ↓reduceIte, reduceCtorEq, Nat.reduceAdd, Nat.reduceSub, Nat.reduceEqDiff, Nat.reduceLeDiff, Nat.reduceLT, Nat.reduceBEq, Nat.reduceDiv, Nat.reduceMod, Nat.reducePow, Nat.reduceMul, Int.reduceToNat, Int.reduceLT, Int.reduceLE, S.mk.injEq, List.cons.injEq, Prod.mk.injEq, AV.v.injEq, Value.int.injEq, Value.bool.injEq, Blk.cells.injEq]
    · obtain rfl : j = u.axles.length := by omega
      have hfull : B.take u.axles.length = B := List.take_of_length_le (by omega)
      rw [hfull]
      repeat' (first | refine WK_go ?_ | refine W_seqL ?_ | refine W_seq ?_ | refine W_block ?_ | ((first | refine W_regL ?_ | refine W_skip ?_ | refine W_exit ?_); simp (maxSteps := 400000) (disch := omega) only [push_cast, ↓reduceIte, reduceCtorEq, Nat.reduceAdd, Nat.reduceSub, Nat.reduceEqDiff, Nat.reduceLeDiff, Nat.reduceLT, Nat.reduceBEq, Nat.reduceDiv, Nat.reduceMod, Nat.reducePow, Nat.reduceMul, Int.reduceToNat, Int.reduceLT, Int.reduceLE]) | refine And.intro (by omega) ?_ | refine And.intro (by intro hq; (try simp only [Bool.and_eq_true, Bool.or_eq_true, Bool.and_eq_false_iff, Bool.or_eq_false_iff, decide_eq_true_eq, decide_eq_false_iff_not, Bool.not_eq_true', Bool.not_eq_false', beq_iff_eq, beq_eq_false_iff_ne, ne_eq] at hq); omega) ?_ | fail)
      refine ⟨i + 1, by omega, by omega, by rfl, ?_⟩
      rw [hrw, hfr2]
      simp (maxSteps := 400000) (disch := omega) only [push_cast, ↓reduceIte, reduceCtorEq, Nat.reduceAdd, Nat.reduceSub, Nat.reduceEqDiff, Nat.reduceLeDiff, Nat.reduceLT, Nat.reduceBEq, Nat.reduceDiv, Nat.reduceMod, Nat.reducePow, Nat.reduceMul, Int.reduceToNat, Int.reduceLT, Int.reduceLE, S.mk.injEq, List.cons.injEq, Prod.mk.injEq, AV.v.injEq, Value.int.injEq, Value.bool.injEq, Blk.cells.injEq]
  · have hin : i = v.units.length := by omega
    rw [hin]
    have rr := rawL_rng hc ld v.units.length (Nat.le_refl _)
    have rl2 := rawL_len hc ld v.units.length (Nat.le_refl _)
    have hS : isort ltX (rawL v ld v.units.length) = srtL v ld := rfl
    have hSl : (srtL v ld).length = (rawL v ld v.units.length).length := isort_len _
    have hSx : ∀ k, k < (srtL v ld).length → 0 ≤ (sf (srtL v ld) k).x ∧ (sf (srtL v ld) k).x ≤ 4194304 := fun k hk => by
      refine rr _ ((isort_mem (lt := ltX) _).1 ?_)
      exact getD_mem dF (srtL v ld) k hk
    have e2 : trV v ld = if trE v ld = 0 then shL (srtL v ld) else [] := rfl
    have hsh : shL (srtL v ld) = (srtL v ld).map (shF (sf (srtL v ld) 0).x) := rfl
    have h0 : (srtL v ld).getD 0 dF = sf (srtL v ld) 0 := rfl
    rw [hS]
    rw [e2, e0]
    clear e2 e0 hS
    generalize (rawL v ld v.units.length).length = stp at *
    generalize srtL v ld = Z at *
    have hz0 := hSx 0 (by omega)
    generalize hX : (sf Z 0).x = X at *
    generalize hZ0 : sf Z 0 = z0 at *
    repeat' (first | refine WK_go ?_ | refine W_seqL ?_ | refine W_seq ?_ | refine W_block ?_ | ((first | refine W_regL ?_ | refine W_skip ?_ | refine W_exit ?_); simp (maxSteps := 400000) (disch := omega) only [push_cast, ↓reduceIte, reduceCtorEq, Nat.reduceAdd, Nat.reduceSub, Nat.reduceEqDiff, Nat.reduceLeDiff, Nat.reduceLT, Nat.reduceBEq, Nat.reduceDiv, Nat.reduceMod, Nat.reducePow, Nat.reduceMul, Int.reduceToNat, Int.reduceLT, Int.reduceLE, h0, hX]) | refine And.intro (by omega) ?_ | refine And.intro (by intro hq; (try simp only [Bool.and_eq_true, Bool.or_eq_true, Bool.and_eq_false_iff, Bool.or_eq_false_iff, decide_eq_true_eq, decide_eq_false_iff_not, Bool.not_eq_true', Bool.not_eq_false', beq_iff_eq, beq_eq_false_iff_ne, ne_eq] at hq); omega) ?_ | fail)
    refine W_loopU (fun k : Nat => [(15, iv k)]) (fun k => [(20, .row 0 35 2 dF cF (mapJ (shF X) Z k))]) (fun k => k ≤ Z.length) (fun k => Z.length - k) 0 (by omega) (by rfl) (by rw [mapJ_zero]; rfl) (fun k hk => ?_)
    have hml := mapJ_len (shF X) Z k hk
    simp (maxSteps := 400000) (disch := omega) only [push_cast, ↓reduceIte, reduceCtorEq, Nat.reduceAdd, Nat.reduceSub, Nat.reduceEqDiff, Nat.reduceLeDiff, Nat.reduceLT, Nat.reduceBEq, Nat.reduceDiv, Nat.reduceMod, Nat.reducePow, Nat.reduceMul, Int.reduceToNat, Int.reduceLT, Int.reduceLE]
    repeat' (first | refine WK_go ?_ | refine W_seqL ?_ | refine W_seq ?_ | refine W_block ?_ | ((first | refine W_regL ?_ | refine W_skip ?_ | refine W_exit ?_); simp (maxSteps := 400000) (disch := omega) only [push_cast, ↓reduceIte, reduceCtorEq, Nat.reduceAdd, Nat.reduceSub, Nat.reduceEqDiff, Nat.reduceLeDiff, Nat.reduceLT, Nat.reduceBEq, Nat.reduceDiv, Nat.reduceMod, Nat.reducePow, Nat.reduceMul, Int.reduceToNat, Int.reduceLT, Int.reduceLE, hml]) | refine And.intro (by omega) ?_ | refine And.intro (by intro hq; (try simp only [Bool.and_eq_true, Bool.or_eq_true, Bool.and_eq_false_iff, Bool.or_eq_false_iff, decide_eq_true_eq, decide_eq_false_iff_not, Bool.not_eq_true', Bool.not_eq_false', beq_iff_eq, beq_eq_false_iff_ne, ne_eq] at hq); omega) ?_ | fail)
    refine W_condD (by rfl) (fun h6 => ?_) (fun h6 => ?_)
    · have hkl : k < Z.length := by omega
      have hat := mapJ_at (shF X) Z k hkl
      have hset := mapJ_set (shF X) Z k hkl
      have hxk := hSx k hkl
      have hsf : shF X (sf Z k) = ⟨(sf Z k).x - X, (sf Z k).p⟩ := rfl
      generalize sf Z k = zk at *
      repeat' (first | refine WK_go ?_ | refine W_seqL ?_ | refine W_seq ?_ | refine W_block ?_ | ((first | refine W_regL ?_ | refine W_skip ?_ | refine W_exit ?_); simp (maxSteps := 400000) (disch := omega) only [push_cast, ↓reduceIte, reduceCtorEq, Nat.reduceAdd, Nat.reduceSub, Nat.reduceEqDiff, Nat.reduceLeDiff, Nat.reduceLT, Nat.reduceBEq, Nat.reduceDiv, Nat.reduceMod, Nat.reducePow, Nat.reduceMul, Int.reduceToNat, Int.reduceLT, Int.reduceLE, hml, hat]) | refine And.intro (by omega) ?_ | refine And.intro (by intro hq; (try simp only [Bool.and_eq_true, Bool.or_eq_true, Bool.and_eq_false_iff, Bool.or_eq_false_iff, decide_eq_true_eq, decide_eq_false_iff_not, Bool.not_eq_true', Bool.not_eq_false', beq_iff_eq, beq_eq_false_iff_ne, ne_eq] at hq); omega) ?_ | fail)
      refine ⟨rfl, ⟨Nat.le_of_ble_eq_true rfl, rfl⟩, by omega, shF X zk, by rw [hat]; rfl, rfl, ?_⟩
      rw [hset]
      simp (maxSteps := 400000) (disch := omega) only [push_cast, ↓reduceIte, reduceCtorEq, Nat.reduceAdd, Nat.reduceSub, Nat.reduceEqDiff, Nat.reduceLeDiff, Nat.reduceLT, Nat.reduceBEq, Nat.reduceDiv, Nat.reduceMod, Nat.reducePow, Nat.reduceMul, Int.reduceToNat, Int.reduceLT, Int.reduceLE]
      repeat' (first | refine WK_go ?_ | refine W_seqL ?_ | refine W_seq ?_ | refine W_block ?_ | ((first | refine W_regL ?_ | refine W_skip ?_ | refine W_exit ?_); simp (maxSteps := 400000) (disch := omega) only [push_cast, ↓reduceIte, reduceCtorEq, Nat.reduceAdd, Nat.reduceSub, Nat.reduceEqDiff, Nat.reduceLeDiff, Nat.reduceLT, Nat.reduceBEq, Nat.reduceDiv, Nat.reduceMod, Nat.reducePow, Nat.reduceMul, Int.reduceToNat, Int.reduceLT, Int.reduceLE]) | refine And.intro (by omega) ?_ | refine And.intro (by intro hq; (try simp only [Bool.and_eq_true, Bool.or_eq_true, Bool.and_eq_false_iff, Bool.or_eq_false_iff, decide_eq_true_eq, decide_eq_false_iff_not, Bool.not_eq_true', Bool.not_eq_false', beq_iff_eq, beq_eq_false_iff_ne, ne_eq] at hq); omega) ?_ | fail)
      refine ⟨k + 1, by omega, by omega, by rfl, ?_⟩
      simp (maxSteps := 400000) (disch := omega) only [push_cast, ↓reduceIte, reduceCtorEq, Nat.reduceAdd, Nat.reduceSub, Nat.reduceEqDiff, Nat.reduceLeDiff, Nat.reduceLT, Nat.reduceBEq, Nat.reduceDiv, Nat.reduceMod, Nat.reducePow, Nat.reduceMul, Int.reduceToNat, Int.reduceLT, Int.reduceLE, S.mk.injEq, List.cons.injEq, Prod.mk.injEq, AV.v.injEq, Value.int.injEq, Value.bool.injEq, Blk.cells.injEq]
    · have hkn : k = Z.length := by omega
      rw [hkn, mapJ_all, ← hsh]
      have c60 := fn60 (shL Z) (by rw [hsh, List.length_map]; omega)
      repeat' (first | refine WK_go ?_ | refine W_seqL ?_ | refine W_seq ?_ | refine W_block ?_ | ((first | refine W_regL ?_ | refine W_skip ?_ | refine W_exit ?_ | refine CallC.go _ (fun _ => ⟨trivial, c60⟩) rfl ?_); simp (maxSteps := 400000) (disch := omega) only [push_cast, ↓reduceIte, reduceCtorEq, Nat.reduceAdd, Nat.reduceSub, Nat.reduceEqDiff, Nat.reduceLeDiff, Nat.reduceLT, Nat.reduceBEq, Nat.reduceDiv, Nat.reduceMod, Nat.reducePow, Nat.reduceMul, Int.reduceToNat, Int.reduceLT, Int.reduceLE]) | refine And.intro (by omega) ?_ | refine And.intro (by intro hq; (try simp only [Bool.and_eq_true, Bool.or_eq_true, Bool.and_eq_false_iff, Bool.or_eq_false_iff, decide_eq_true_eq, decide_eq_false_iff_not, Bool.not_eq_true', Bool.not_eq_false', beq_iff_eq, beq_eq_false_iff_ne, ne_eq] at hq); omega) ?_ | fail)
      refine W_cond (by rfl) (fun hb => ?_) (fun hb => ?_)
      · have hb' : chkT (shL Z) ≠ 0 := by simpa using hb
        rw [if_pos hb', if_neg (by decide)]
        repeat' (first | refine WK_go ?_ | refine W_seqL ?_ | refine W_seq ?_ | refine W_block ?_ | ((first | refine W_regL ?_ | refine W_skip ?_ | refine W_exit ?_); simp (maxSteps := 400000) (disch := omega) only [push_cast, ↓reduceIte, reduceCtorEq, Nat.reduceAdd, Nat.reduceSub, Nat.reduceEqDiff, Nat.reduceLeDiff, Nat.reduceLT, Nat.reduceBEq, Nat.reduceDiv, Nat.reduceMod, Nat.reducePow, Nat.reduceMul, Int.reduceToNat, Int.reduceLT, Int.reduceLE]) | refine And.intro (by omega) ?_ | refine And.intro (by intro hq; (try simp only [Bool.and_eq_true, Bool.or_eq_true, Bool.and_eq_false_iff, Bool.or_eq_false_iff, decide_eq_true_eq, decide_eq_false_iff_not, Bool.not_eq_true', Bool.not_eq_false', beq_iff_eq, beq_eq_false_iff_ne, ne_eq] at hq); omega) ?_ | fail)
        refine W_le (le_nil 4 2 dF cF rfl) ?_
        exact W_ret ⟨[_, _], ⟨rfl, rfl, rfl⟩, rfl⟩
      · have hb' : chkT (shL Z) = 0 := by simpa using hb
        have hn' : ¬ chkT (shL Z) ≠ 0 := by omega
        rw [if_neg hn', if_pos rfl]
        repeat' (first | refine WK_go ?_ | refine W_seqL ?_ | refine W_seq ?_ | refine W_block ?_ | ((first | refine W_regL ?_ | refine W_skip ?_ | refine W_exit ?_); simp (maxSteps := 400000) (disch := omega) only [push_cast, ↓reduceIte, reduceCtorEq, Nat.reduceAdd, Nat.reduceSub, Nat.reduceEqDiff, Nat.reduceLeDiff, Nat.reduceLT, Nat.reduceBEq, Nat.reduceDiv, Nat.reduceMod, Nat.reducePow, Nat.reduceMul, Int.reduceToNat, Int.reduceLT, Int.reduceLE]) | refine And.intro (by omega) ?_ | refine And.intro (by intro hq; (try simp only [Bool.and_eq_true, Bool.or_eq_true, Bool.and_eq_false_iff, Bool.or_eq_false_iff, decide_eq_true_eq, decide_eq_false_iff_not, Bool.not_eq_true', Bool.not_eq_false', beq_iff_eq, beq_eq_false_iff_ne, ne_eq] at hq); omega) ?_ | fail)
        exact W_ret ⟨[_, _], ⟨rfl, rfl, rfl⟩, rfl⟩
theorem fn46 (l : List Frc) (hl : l.length ≤ 1000) : Sy.Fn Try.prog 46 [aT l, aT l] (bv true) := by
  refine Fn_of_W mixed Xt46 rfl ?_
  repeat' (first | refine WK_go ?_ | refine W_seqL ?_ | refine W_seq ?_ | refine W_block ?_ | ((first | refine W_regL ?_ | refine W_skip ?_ | refine W_exit ?_); simp (maxSteps := 400000) (disch := omega) only [push_cast, ↓reduceIte, reduceCtorEq, Nat.reduceAdd, Nat.reduceSub, Nat.reduceEqDiff, Nat.reduceLeDiff, Nat.reduceLT, Nat.reduceBEq, Nat.reduceDiv, Nat.reduceMod, Nat.reducePow, Nat.reduceMul, Int.reduceToNat, Int.reduceLT, Int.reduceLE]) | refine And.intro (by omega) ?_ | refine And.intro (by intro hq; (try simp only [Bool.and_eq_true, Bool.or_eq_true, Bool.and_eq_false_iff, Bool.or_eq_false_iff, decide_eq_true_eq, decide_eq_false_iff_not, Bool.not_eq_true', Bool.not_eq_false', beq_iff_eq, beq_eq_false_iff_ne, ne_eq] at hq); omega) ?_ | fail)
  refine W_cond (by rfl) (fun q => by simp at q) (fun _ => ?_)
  repeat' (first | refine WK_go ?_ | refine W_seqL ?_ | refine W_seq ?_ | refine W_block ?_ | ((first | refine W_regL ?_ | refine W_skip ?_ | refine W_exit ?_); simp (maxSteps := 400000) (disch := omega) only [push_cast, ↓reduceIte, reduceCtorEq, Nat.reduceAdd, Nat.reduceSub, Nat.reduceEqDiff, Nat.reduceLeDiff, Nat.reduceLT, Nat.reduceBEq, Nat.reduceDiv, Nat.reduceMod, Nat.reducePow, Nat.reduceMul, Int.reduceToNat, Int.reduceLT, Int.reduceLE]) | refine And.intro (by omega) ?_ | refine And.intro (by intro hq; (try simp only [Bool.and_eq_true, Bool.or_eq_true, Bool.and_eq_false_iff, Bool.or_eq_false_iff, decide_eq_true_eq, decide_eq_false_iff_not, Bool.not_eq_true', Bool.not_eq_false', beq_iff_eq, beq_eq_false_iff_ne, ne_eq] at hq); omega) ?_ | fail)
  refine W_loopU (fun i : Nat => [(5, iv i)]) (fun i => []) (fun i => i ≤ l.length) (fun i => l.length - i) 0 (by omega) (by rfl) (by rfl) (fun i hi => ?_)
  simp (maxSteps := 400000) (disch := omega) only [push_cast, ↓reduceIte, reduceCtorEq, Nat.reduceAdd, Nat.reduceSub, Nat.reduceEqDiff, Nat.reduceLeDiff, Nat.reduceLT, Nat.reduceBEq, Nat.reduceDiv, Nat.reduceMod, Nat.reducePow, Nat.reduceMul, Int.reduceToNat, Int.reduceLT, Int.reduceLE]
  repeat' (first | refine WK_go ?_ | refine W_seqL ?_ | refine W_seq ?_ | refine W_block ?_ | ((first | refine W_regL ?_ | refine W_skip ?_ | refine W_exit ?_); simp (maxSteps := 400000) (disch := omega) only [push_cast, ↓reduceIte, reduceCtorEq, Nat.reduceAdd, Nat.reduceSub, Nat.reduceEqDiff, Nat.reduceLeDiff, Nat.reduceLT, Nat.reduceBEq, Nat.reduceDiv, Nat.reduceMod, Nat.reducePow, Nat.reduceMul, Int.reduceToNat, Int.reduceLT, Int.reduceLE]) | refine And.intro (by omega) ?_ | refine And.intro (by intro hq; (try simp only [Bool.and_eq_true, Bool.or_eq_true, Bool.and_eq_false_iff, Bool.or_eq_false_iff, decide_eq_true_eq, decide_eq_false_iff_not, Bool.not_eq_true', Bool.not_eq_false', beq_iff_eq, beq_eq_false_iff_ne, ne_eq] at hq); omega) ?_ | fail)
  refine W_condD (by rfl) (fun h5 => ?_) (fun h5 => ?_)
  · have hlt : i < l.length := by omega
    generalize hw : l.getD i dF = w at *
    repeat' (first | refine WK_go ?_ | refine W_seqL ?_ | refine W_seq ?_ | refine W_block ?_ | ((first | refine W_regL ?_ | refine W_skip ?_ | refine W_exit ?_); simp (maxSteps := 400000) (disch := omega) only [push_cast, ↓reduceIte, reduceCtorEq, Nat.reduceAdd, Nat.reduceSub, Nat.reduceEqDiff, Nat.reduceLeDiff, Nat.reduceLT, Nat.reduceBEq, Nat.reduceDiv, Nat.reduceMod, Nat.reducePow, Nat.reduceMul, Int.reduceToNat, Int.reduceLT, Int.reduceLE, hw, cF]) | refine And.intro (by omega) ?_ | refine And.intro (by intro hq; (try simp only [Bool.and_eq_true, Bool.or_eq_true, Bool.and_eq_false_iff, Bool.or_eq_false_iff, decide_eq_true_eq, decide_eq_false_iff_not, Bool.not_eq_true', Bool.not_eq_false', beq_iff_eq, beq_eq_false_iff_ne, ne_eq] at hq); omega) ?_ | fail)
    refine W_cond (by rfl) (fun q => by cases q) (fun _ => ?_)
    repeat' (first | refine WK_go ?_ | refine W_seqL ?_ | refine W_seq ?_ | refine W_block ?_ | ((first | refine W_regL ?_ | refine W_skip ?_ | refine W_exit ?_); simp (maxSteps := 400000) (disch := omega) only [push_cast, ↓reduceIte, reduceCtorEq, Nat.reduceAdd, Nat.reduceSub, Nat.reduceEqDiff, Nat.reduceLeDiff, Nat.reduceLT, Nat.reduceBEq, Nat.reduceDiv, Nat.reduceMod, Nat.reducePow, Nat.reduceMul, Int.reduceToNat, Int.reduceLT, Int.reduceLE]) | refine And.intro (by omega) ?_ | refine And.intro (by intro hq; (try simp only [Bool.and_eq_true, Bool.or_eq_true, Bool.and_eq_false_iff, Bool.or_eq_false_iff, decide_eq_true_eq, decide_eq_false_iff_not, Bool.not_eq_true', Bool.not_eq_false', beq_iff_eq, beq_eq_false_iff_ne, ne_eq] at hq); omega) ?_ | fail)
    refine ⟨i + 1, by omega, by omega, by rfl, ?_⟩
    simp (maxSteps := 400000) (disch := omega) only [push_cast, ↓reduceIte, reduceCtorEq, Nat.reduceAdd, Nat.reduceSub, Nat.reduceEqDiff, Nat.reduceLeDiff, Nat.reduceLT, Nat.reduceBEq, Nat.reduceDiv, Nat.reduceMod, Nat.reducePow, Nat.reduceMul, Int.reduceToNat, Int.reduceLT, Int.reduceLE, S.mk.injEq, List.cons.injEq, Prod.mk.injEq, AV.v.injEq, Value.int.injEq, Value.bool.injEq, Blk.cells.injEq]
  · repeat' (first | refine WK_go ?_ | refine W_seqL ?_ | refine W_seq ?_ | refine W_block ?_ | ((first | refine W_regL ?_ | refine W_skip ?_ | refine W_exit ?_); simp (maxSteps := 400000) (disch := omega) only [push_cast, ↓reduceIte, reduceCtorEq, Nat.reduceAdd, Nat.reduceSub, Nat.reduceEqDiff, Nat.reduceLeDiff, Nat.reduceLT, Nat.reduceBEq, Nat.reduceDiv, Nat.reduceMod, Nat.reducePow, Nat.reduceMul, Int.reduceToNat, Int.reduceLT, Int.reduceLE]) | refine And.intro (by omega) ?_ | refine And.intro (by intro hq; (try simp only [Bool.and_eq_true, Bool.or_eq_true, Bool.and_eq_false_iff, Bool.or_eq_false_iff, decide_eq_true_eq, decide_eq_false_iff_not, Bool.not_eq_true', Bool.not_eq_false', beq_iff_eq, beq_eq_false_iff_ne, ne_eq] at hq); omega) ?_ | fail)
    exact W_ret ⟨[_], ⟨rfl, rfl⟩, rfl⟩
theorem trV_len {v : Veh} {ld : List Int} : (trV v ld).length ≤ 1000 := by
  unfold trV
  split
  · rename_i h
    by_cases hc : chkV v = 0
    · have h1 := rawL_len hc ld v.units.length (Nat.le_refl _)
      have h2 := (chkV_ok hc).1
      unfold shL srtL
      rw [List.length_map, isort_len]
      omega
    · unfold trE at h
      rw [if_pos hc] at h
      exact absurd h hc
  · exact Nat.zero_le _
theorem fn11 (v : Veh) (ld : List Int) (h1 : v.units.length ≤ 140737488355328) (h2 : ∀ u ∈ v.units, u.axles.length ≤ 140737488355328) (h3 : ld.length ≤ 140737488355328) : Sy.Fn Try.prog 11 [.agg (cV v), aI ld] (bv true) := by
  refine Fn_of_W mixed Xt11 rfl ?_
  repeat' (first | refine WK_go ?_ | refine W_seqL ?_ | refine W_seq ?_ | refine W_block ?_ | ((first | refine W_regL ?_ | refine W_skip ?_ | refine W_exit ?_); simp (maxSteps := 400000) (disch := omega) only [push_cast, ↓reduceIte, reduceCtorEq, Nat.reduceAdd, Nat.reduceSub, Nat.reduceEqDiff, Nat.reduceLeDiff, Nat.reduceLT, Nat.reduceBEq, Nat.reduceDiv, Nat.reduceMod, Nat.reducePow, Nat.reduceMul, Int.reduceToNat, Int.reduceLT, Int.reduceLE]) | refine And.intro (by omega) ?_ | refine And.intro (by intro hq; (try simp only [Bool.and_eq_true, Bool.or_eq_true, Bool.and_eq_false_iff, Bool.or_eq_false_iff, decide_eq_true_eq, decide_eq_false_iff_not, Bool.not_eq_true', Bool.not_eq_false', beq_iff_eq, beq_eq_false_iff_ne, ne_eq] at hq); omega) ?_ | fail)
  refine W_cond (by rfl) (fun q => ?_) (fun q => ?_)
  · repeat' (first | refine WK_go ?_ | refine W_seqL ?_ | refine W_seq ?_ | refine W_block ?_ | ((first | refine W_regL ?_ | refine W_skip ?_ | refine W_exit ?_ | refine CallC.now (fn13) ?_); simp (maxSteps := 400000) (disch := omega) only [push_cast, ↓reduceIte, reduceCtorEq, Nat.reduceAdd, Nat.reduceSub, Nat.reduceEqDiff, Nat.reduceLeDiff, Nat.reduceLT, Nat.reduceBEq, Nat.reduceDiv, Nat.reduceMod, Nat.reducePow, Nat.reduceMul, Int.reduceToNat, Int.reduceLT, Int.reduceLE]) | refine And.intro (by omega) ?_ | refine And.intro (by intro hq; (try simp only [Bool.and_eq_true, Bool.or_eq_true, Bool.and_eq_false_iff, Bool.or_eq_false_iff, decide_eq_true_eq, decide_eq_false_iff_not, Bool.not_eq_true', Bool.not_eq_false', beq_iff_eq, beq_eq_false_iff_ne, ne_eq] at hq); omega) ?_ | fail)
    exact W_ret ⟨[_], ⟨rfl, rfl⟩, rfl⟩
  simp only [Bool.or_eq_false_iff, decide_eq_false_iff_not] at q
  repeat' (first | refine WK_go ?_ | refine W_seqL ?_ | refine W_seq ?_ | refine W_block ?_ | ((first | refine W_regL ?_ | refine W_skip ?_ | refine W_exit ?_); simp (maxSteps := 400000) (disch := omega) only [push_cast, ↓reduceIte, reduceCtorEq, Nat.reduceAdd, Nat.reduceSub, Nat.reduceEqDiff, Nat.reduceLeDiff, Nat.reduceLT, Nat.reduceBEq, Nat.reduceDiv, Nat.reduceMod, Nat.reducePow, Nat.reduceMul, Int.reduceToNat, Int.reduceLT, Int.reduceLE]) | refine And.intro (by omega) ?_ | refine And.intro (by intro hq; (try simp only [Bool.and_eq_true, Bool.or_eq_true, Bool.and_eq_false_iff, Bool.or_eq_false_iff, decide_eq_true_eq, decide_eq_false_iff_not, Bool.not_eq_true', Bool.not_eq_false', beq_iff_eq, beq_eq_false_iff_ne, ne_eq] at hq); omega) ?_ | fail)
  refine W_loopU (fun i : Nat => [(5, iv i)]) (fun i => []) (fun i => i ≤ v.units.length ∧ ∀ j, j < i → (su v.units j).axles.length ≤ 40) (fun i => v.units.length - i) 0 ⟨by omega, fun j hj => by omega⟩ (by rfl) (by rfl) (fun i hi => ?_)
  obtain ⟨hi1, hok⟩ := hi
  simp (maxSteps := 400000) (disch := omega) only [push_cast, ↓reduceIte, reduceCtorEq, Nat.reduceAdd, Nat.reduceSub, Nat.reduceEqDiff, Nat.reduceLeDiff, Nat.reduceLT, Nat.reduceBEq, Nat.reduceDiv, Nat.reduceMod, Nat.reducePow, Nat.reduceMul, Int.reduceToNat, Int.reduceLT, Int.reduceLE]
  repeat' (first | refine WK_go ?_ | refine W_seqL ?_ | refine W_seq ?_ | refine W_block ?_ | ((first | refine W_regL ?_ | refine W_skip ?_ | refine W_exit ?_); simp (maxSteps := 400000) (disch := omega) only [push_cast, ↓reduceIte, reduceCtorEq, Nat.reduceAdd, Nat.reduceSub, Nat.reduceEqDiff, Nat.reduceLeDiff, Nat.reduceLT, Nat.reduceBEq, Nat.reduceDiv, Nat.reduceMod, Nat.reducePow, Nat.reduceMul, Int.reduceToNat, Int.reduceLT, Int.reduceLE]) | refine And.intro (by omega) ?_ | refine And.intro (by intro hq; (try simp only [Bool.and_eq_true, Bool.or_eq_true, Bool.and_eq_false_iff, Bool.or_eq_false_iff, decide_eq_true_eq, decide_eq_false_iff_not, Bool.not_eq_true', Bool.not_eq_false', beq_iff_eq, beq_eq_false_iff_ne, ne_eq] at hq); omega) ?_ | fail)
  refine W_condD (by rfl) (fun h5 => ?_) (fun h5 => ?_)
  · have hlt : i < v.units.length := by omega
    have hsu : v.units.getD i dU = su v.units i := rfl
    have hal := h2 _ (getD_mem dU v.units i hlt)
    rw [hsu] at hal
    have hok' : (su v.units i).axles.length ≤ 40 → ∀ j, j < i + 1 → (su v.units j).axles.length ≤ 40 := fun h => up_all hok h
    generalize su v.units i = u at *
    repeat' (first | refine WK_go ?_ | refine W_seqL ?_ | refine W_seq ?_ | refine W_block ?_ | ((first | refine W_regL ?_ | refine W_skip ?_ | refine W_exit ?_); simp (maxSteps := 400000) (disch := omega) only [push_cast, ↓reduceIte, reduceCtorEq, Nat.reduceAdd, Nat.reduceSub, Nat.reduceEqDiff, Nat.reduceLeDiff, Nat.reduceLT, Nat.reduceBEq, Nat.reduceDiv, Nat.reduceMod, Nat.reducePow, Nat.reduceMul, Int.reduceToNat, Int.reduceLT, Int.reduceLE, hsu]) | refine And.intro (by omega) ?_ | refine And.intro (by intro hq; (try simp only [Bool.and_eq_true, Bool.or_eq_true, Bool.and_eq_false_iff, Bool.or_eq_false_iff, decide_eq_true_eq, decide_eq_false_iff_not, Bool.not_eq_true', Bool.not_eq_false', beq_iff_eq, beq_eq_false_iff_ne, ne_eq] at hq); omega) ?_ | fail)
    refine W_condD (by rfl) (fun h6 => ?_) (fun h6 => ?_)
    · repeat' (first | refine WK_go ?_ | refine W_seqL ?_ | refine W_seq ?_ | refine W_block ?_ | ((first | refine W_regL ?_ | refine W_skip ?_ | refine W_exit ?_ | refine CallC.now (fn13) ?_); simp (maxSteps := 400000) (disch := omega) only [push_cast, ↓reduceIte, reduceCtorEq, Nat.reduceAdd, Nat.reduceSub, Nat.reduceEqDiff, Nat.reduceLeDiff, Nat.reduceLT, Nat.reduceBEq, Nat.reduceDiv, Nat.reduceMod, Nat.reducePow, Nat.reduceMul, Int.reduceToNat, Int.reduceLT, Int.reduceLE]) | refine And.intro (by omega) ?_ | refine And.intro (by intro hq; (try simp only [Bool.and_eq_true, Bool.or_eq_true, Bool.and_eq_false_iff, Bool.or_eq_false_iff, decide_eq_true_eq, decide_eq_false_iff_not, Bool.not_eq_true', Bool.not_eq_false', beq_iff_eq, beq_eq_false_iff_ne, ne_eq] at hq); omega) ?_ | fail)
      exact W_ret ⟨[_], ⟨rfl, rfl⟩, rfl⟩
    · repeat' (first | refine WK_go ?_ | refine W_seqL ?_ | refine W_seq ?_ | refine W_block ?_ | ((first | refine W_regL ?_ | refine W_skip ?_ | refine W_exit ?_); simp (maxSteps := 400000) (disch := omega) only [push_cast, ↓reduceIte, reduceCtorEq, Nat.reduceAdd, Nat.reduceSub, Nat.reduceEqDiff, Nat.reduceLeDiff, Nat.reduceLT, Nat.reduceBEq, Nat.reduceDiv, Nat.reduceMod, Nat.reducePow, Nat.reduceMul, Int.reduceToNat, Int.reduceLT, Int.reduceLE]) | refine And.intro (by omega) ?_ | refine And.intro (by intro hq; (try simp only [Bool.and_eq_true, Bool.or_eq_true, Bool.and_eq_false_iff, Bool.or_eq_false_iff, decide_eq_true_eq, decide_eq_false_iff_not, Bool.not_eq_true', Bool.not_eq_false', beq_iff_eq, beq_eq_false_iff_ne, ne_eq] at hq); omega) ?_ | fail)
      refine ⟨i + 1, ⟨by omega, hok' (by omega)⟩, by omega, by rfl, ?_⟩
      simp (maxSteps := 400000) (disch := omega) only [push_cast, ↓reduceIte, reduceCtorEq, Nat.reduceAdd, Nat.reduceSub, Nat.reduceEqDiff, Nat.reduceLeDiff, Nat.reduceLT, Nat.reduceBEq, Nat.reduceDiv, Nat.reduceMod, Nat.reducePow, Nat.reduceMul, Int.reduceToNat, Int.reduceLT, Int.reduceLE, S.mk.injEq, List.cons.injEq, Prod.mk.injEq, AV.v.injEq, Value.int.injEq, Value.bool.injEq, Blk.cells.injEq]
  have hv : Gr v := ⟨by omega, fun u hu => by
    obtain ⟨j, hj, rfl⟩ := List.getElem_of_mem hu
    have := hok j (by omega)
    simpa [su, List.getD, hj] using this⟩
  have c44 := fn44 v ld hv (by omega)
  have c45 := fn45 v ld hv (by omega)
  have c46 := fn46 (trV v ld) trV_len
  repeat' (first | refine WK_go ?_ | refine W_seqL ?_ | refine W_seq ?_ | refine W_block ?_ | ((first | refine W_regL ?_ | refine W_skip ?_ | refine W_exit ?_ | refine CallC.now (c44) ?_ | refine CallC.now (c45) ?_ | refine CallC.go _ (fun _ => ⟨trivial, c46⟩) rfl ?_ | refine CallC.go _ (fun _ => ⟨trivial, fn13⟩) rfl ?_); simp (maxSteps := 400000) (disch := omega) only [push_cast, ↓reduceIte, reduceCtorEq, Nat.reduceAdd, Nat.reduceSub, Nat.reduceEqDiff, Nat.reduceLeDiff, Nat.reduceLT, Nat.reduceBEq, Nat.reduceDiv, Nat.reduceMod, Nat.reducePow, Nat.reduceMul, Int.reduceToNat, Int.reduceLT, Int.reduceLE, beq_self_eq_true]) | refine And.intro (by omega) ?_ | refine And.intro (by intro hq; (try simp only [Bool.and_eq_true, Bool.or_eq_true, Bool.and_eq_false_iff, Bool.or_eq_false_iff, decide_eq_true_eq, decide_eq_false_iff_not, Bool.not_eq_true', Bool.not_eq_false', beq_iff_eq, beq_eq_false_iff_ne, ne_eq] at hq); omega) ?_ | fail)
  exact W_ret ⟨[_], ⟨rfl, rfl⟩, rfl⟩
end Go.Proofs.Ytbdnnicodailcaa

