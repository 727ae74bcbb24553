/- Part 7 of the proof of: TopBounded: for every input the law returns true -/
import Derived.Test.YtcfomfajpmlleaaGreatP6
namespace Go.Proofs.YtcfomfajpmlleaaGreat
open Go Sy
set_option maxRecDepth 100000
set_option maxHeartbeats 8000000
set_option linter.unusedVariables false
set_option linter.unusedSimpArgs false
def fS (l : List Bx) : Nat → Int
  | 0 => max 2500 (1200 + eH (crg l).ps 2 ((crg l).ps.length - 1))
  | 1 => 2500
  | 2 => 16000 + smM (crg l).ps
  | 3 => max 4500 (cdiv (7000 + smM (crg l).ps) 3)
  | 4 => 11500
  | _ => 0
def okS (l : List Bx) : Bool := !decide (l = []) && decide (cdiv (7000 + smM (crg l).ps) 3 ≤ 12000)
def szF (l : List Bx) (k : Nat) : Int := if okS l = true then fS l k else 0
theorem eLH {l : List Pce} (h : ∀ i, i < l.length → pceB (pc l i) = true) : ∀ n, n < l.length → eL l 2 n ≤ eH l 2 n ∧ 0 ≤ eH l 2 n ∧ eH l 2 n ≤ 131072
  | 0, hn => by
    obtain ⟨⟨h1, h2, h3⟩, h4⟩ := pceB_iff.1 (h 0 hn)
    show (pc l 0).z ≤ (pc l 0).z + (pc l 0).h ∧ 0 ≤ (pc l 0).z + (pc l 0).h ∧ (pc l 0).z + (pc l 0).h ≤ 131072
    omega
  | n + 1, hn => by
    have ih := eLH h n (by omega)
    obtain ⟨⟨h1, h2, h3⟩, h4⟩ := pceB_iff.1 (h (n + 1) hn)
    show min (eL l 2 n) (pc l (n + 1)).z ≤ max (eH l 2 n) ((pc l (n + 1)).z + (pc l (n + 1)).h) ∧ 0 ≤ max (eH l 2 n) ((pc l (n + 1)).z + (pc l (n + 1)).h) ∧ max (eH l 2 n) ((pc l (n + 1)).z + (pc l (n + 1)).h) ≤ 131072
    omega
theorem fn6 (l : List Bx) (h : ∀ b ∈ l, OBx b) : Sy.Fn Tryz.prog 6 [.agg (cLd (crg l))] (.tup [.agg (R.c6 (szF l)), bv (okS l)]) := by
  refine Fn_of_W mixed Xt6 rfl ?_
  have l1 : (crg l).ps.length ≤ 140737488355328 := by have := crg_len l; omega
  have l2 : (crg l).es.length ≤ 140737488355328 := by show ([] : List Eye).length ≤ _; simp
  have c17 := fn17 (crg l) l1 l2
  have c20 := fn20 (car 1) (car_gr 1) car_ok1
  rw [show msU (car 1).units = 16000 from rfl] at c20
  have ev : cV (car 1) = [stv carS, aU (car 1).units, iv 1, iv 1] := rfl
  rw [ev] at c20
  have c16 := fn16
  rw [ev] at c16
  have c21 := fn21
  rw [ev] at c21
  by_cases hn : l = []
  · have e6 : chkL (crg l) = 6 := by rw [hn]; exact crg_nil
    have c18 := fn18e (crg l) l1 l2 (by rw [e6]; decide)
    have c19 := fn19e (crg l) l1 l2 (by rw [e6]; decide)
    rw [e6] at c17 c18 c19
    have eo : okS l = false := by unfold okS; rw [hn]; rfl
    have ez : szF l = fun _ => 0 := by funext k; unfold szF; rw [if_neg (by rw [eo]; decide)]
    rw [eo, ez]
    generalize masV (crg l) = MV at *
    repeat' (first | refine w1g ?_ | refine w1l ?_ | refine w1q ?_ | refine w1b ?_ | refine w1p ?_ | ((first | refine w1r ?_ | refine w1k ?_ | refine w1e ?_ | refine CallC.now (c16) ?_ | refine CallC.now (c17) ?_ | refine CallC.now (c18) ?_ | refine CallC.now (c19) ?_ | refine CallC.now (c20) ?_ | refine CallC.now (c21) ?_); (refine sy1 ?_; try exact True.intro)) | refine an2 ?_ | fail)
    refine W_cond (by rfl) (fun _ => ?_) (fun h => by cases h)
    (refine go0 ?_; try exact True.intro)
    exact W_ret ⟨[_, _], ⟨⟨by simp, rfl⟩, rfl, rfl⟩, rfl⟩
  obtain ⟨hok, hm⟩ := crg_ok h hn
  have e0 := chkL_ok hok
  have c18 : Sy.Fn Tryz.prog 18 [.agg (cLd (crg l))] (.tup [.agg [iv (eL (crg l).ps 0 ((crg l).ps.length - 1)), iv (eL (crg l).ps 1 ((crg l).ps.length - 1)), iv (eL (crg l).ps 2 ((crg l).ps.length - 1))], .agg [iv (eH (crg l).ps 0 ((crg l).ps.length - 1)), iv (eH (crg l).ps 1 ((crg l).ps.length - 1)), iv (eH (crg l).ps 2 ((crg l).ps.length - 1))], iv 0]) := fn18 (crg l) hok
  have c19 : Sy.Fn Tryz.prog 19 [.agg (cLd (crg l))] (.tup [.agg [iv (cen (crg l).ps 0), iv (cen (crg l).ps 1), iv (cen (crg l).ps 2)], iv 0]) := fn19 (crg l) hok
  have n1 := hok.n1
  have hE := eLH hok.pc ((crg l).ps.length - 1) (by omega)
  have hsm := sm_rng hok.pc (crg l).ps.length (Nat.le_refl _)
  rw [List.take_length] at hsm
  have hK := hsm.2 0
  have hlen := crg_len l
  have hC : -9223372036854 ≤ cen (crg l).ps 0 ∧ cen (crg l).ps 0 ≤ 9223372036854 := by
    unfold cen
    generalize smK (crg l).ps 0 = K at *
    generalize smM (crg l).ps = M at *
    have a1 : -17592186044416 ≤ K ∧ K ≤ 17592186044416 := by omega
    constructor
    · exact (Int.le_ediv_iff_mul_le (by omega)).2 (by
        have : (-9223372036854) * (2 * M) ≤ (-9223372036854) * 2 := Int.mul_le_mul_of_nonpos_left (by omega) (by omega)
        omega)
    · exact Int.ediv_le_of_le_mul (by omega) (by
        have : (9223372036854 : Int) * 2 ≤ 9223372036854 * (2 * M) := Int.mul_le_mul_of_nonneg_left (by omega) (by omega)
        omega)
  have ex : ∃ x, x = max 0 (min 6000 (6000 - cen (crg l).ps 0)) := ⟨_, rfl⟩
  obtain ⟨x, hx⟩ := ex
  have hx2 : 0 ≤ x ∧ x ≤ 6000 := by omega
  have c22 := fn22 (car 1) (smM (crg l).ps) 6000 x (car_gr 1)
  rw [ev] at c22
  obtain ⟨x1, x2⟩ := axE_car (fr := 1) (.inr rfl) hm hx2
  have v0 : each (car 1) (smM (crg l).ps) 6000 x 0 = 4500 := rfl
  have v1 : each (car 1) (smM (crg l).ps) 6000 x 1 = cdiv (7000 + smM (crg l).ps) 3 := rfl
  have hh : hvy 1 (smM (crg l).ps) x ↔ ¬ cdiv (7000 + smM (crg l).ps) 3 ≤ 12000 := by
    unfold hvy
    rw [v0, v1]
    omega
  have eo : okS l = decide (cdiv (7000 + smM (crg l).ps) 3 ≤ 12000) := by unfold okS; rw [decide_eq_false hn]; rfl
  have em : masV (crg l) = smM (crg l).ps := by unfold masV; rw [if_pos e0]
  rw [em, e0] at c17
  by_cases hq : cdiv (7000 + smM (crg l).ps) 3 ≤ 12000
  · rw [decide_eq_true hq] at eo
    have hx0 := x2 (fun z => hh.1 z hq)
    rw [hx0, axL_car hx0, v0, v1] at c22
    have ez : R.c6 (szF l) = [iv (max 2500 (1200 + eH (crg l).ps 2 ((crg l).ps.length - 1))), iv 2500, iv (16000 + smM (crg l).ps), iv (max 4500 (cdiv (7000 + smM (crg l).ps) 3)), iv 11500, iv 0] := by
      have : szF l = fS l := by funext k; unfold szF; rw [if_pos eo]
      rw [this]; rfl
    rw [eo, ez]
    have q0 : 2333 ≤ cdiv (7000 + smM (crg l).ps) 3 := by unfold cdiv; omega
    generalize cdiv (7000 + smM (crg l).ps) 3 = CD at *
    generalize smM (crg l).ps = M at *
    have hle : decide (eH (crg l).ps 2 ((crg l).ps.length - 1) < eL (crg l).ps 2 ((crg l).ps.length - 1)) = false := decide_eq_false (by omega)
    generalize eH (crg l).ps 2 ((crg l).ps.length - 1) = H2 at *
    generalize eL (crg l).ps 2 ((crg l).ps.length - 1) = L2 at *
    generalize eH (crg l).ps 0 ((crg l).ps.length - 1) = H0 at *
    generalize eH (crg l).ps 1 ((crg l).ps.length - 1) = H1 at *
    generalize eL (crg l).ps 0 ((crg l).ps.length - 1) = L0 at *
    generalize eL (crg l).ps 1 ((crg l).ps.length - 1) = L1 at *
    generalize cen (crg l).ps 0 = C0 at *
    generalize cen (crg l).ps 1 = C1 at *
    generalize cen (crg l).ps 2 = C2 at *
    have hxs := hx.symm
    have g0 : [4500, CD].getD 0 0 = 4500 := rfl
    have g1 : [4500, CD].getD 1 0 = CD := rfl
    have gl : [4500, CD].length = 2 := rfl
    repeat' (first | refine w1g ?_ | refine w1l ?_ | refine w1q ?_ | refine w1b ?_ | refine w1p ?_ | ((first | refine w1r ?_ | refine w1k ?_ | refine w1e ?_ | refine CallC.now (c16) ?_ | refine CallC.now (c17) ?_ | refine CallC.now (c18) ?_ | refine CallC.now (c19) ?_ | refine CallC.now (c20) ?_ | refine CallC.now (c21) ?_); simp (maxSteps := 400000) (disch := omega) only [push_cast, ↓reduceIte, reduceCtorEq, Nat.reduceAdd, Nat.reduceSub, Nat.reduceEqDiff, Nat.reduceLeDiff, Nat.reduceLT, Nat.reduceBEq, Nat.reduceDiv, Nat.reduceMod, Nat.reducePow, Nat.reduceMul, Int.reduceToNat, Int.reduceLT, Int.reduceLE, hle, bne_self_eq_false]) | refine an2 ?_ | fail)
    refine W_cond (by rfl) (fun h => by cases h) (fun _ => ?_)
    repeat' (first | refine w1g ?_ | refine w1l ?_ | refine w1q ?_ | refine w1b ?_ | refine w1p ?_ | ((first | refine w1r ?_ | refine w1k ?_ | refine w1e ?_ | refine CallC.now (c22) ?_); simp (maxSteps := 400000) (disch := omega) only [push_cast, ↓reduceIte, reduceCtorEq, Nat.reduceAdd, Nat.reduceSub, Nat.reduceEqDiff, Nat.reduceLeDiff, Nat.reduceLT, Nat.reduceBEq, Nat.reduceDiv, Nat.reduceMod, Nat.reducePow, Nat.reduceMul, Int.reduceToNat, Int.reduceLT, Int.reduceLE, hxs, gl, bne_self_eq_false]) | refine an2 ?_ | fail)
    refine W_cond (by rfl) (fun h => by cases h) (fun _ => ?_)
    (refine gof (ad2 g0 g1) ?_; try exact True.intro)
    exact W_ret ⟨[_, _], ⟨⟨by simp, rfl⟩, rfl, rfl⟩, rfl⟩
  · rw [decide_eq_false hq] at eo
    have hx0 := x1 (hh.2 hq)
    rw [hx0, axL_no (by rw [hx0]; decide)] at c22
    have ez : szF l = fun _ => 0 := by funext k; unfold szF; rw [if_neg (by rw [eo]; decide)]
    rw [eo, ez]
    generalize smM (crg l).ps = M at *
    have hle : decide (eH (crg l).ps 2 ((crg l).ps.length - 1) < eL (crg l).ps 2 ((crg l).ps.length - 1)) = false := decide_eq_false (by omega)
    generalize eH (crg l).ps 2 ((crg l).ps.length - 1) = H2 at *
    generalize eL (crg l).ps 2 ((crg l).ps.length - 1) = L2 at *
    generalize eH (crg l).ps 0 ((crg l).ps.length - 1) = H0 at *
    generalize eH (crg l).ps 1 ((crg l).ps.length - 1) = H1 at *
    generalize eL (crg l).ps 0 ((crg l).ps.length - 1) = L0 at *
    generalize eL (crg l).ps 1 ((crg l).ps.length - 1) = L1 at *
    generalize cen (crg l).ps 0 = C0 at *
    generalize cen (crg l).ps 1 = C1 at *
    generalize cen (crg l).ps 2 = C2 at *
    have hxs := hx.symm
    repeat' (first | refine w1g ?_ | refine w1l ?_ | refine w1q ?_ | refine w1b ?_ | refine w1p ?_ | ((first | refine w1r ?_ | refine w1k ?_ | refine w1e ?_ | refine CallC.now (c16) ?_ | refine CallC.now (c17) ?_ | refine CallC.now (c18) ?_ | refine CallC.now (c19) ?_ | refine CallC.now (c20) ?_ | refine CallC.now (c21) ?_); simp (maxSteps := 400000) (disch := omega) only [push_cast, ↓reduceIte, reduceCtorEq, Nat.reduceAdd, Nat.reduceSub, Nat.reduceEqDiff, Nat.reduceLeDiff, Nat.reduceLT, Nat.reduceBEq, Nat.reduceDiv, Nat.reduceMod, Nat.reducePow, Nat.reduceMul, Int.reduceToNat, Int.reduceLT, Int.reduceLE, hle, bne_self_eq_false]) | refine an2 ?_ | fail)
    refine W_cond (by rfl) (fun h => by cases h) (fun _ => ?_)
    repeat' (first | refine w1g ?_ | refine w1l ?_ | refine w1q ?_ | refine w1b ?_ | refine w1p ?_ | ((first | refine w1r ?_ | refine w1k ?_ | refine w1e ?_ | refine CallC.now (c22) ?_); simp (maxSteps := 400000) (disch := omega) only [push_cast, ↓reduceIte, reduceCtorEq, Nat.reduceAdd, Nat.reduceSub, Nat.reduceEqDiff, Nat.reduceLeDiff, Nat.reduceLT, Nat.reduceBEq, Nat.reduceDiv, Nat.reduceMod, Nat.reducePow, Nat.reduceMul, Int.reduceToNat, Int.reduceLT, Int.reduceLE, hxs, bne_self_eq_false]) | refine an2 ?_ | fail)
    refine W_cond (by rfl) (fun _ => ?_) (fun h => by cases h)
    (refine go0 ?_; try exact True.intro)
    exact W_ret ⟨[_, _], ⟨⟨by simp, rfl⟩, rfl, rfl⟩, rfl⟩
end Go.Proofs.YtcfomfajpmlleaaGreat

