/- TopDriven: for every input the law returns true -/
import Derived.Test.YtlahcoaofbpinaaGreatP13
import Derived.Test.YtlahcoaofbpinaaGreatRows
import Derived.ShutString
namespace Go.Proofs.YtlahcoaofbpinaaGreat
open Go Sy
set_option maxRecDepth 100000
set_option maxHeartbeats 8000000
set_option linter.unusedVariables false
set_option linter.unusedSimpArgs false
theorem exF : S.ftE [⟨5, 9⟩] 4 0 = 0 ∧ S.ftV [⟨5, 9⟩] 4 0 = 5 := by decide +kernel
theorem fn6 : Sy.Fn Tryz.prog 6 [] (bv true) := by
  refine Fn_of_W mixed Xt6 rfl ?_
  have c13 := S.fn13 [⟨5, 9⟩] 4 0 (by simp)
  rw [exF.1, exF.2] at c13
  have c14 := fn14
  (refine go0 ?_; try exact True.intro)
  refine ⟨rfl, trivial, S.Wn, S.dWn, S.cN, [⟨5, 9⟩], rfl, by omega, fun x _ => ⟨rfl, rfl⟩, rfl, ?_⟩
  (refine sy1 ?_; try exact True.intro)
  repeat' (first | refine w1g ?_ | refine w1l ?_ | refine w1q ?_ | refine w1b ?_ | refine w1p ?_ | ((first | refine w1r ?_ | refine w1k ?_ | refine w1e ?_ | refine CallC.go _ (fun _ => ⟨trivial, c13⟩) rfl ?_ | refine CallC.go _ (fun _ => ⟨trivial, c14⟩) rfl ?_); simp (maxSteps := 400000) (disch := omega) only [push_cast, ↓reduceIte, reduceCtorEq, Nat.reduceAdd, Nat.reduceSub, Nat.reduceEqDiff, Nat.reduceLeDiff, Nat.reduceLT, Nat.reduceBEq, Nat.reduceDiv, Nat.reduceMod, Nat.reducePow, Nat.reduceMul, Int.reduceToNat, Int.reduceLT, Int.reduceLE, beq_self_eq_true]) | refine an2 ?_ | fail)
  exact W_ret ⟨[_], ⟨rfl, rfl⟩, rfl⟩
theorem fn3 (l : List R.Tr) (a b t p q : Int) (hl : l.length ≤ 140737488355328) (h1 : ∀ t ∈ l, R.OTr t) (ha : 0 ≤ a ∧ a ≤ 255) (hb' : 0 ≤ b ∧ b ≤ 255) (ht : 0 ≤ t ∧ t ≤ 65535) (hp : 0 ≤ p ∧ p ≤ 65535) (hq : 0 ≤ q ∧ q ≤ 65535) :
    Sy.Fn Tryz.prog 3 [R.aTr l, .v (.int .u8 a), .v (.int .u8 b), .v (.int .u16 t), .v (.int .u16 p), .v (.int .u16 q)] (bv true) := by
  refine Fn_of_W mixed Xt3 rfl ?_
  have h2 : ∀ x ∈ ([] : List R.Fx), R.OFx x := fun x hx => by cases hx
  have c4 : Sy.Fn Tryz.prog 4 [R.aTr l, .v (.slice none 0 0)] (R.aM (R.atl l [])) := Fn_nil (pre := [R.aTr l]) (rest := []) (R.fn4 l [] hl (by simp) h1 h2)
  have c6 := fn6
  have hG := R.atl_gm l []
  have ea : a.tmod 5 = a % 5 := Int.tmod_eq_emod_of_nonneg ha.1
  have eb : b.tmod 5 = b % 5 := Int.tmod_eq_emod_of_nonneg hb'.1
  have et : t.tmod 5000 = t % 5000 := Int.tmod_eq_emod_of_nonneg ht.1
  have hL := so_law (l := l) (fs := []) h1 h2 (a := a % 5) (b := b % 5) (t := t % 5000) (by omega) (by omega) (by omega)
  have c5 : Sy.Fn Tryz.prog 5 [R.aM (R.atl l []), .agg [iv 0, iv 0, iv 0, iv 0, iv 0, iv 0], .v (.slice none 0 0), iv (a % 5), iv (b % 5), iv (t % 5000)] (.tup [R.aI (R.soR (R.atl l []) zz [] (a % 5) (b % 5) (t % 5000)), iv (R.soT (R.atl l []) zz [] (a % 5) (b % 5) (t % 5000)), iv (R.soE (R.atl l []) zz [] (a % 5) (b % 5) (t % 5000))]) :=
    Fn_nil (pre := [R.aM (R.atl l []), .agg (R.c6 zz)]) (rest := [iv (a % 5), iv (b % 5), iv (t % 5000)]) (R.fn5 (R.atl l []) zz [] (a % 5) (b % 5) (t % 5000) hG (by simp))
  generalize R.soR (R.atl l []) zz [] (a % 5) (b % 5) (t % 5000) = X at *
  generalize R.soT (R.atl l []) zz [] (a % 5) (b % 5) (t % 5000) = e at *
  generalize R.soE (R.atl l []) zz [] (a % 5) (b % 5) (t % 5000) = E at *
  generalize R.atl l [] = m at *
  have hs : 0 ≤ t % 5000 ∧ t % 5000 ≤ 5000 := by omega
  have hA : 0 ≤ a % 5 ∧ a % 5 ≤ 4 := by omega
  have hB : 0 ≤ b % 5 ∧ b % 5 ≤ 4 := by omega
  generalize t % 5000 = T at *
  generalize a % 5 = A at *
  generalize b % 5 = B at *
  rcases hL with rfl | ⟨rfl, hD, hAB⟩
  · (refine gofcc (ad3 ea eb et) c4 c5 ?_; try exact True.intro)
    refine W_cond (by rfl) (fun _ => ?_) (fun h => by cases h)
    (refine go_g c6 ?_; try exact True.intro)
    exact W_ret ⟨[_], ⟨rfl, rfl⟩, rfl⟩
  (refine gofcc (ad3 ea eb et) c4 c5 ?_; try exact True.intro)
  refine W_cond (by rfl) (fun h => by cases h) (fun _ => ?_)
  (refine go0 ?_; try exact True.intro)
  refine W_le (le_adopt 20 40 2 S.dLg S.cL (by omega) rfl) ?_
  (refine sy1 ?_; try exact True.intro)
  have et2 : T.tdiv 1440 = T / 1440 := Int.tdiv_eq_ediv_of_nonneg hs.1
  have hok := hD.ok
  have hnr := hok.nr
  have hXl := hD.n
  refine W_loopU (fun i : Nat => [(20, .row 34 i), (21, iv i)]) (fun i => [(34, .row i 40 2 S.dLg S.cL (lgs m (T / 1440) (X.take i)))]) (fun i => i ≤ X.length) (fun i => X.length - i) 0 (by omega) (by rfl) (by rfl) (fun i hi => ?_)
  (refine sy1 ?_; try exact True.intro)
  (refine go0 ?_; try exact True.intro)
  refine W_condD (by rfl) (fun h5 => ?_) (fun h5 => ?_)
  · have hlt : i < X.length := by omega
    have hx := hD.rg _ (R.getD_mem' 0 X i hlt)
    have hsu : lgs m (T / 1440) (X.take (i + 1)) = lgs m (T / 1440) (X.take i) ++ [lgR m (T / 1440) (X.getD i 0)] := by
      unfold lgs
      rw [R.take_snoc hlt, List.map_append]; rfl
    have hor := (hD.at hlt).1
    unfold lgR at hsu
    change R.OkR m.n (R.gr m (X.getD i 0).toNat) at hor
    generalize hX : X.getD i 0 = x at *
    have d1 : decide (x < 0) = false := decide_eq_false (by omega)
    have d2 : decide ((m.rs.length : Int) ≤ x) = false := decide_eq_false (by omega)
    (refine gof (ad3 hX d1 d2) ?_; try exact True.intro)
    refine W_cond (by rfl) (fun h => by cases h) (fun _ => ?_)
    have hgr : m.rs.getD x.toNat R.dR = R.gr m x.toNat := rfl
    generalize R.gr m x.toNat = r at *
    have ho := hor.o
    have hm := hor.m
    (refine gof (ad3 hX hgr et2) ?_; try exact True.intro)
    obtain ⟨N, hN⟩ : ∃ N : Nat, N = 30 := ⟨30, rfl⟩
    rw [← hN] at hsu
    refine W_le (le_adoptC 67 1 42 2 S.dWn S.cN (by omega) _ rfl rfl (by simp)) ?_
    (refine sy1 ?_; try exact True.intro)
    rw [show AV.v (.int .i64 (T / 1440)) = iv (T / 1440 + ((0 : Nat) : Int)) by rw [Int.natCast_zero, Int.add_zero]]
    refine W_loopU (fun k : Nat => [(24, iv (T / 1440 + (k : Int)))]) (fun k => [(67, .cells [iv r.m, .row 72 k]), (72, .row k 42 2 S.dWn S.cN (S.wl r.o r.z (T / 1440) k))]) (fun k => k ≤ N) (fun k => N - k) 0 (by omega) (by rfl) (by rfl) (fun k hk => ?_)
    have hwl := S.wl_len r.o r.z (T / 1440) k
    have hws := S.wl_succ r.o r.z (T / 1440) k
    have ek : T / 1440 + ((k + 1 : Nat) : Int) = T / 1440 + k + 1 := by omega
    (refine sy1 ?_; try exact True.intro)
    (refine gof et2 ?_; try exact True.intro)
    refine W_condD (by rfl) (fun h6 => ?_) (fun h6 => ?_)
    · have hkl : k < N := by omega
      (refine go0 ?_; try exact True.intro)
      refine ⟨rfl, trivial, S.Wn, S.dWn, S.cN, [⟨(T / 1440 + k) * 1440 + r.o, (T / 1440 + k) * 1440 + r.z⟩], rfl, by omega, fun x _ => ⟨rfl, rfl⟩, rfl, ?_⟩
      (refine sy1 ?_; try exact True.intro)
      refine ⟨rfl, ⟨Nat.le_of_ble_eq_true rfl, rfl⟩, trivial, [⟨(T / 1440 + k) * 1440 + r.o, (T / 1440 + k) * 1440 + r.z⟩], rfl, by first | omega | (simp; omega), by first | omega | (simp; omega), ?_⟩
      (refine sy1 ?_; try exact True.intro)
      (refine go0 ?_; try exact True.intro)
      refine ⟨k + 1, by omega, by omega, by rfl, ?_⟩
      rw [hws, ek]
    · obtain rfl : k = N := by omega
      refine w1e ?_
      (refine sy1 ?_; try exact True.intro)
      refine w1g ?_
      refine W_regP [2] (by decide) ?_
      (refine sCP ?_; try exact True.intro)
      refine ⟨_, le_frzA 117 [iv r.m] [] [116, 4, 5, 13, 14, 15, 16, 17, 18, 20, 21] [34, 3] 80 72 k 42 2 S.dWn S.cN (S.wl r.o r.z (T / 1440) k) rfl rfl rfl rfl rfl rfl, ?_⟩
      have hll : (lgs m (T / 1440) (X.take i)).length = i := by rw [lgs_len, List.length_take]; omega
      simp (maxSteps := 400000) (disch := omega) only [push_cast, ↓reduceIte, reduceCtorEq, Nat.reduceAdd, Nat.reduceSub, Nat.reduceEqDiff, Nat.reduceLeDiff, Nat.reduceLT, Nat.reduceBEq, Nat.reduceDiv, Nat.reduceMod, Nat.reducePow, Nat.reduceMul, Int.reduceToNat, Int.reduceLT, Int.reduceLE, chainP, List.take_succ_cons, List.take_zero, List.drop_succ_cons, List.drop_zero, List.cons_append, List.nil_append]
      refine ⟨rfl, trivial, S.Lg, S.dLg, S.cL, [⟨r.m, S.wl r.o r.z (T / 1440) k⟩], rfl, by omega, fun x _ => ⟨rfl, rfl⟩, rfl, ?_⟩
      (refine sy1 ?_; try exact True.intro)
      refine ⟨rfl, ⟨Nat.le_of_ble_eq_true rfl, rfl⟩, trivial, [⟨r.m, S.wl r.o r.z (T / 1440) k⟩], rfl, by first | omega | (simp; omega), by first | omega | (simp; omega), ?_⟩
      (refine sy1 ?_; try exact True.intro)
      (refine go0 ?_; try exact True.intro)
      refine ⟨i + 1, by omega, by omega, by rfl, ?_⟩
      rw [hsu]
      (refine syE ?_; try exact True.intro)
  · obtain rfl : i = X.length := by omega
    rw [List.take_length]
    have hll := lgs_len m (T / 1440) X
    have hlw : ∀ x ∈ lgs m (T / 1440) X, x.ws.length ≤ 140737488355328 := by
      intro x hx
      obtain ⟨y, _, rfl⟩ := List.mem_map.1 hx
      show (S.wl _ _ _ 30).length ≤ _
      rw [S.wl_len]; omega
    have c7 := S.fn7 (lgs m (T / 1440) X) 10080 1 T (by omega) hlw
    refine w1e ?_
    (refine sy1 ?_; try exact True.intro)
    refine w1g ?_
    refine W_le (le_frzR 20 [4, 5, 13, 14, 15, 16, 17, 18] [3] 41 34 X.length 40 2 S.dLg S.cL (lgs m (T / 1440) X) rfl rfl rfl rfl) ?_
    by_cases hn : X.length = 0
    · have h0 := hD.cr (a := 10080) (b := 1) (by omega) (by omega)
      have f1 : S.crF (lgs m (T / 1440) X) 10080 1 T = 0 := by unfold S.crF; rw [if_pos h0, if_pos (by omega)]
      have f2 : S.crL (lgs m (T / 1440) X) 10080 1 T = [] := by unfold S.crL; rw [if_neg (fun q => q.2 (by omega))]
      have f3 : T = e := by have := hD.e; rw [List.length_eq_zero_iff.1 hn] at this; exact this
      have f4 := hAB (List.length_eq_zero_iff.1 hn)
      rw [f1, f2] at c7
      clear hAB f1 f2 h0 hD
      generalize lgs m (T / 1440) X = LS at *
      subst f3 f4
      have q1 : (LS.length : Int) = 0 := by omega
      (refine sy1 ?_; try exact True.intro)
      (refine gofc q1 c7 ?_; try exact True.intro)
      refine W_cond (by rfl) (fun h => by cases h) (fun _ => ?_)
      (refine go0 ?_; try exact True.intro)
      refine W_cond (by rfl) (fun _ => ?_) (fun h => by cases h)
      repeat' (first | refine w1g ?_ | refine w1l ?_ | refine w1q ?_ | refine w1b ?_ | refine w1p ?_ | ((first | refine w1r ?_ | refine w1k ?_ | refine w1e ?_ | refine CallC.go _ (fun _ => ⟨trivial, c6⟩) rfl ?_); simp (maxSteps := 400000) (disch := omega) only [push_cast, ↓reduceIte, reduceCtorEq, Nat.reduceAdd, Nat.reduceSub, Nat.reduceEqDiff, Nat.reduceLeDiff, Nat.reduceLT, Nat.reduceBEq, Nat.reduceDiv, Nat.reduceMod, Nat.reducePow, Nat.reduceMul, Int.reduceToNat, Int.reduceLT, Int.reduceLE, beq_self_eq_true]) | refine an2 ?_ | fail)
      exact W_ret ⟨[_], ⟨rfl, rfl⟩, rfl⟩
    have hn' : 0 < X.length := by omega
    obtain ⟨g1, g2, g3⟩ := hD.law hn'
    have hR := hD.rest hn' (a := 60 + p % 300) (b := 1 + q % 2000) (by omega) (by omega)
    have c7b := S.fn7 (lgs m (T / 1440) X) (60 + p % 300) (1 + q % 2000) T (by omega) hlw
    have ep : p.tmod 300 = p % 300 := Int.tmod_eq_emod_of_nonneg hp.1
    have eq' : q.tmod 2000 = q % 2000 := Int.tmod_eq_emod_of_nonneg hq.1
    have hgl : (lgs m (T / 1440) X).getD (X.length - 1) S.dLg = lgR m (T / 1440) (S.gi X (X.length - 1)) := lgs_at (by omega)
    have hmi : ((lgs m (T / 1440) X).getD (X.length - 1) S.dLg).mi = (R.gr m (S.gi X (X.length - 1)).toNat).m := by rw [hgl]; rfl
    have h60 := (hD.at (i := X.length - 1) (by omega)).2
    have h61 := (hD.at (i := X.length - 1) (by omega)).1.m
    have hat : ∀ i, i < X.length → R.OkR m.n (R.gr m (X.getD i 0).toNat) := fun i hi => (hD.at hi).1
    have hrg := hD.rg
    rw [g1] at c7
    have hee : 0 ≤ e ∧ e ≤ 100000 := by
      have := hD.pt X.length (Nat.le_refl _)
      rw [hD.e] at this
      omega
    clear hD hgl hAB
    rw [← hmi] at g3 h60 h61
    change S.gi (S.crL (lgs m (T / 1440) X) 10080 1 T) (X.length - 1) + ((lgs m (T / 1440) X).getD (X.length - 1) S.dLg).mi = e at g3
    generalize S.crL (lgs m (T / 1440) X) 10080 1 T = U at *
    generalize S.crL (lgs m (T / 1440) X) (60 + p % 300) (1 + q % 2000) T = V at *
    generalize S.crF (lgs m (T / 1440) X) (60 + p % 300) (1 + q % 2000) T = F at *
    generalize lgs m (T / 1440) X = LS at *
    have q2 : ((U.length : Int) != (LS.length : Int)) = false := by rw [g2, hll, bne_self_eq_false]
    have q3 : ((U.length : Int) == 0) = false := beq_eq_false_iff_ne.2 (by omega)
    have q4 : ((U.length : Int) - 1).toNat = X.length - 1 := by omega
    (refine sy1 ?_; try exact True.intro)
    (refine gofc q2 c7 ?_; try exact True.intro)
    refine W_cond (by rfl) (fun h => by cases h) (fun _ => ?_)
    (refine gof q3 ?_; try exact True.intro)
    refine W_cond (by rfl) (fun h => by cases h) (fun _ => ?_)
    have g3' : U.getD (X.length - 1) 0 + (LS.getD (X.length - 1) S.dLg).mi = e := g3
    have q5 : (e != e) = false := bne_self_eq_false e
    repeat' (first | refine w1g ?_ | refine w1l ?_ | refine w1q ?_ | refine w1b ?_ | refine w1p ?_ | ((first | refine w1r ?_ | refine w1k ?_ | refine w1e ?_); simp (maxSteps := 400000) (disch := omega) only [push_cast, ↓reduceIte, reduceCtorEq, Nat.reduceAdd, Nat.reduceSub, Nat.reduceEqDiff, Nat.reduceLeDiff, Nat.reduceLT, Nat.reduceBEq, Nat.reduceDiv, Nat.reduceMod, Nat.reducePow, Nat.reduceMul, Int.reduceToNat, Int.reduceLT, Int.reduceLE, q4, g3', q5]) | refine an2 ?_ | fail)
    refine W_cond (by rfl) (fun h => by cases h) (fun _ => ?_)
    repeat' (first | refine w1g ?_ | refine w1l ?_ | refine w1q ?_ | refine w1b ?_ | refine w1p ?_ | ((first | refine w1r ?_ | refine w1k ?_ | refine w1e ?_ | refine CallC.now (c7b) ?_); simp (maxSteps := 400000) (disch := omega) only [push_cast, ↓reduceIte, reduceCtorEq, Nat.reduceAdd, Nat.reduceSub, Nat.reduceEqDiff, Nat.reduceLeDiff, Nat.reduceLT, Nat.reduceBEq, Nat.reduceDiv, Nat.reduceMod, Nat.reducePow, Nat.reduceMul, Int.reduceToNat, Int.reduceLT, Int.reduceLE, ep, eq']) | refine an2 ?_ | fail)
    rcases hR with rfl | ⟨rfl, v1, v2, v3⟩
    · refine W_cond (by rfl) (fun _ => ?_) (fun h => by cases h)
      (refine go_g c6 ?_; try exact True.intro)
      exact W_ret ⟨[_], ⟨rfl, rfl⟩, rfl⟩
    refine W_cond (by rfl) (fun h => by cases h) (fun _ => ?_)
    have q6 : ((V.length : Int) != (U.length : Int)) = false := by rw [v1, g2, bne_self_eq_false]
    have q7 : decide (V.getD (X.length - 1) 0 < U.getD (X.length - 1) 0) = false := decide_eq_false (by have : U.getD (X.length - 1) 0 ≤ V.getD (X.length - 1) 0 := v2; omega)
    (refine gof (ad3 q4 q6 q7) ?_; try exact True.intro)
    refine W_cond (by rfl) (fun h => by cases h) (fun _ => ?_)
    (refine go0 ?_; try exact True.intro)
    refine W_loopU (fun i : Nat => [(28, iv i)]) (fun i => []) (fun i => i ≤ X.length) (fun i => X.length - i) 0 (by omega) (by rfl) (by rfl) (fun i hi => ?_)
    (refine sy1 ?_; try exact True.intro)
    (refine go0 ?_; try exact True.intro)
    refine W_condD (by rfl) (fun h5 => ?_) (fun h5 => ?_)
    · have hlt : i < X.length := by omega
      have hVl : i < V.length := by omega
      have hx := hrg _ (R.getD_mem' 0 X i hlt)
      have hor := hat i hlt
      obtain ⟨w1, w2, w3⟩ := v3 i hlt
      have hXi : S.gi X i = X.getD i 0 := rfl
      have hVi : S.gi V i = V.getD i 0 := rfl
      rw [hXi, hVi] at w2 w3
      rw [hVi] at w1
      have hgr : m.rs.getD (X.getD i 0).toNat R.dR = R.gr m (X.getD i 0).toNat := rfl
      generalize hX : X.getD i 0 = x at *
      generalize hv : V.getD i 0 = v at *
      generalize R.gr m x.toNat = r at *
      have ho := hor.o
      have hm := hor.m
      have ev : v.tmod 1440 = v % 1440 := Int.tmod_eq_emod_of_nonneg (by omega)
      have d3 : decide (v % 1440 < r.o) = false := decide_eq_false (by omega)
      have d4 : decide (r.z < v % 1440 + r.m) = false := decide_eq_false (by omega)
      have d5 : decide (v < T) = false := decide_eq_false (by omega)
      (refine gof (ad7 hX hgr hv ev d3 d4 d5) ?_; try exact True.intro)
      refine W_cond (by rfl) (fun h => by cases h) (fun _ => ?_)
      (refine go0 ?_; try exact True.intro)
      refine ⟨i + 1, by omega, by omega, by rfl, ?_⟩
      (refine syE ?_; try exact True.intro)
    · obtain rfl : i = X.length := by omega
      (refine go_c c6 ?_; try exact True.intro)
      exact W_ret ⟨[_], ⟨rfl, rfl⟩, rfl⟩
theorem u8_wf {n : Int} (h : (Lit.int .u8 n).wf = true) : 0 ≤ n ∧ n ≤ 255 := by
  simp [Lit.wf, IntKind.min, IntKind.max, IntKind.bits, IntKind.signed] at h
  omega
theorem u16_wf {n : Int} (h : (Lit.int .u16 n).wf = true) : 0 ≤ n ∧ n ≤ 65535 := by
  simp [Lit.wf, IntKind.min, IntKind.max, IntKind.bits, IntKind.signed] at h
  omega
theorem y5 : Tryz.prog.cellsOf 5 = 1 := by kernel_rfl
theorem y49 : Tryz.prog.cellsOf 49 = 8 := by kernel_rfl
theorem b49 : Tryz.prog.bytesOf 49 = 8 := by kernel_rfl
theorem k5 : Codec Tryz.prog 5 (fun n : Int => [.v (.int .u8 n)]) (fun n => 0 ≤ n ∧ n ≤ 255) := (Codec.int Tryz.underlying5).map id (fun _ => rfl) (fun _ h => u8_wf h)
theorem k23 : Codec Tryz.prog 23 (fun n : Int => [.v (.int .u16 n)]) (fun n => 0 ≤ n ∧ n ≤ 65535) := (Codec.int Tryz.underlying23).map id (fun _ => rfl) (fun _ h => u16_wf h)
theorem k49 : Codec Tryz.prog 49 R.cTr R.OTr :=
  (Codec.struct Tryz.underlying49 (by kernel_rfl) (by kernel_rfl) (Parts.cons k5 y5 (Parts.cons k5 y5 (Parts.cons k5 y5 (Parts.cons k5 y5 (Parts.cons k5 y5 (Parts.cons k5 y5 (Parts.cons k5 y5 (Parts.cons k5 y5 Parts.nil))))))))).map
    (fun x => ⟨x.1, x.2.1, x.2.2.1, x.2.2.2.1, x.2.2.2.2.1, x.2.2.2.2.2.1, x.2.2.2.2.2.2.1, x.2.2.2.2.2.2.2.1⟩) (fun _ => rfl) (fun _ h => ⟨h.1, h.2.1, h.2.2.1, h.2.2.2.1, h.2.2.2.2.1, h.2.2.2.2.2.1, h.2.2.2.2.2.2.1, h.2.2.2.2.2.2.2.1⟩)
theorem k22 : Codec Tryz.prog 22 (fun l : List R.Tr => [R.aTr l]) (fun l => l.length * 8 ≤ 140737488351232 ∧ ∀ b ∈ l, R.OTr b) :=
  (Codec.slice Tryz.underlying22 (by rw [y49]; decide) y49 b49 R.dTr k49).map id (fun _ => rfl) (fun _ h => ⟨h.1, h.2.2⟩)
end Go.Proofs.YtlahcoaofbpinaaGreat
namespace Go.Proofs.YtlahcoaofbpinaaGreat
open Go Sy Go.ChangeShapes Go.WideShapes Go.RowKit
set_option maxRecDepth 100000
set_option linter.unusedVariables false
theorem own : ownKnob Tryz.prog.godebug = none := by kernel_rfl
theorem laidOut : laidOutB Tryz.prog = true := by kernel_rfl
theorem walk3 (W : World) (v0 v1 v2 v3 v4 v5 : Value) (l : List R.Tr) (a : Int) (b : Int) (t : Int) (p : Int) (q : Int) (h0 : fsat (inW W) W (R.aTr l) v0) (h1 : fsat (inW W) W (.v (.int .u8 a)) v1) (h2 : fsat (inW W) W (.v (.int .u8 b)) v2) (h3 : fsat (inW W) W (.v (.int .u16 t)) v3) (h4 : fsat (inW W) W (.v (.int .u16 p)) v4) (h5 : fsat (inW W) W (.v (.int .u16 q)) v5) (ol : l.length * 8 ≤ 140737488351232 ∧ ∀ b ∈ l, R.OTr b) (oa : 0 ≤ a ∧ a ≤ 255) (ob : 0 ≤ b ∧ b ≤ 255) (ot : 0 ≤ t ∧ t ≤ 65535) (op : 0 ≤ p ∧ p ≤ 65535) (oq : 0 ≤ q ∧ q ≤ 65535) :
    Calls Tryz.prog 3 #[v0, v1, v2, v3, v4, v5] W fun e w' => e = .returned (.bool true) ∧ Below W.heap.size W w' := by
  have hf : Sy.Fn Tryz.prog 3 [R.aTr l, .v (.int .u8 a), .v (.int .u8 b), .v (.int .u16 t), .v (.int .u16 p), .v (.int .u16 q)] (bv true) := fn3 l a b t p q (by have := ol.1; omega) ol.2 oa ob ot op oq
  refine (hf.2 (inW W) W [v0, v1, v2, v3, v4, v5] (fun b hb => hb) ?_).mono ?_
  · simp only [fsatT]
    exact ⟨v0, _, rfl, h0, v1, _, rfl, h1, v2, _, rfl, h2, v3, _, rfl, h3, v4, _, rfl, h4, v5, _, rfl, h5, rfl⟩
  · rintro e w' ⟨v, rfl, hb, hv⟩
    simp only [fsat] at hv
    exact ⟨by rw [hv], hb⟩
theorem lifted3 (os : Os) (started : os.Started) (H : Type) (enc : TypeId × Value → H) :
    ReturnsInHanded {} Tryz.checked os 3 .any (Rows.topDrivenSpec.pre6 enc Tryz.prog Tryz.f3 Rows.topDrivenRow.domain false) (Rows.topDrivenSpec.post enc Tryz.prog Tryz.f3 false true false false) := by
  refine returnsInHanded_of_change_sized (C := Tryz.checked) own started (by kernel_rfl) Tryz.func3
    (ChangeSpec.witness6 (enc := enc) (C := Tryz.checked) false ⟨#[], #[.slice none 0 0, .int .u8 0, .int .u8 0, .int .u16 0, .int .u16 0, .int .u16 0], []⟩ 8 (by kernel_rfl) (by kernel_rfl) (by kernel_rfl) (by kernel_rfl)) ?_
  intro W base args ds gs before hval0 hW hcnd hsz _
  have hval : ∀ (j : Nat) t v, Tryz.f3.params[j]? = some t → args[j]? = some v → Value.okWide Tryz.prog W .any base t v := hval0
  have hW' := hW
  obtain ⟨p, q, hA0, hV, rfl, hfz, hnd⟩ := hW
  have hA : DataW.TrodAll enc Tryz.prog W 0 (fun _ => true) true Tryz.f3.params.toList args.toList ds p := hA0
  rw [Tryz.params3] at hA hval
  obtain ⟨v0, vs0, d0, ds0, p0, q0, hargs, rfl, rfl, h0, r0⟩ := trodAll_cons hA
  obtain ⟨v1, vs1, d1, ds1, p1, q1, rfl, rfl, rfl, h1, r1⟩ := trodAll_cons r0
  obtain ⟨v2, vs2, d2, ds2, p2, q2, rfl, rfl, rfl, h2, r2⟩ := trodAll_cons r1
  obtain ⟨v3, vs3, d3, ds3, p3, q3, rfl, rfl, rfl, h3, r3⟩ := trodAll_cons r2
  obtain ⟨v4, vs4, d4, ds4, p4, q4, rfl, rfl, rfl, h4, r4⟩ := trodAll_cons r3
  obtain ⟨v5, vs5, d5, ds5, p5, q5, rfl, rfl, rfl, h5, r5⟩ := trodAll_cons r4
  obtain ⟨rfl, rfl, rfl⟩ := trodAll_nil r5
  obtain rfl : args = #[v0, v1, v2, v3, v4, v5] := by cases args; simp_all
  obtain ⟨rfl, rfl⟩ := trodVars_none hV
  have hs : ∀ (j : Nat) t (d : DataW H), [22, 5, 5, 23, 23, 23][j]? = some t → [d0, d1, d2, d3, d4, d5][j]? = some d → ∀ n ∈ d.weights Tryz.prog t, n ≤ reachBytes := fun j t d ht hd n hn => by
    have hall := List.all_eq_true.1 hsz n (DataW.weights_mem_each (j := j) (t := t) (d := d) (by rw [Tryz.params3]; simpa using (List.getElem?_append_left (l₂ := _) (by have := (List.getElem?_eq_some_iff.1 ht).1; simpa using this)).trans ht) (by simpa using (List.getElem?_append_left (l₂ := _) (by have := (List.getElem?_eq_some_iff.1 hd).1; simpa using this)).trans hd) n hn)
    simpa using hall
  have lt0 : ∀ x ∈ p0, x.block < W.heap.size := by obtain ⟨m, hm⟩ := h0; exact DataW.trod_lt m _ _ _ hm
  have lt1 : ∀ x ∈ p1, x.block < W.heap.size := by obtain ⟨m, hm⟩ := h1; exact DataW.trod_lt m _ _ _ hm
  have lt2 : ∀ x ∈ p2, x.block < W.heap.size := by obtain ⟨m, hm⟩ := h2; exact DataW.trod_lt m _ _ _ hm
  have lt3 : ∀ x ∈ p3, x.block < W.heap.size := by obtain ⟨m, hm⟩ := h3; exact DataW.trod_lt m _ _ _ hm
  have lt4 : ∀ x ∈ p4, x.block < W.heap.size := by obtain ⟨m, hm⟩ := h4; exact DataW.trod_lt m _ _ _ hm
  have lt5 : ∀ x ∈ p5, x.block < W.heap.size := by obtain ⟨m, hm⟩ := h5; exact DataW.trod_lt m _ _ _ hm
  obtain ⟨l, ol, s0⟩ := k22.arg1 (by kernel_rfl) (hval 0 22 v0 rfl rfl) h0 (hs 0 22 d0 rfl rfl)
  obtain ⟨a, oa, s1⟩ := k5.arg1 (by kernel_rfl) (hval 1 5 v1 rfl rfl) h1 (hs 1 5 d1 rfl rfl)
  obtain ⟨b, ob, s2⟩ := k5.arg1 (by kernel_rfl) (hval 2 5 v2 rfl rfl) h2 (hs 2 5 d2 rfl rfl)
  obtain ⟨t, ot, s3⟩ := k23.arg1 (by kernel_rfl) (hval 3 23 v3 rfl rfl) h3 (hs 3 23 d3 rfl rfl)
  obtain ⟨p, op, s4⟩ := k23.arg1 (by kernel_rfl) (hval 4 23 v4 rfl rfl) h4 (hs 4 23 d4 rfl rfl)
  obtain ⟨q, oq, s5⟩ := k23.arg1 (by kernel_rfl) (hval 5 23 v5 rfl rfl) h5 (hs 5 23 d5 rfl rfl)
  clear hA0 hval0
  refine (walk3 W v0 v1 v2 v3 v4 v5 l a b t p q s0 s1 s2 s3 s4 s5 ol oa ob ot op oq).mono fun e W' ⟨he, bel⟩ => ?_
  subst he
  exact ⟨_, rfl, _, _, _, [], _, [], hW', trodAll_mk1 (shut_bool Tryz.underlying4 _), (trodAll_cons_mk (Below.trod laidOut (by kernel_rfl) (of_decide_eq_true (by kernel_rfl)) h0 bel lt0) (trodAll_cons_mk (Below.trod laidOut (by kernel_rfl) (of_decide_eq_true (by kernel_rfl)) h1 bel lt1) (trodAll_cons_mk (Below.trod laidOut (by kernel_rfl) (of_decide_eq_true (by kernel_rfl)) h2 bel lt2) (trodAll_cons_mk (Below.trod laidOut (by kernel_rfl) (of_decide_eq_true (by kernel_rfl)) h3 bel lt3) (trodAll_cons_mk (Below.trod laidOut (by kernel_rfl) (of_decide_eq_true (by kernel_rfl)) h4 bel lt4) (trodAll_cons_mk (Below.trod laidOut (by kernel_rfl) (of_decide_eq_true (by kernel_rfl)) h5 bel lt5) trodAll_mk0)))))), rfl, bel.frame _, fun h => by cases h⟩
theorem over3 : Rows.topDrivenRow.holds Tryz.pinned (OpenSpec.ofChange Rows.topDrivenSpec) :=
  OpenClaim.holds_of_wide 3 Tryz.f3 rfl rfl rfl rfl rfl rfl rfl ⟨rfl, rfl, rfl, rfl, rfl⟩ rfl rfl rfl rfl rfl (by kernel_rfl) Tryz.func3 (by kernel_rfl)
    (of_decide_eq_true (by kernel_rfl)) (by unfold Func.isWrapper; first | (rw [if_pos (by decide +kernel)]; kernel_rfl) | (rw [if_neg (by decide +kernel)]; exact ⟨rfl, rfl⟩))
    (fun os started H enc _ => lifted3 os started H enc)
theorem top_driven_holds : Rows.TopDrivenSaid := over3
end Go.Proofs.YtlahcoaofbpinaaGreat
