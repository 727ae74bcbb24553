/- TopCarried: for every input the law returns true -/
import Derived.Test.YtcfomfajpmlleaaGreatP10
import Derived.Test.YtcfomfajpmlleaaGreatRows
import Derived.ShutString
namespace Go.Proofs.YtcfomfajpmlleaaGreat
open Go Sy
set_option linter.unusedVariables false
theorem szF_rng {l : List Bx} (h : ∀ b ∈ l, OBx b) (ho : okS l = true) : (∀ k, k < 6 → 0 ≤ szF l k ∧ szF l k ≤ 1073741824) ∧ l ≠ [] := by
  have hn : l ≠ [] := fun e => by unfold okS at ho; rw [e] at ho; cases ho
  obtain ⟨hok, hm⟩ := crg_ok h hn
  have n1 := hok.n1
  have hE := eLH hok.pc ((crg l).ps.length - 1) (by omega)
  refine ⟨fun k hk => ?_, hn⟩
  unfold szF
  rw [if_pos ho]
  unfold okS at ho
  rw [Bool.and_eq_true, decide_eq_true_eq] at ho
  have h2 := ho.2
  rcases k with _ | _ | _ | _ | _ | _ | k <;> simp only [fS] <;> omega
theorem smM_le {l : List Pce} (h : ∀ i, i < l.length → 0 ≤ (pc l i).m) {j : Nat} : ∀ d, j + d ≤ l.length → smM (l.take j) ≤ smM (l.take (j + d))
  | 0, _ => Int.le_refl _
  | d + 1, hd => by
    have h1 := smM_le (j := j) h d (by omega)
    have h2 := h (j + d) (by omega)
    rw [show j + (d + 1) = j + d + 1 by omega, smM_succ (l := l) (i := j + d) (by omega)]
    omega
theorem pc_take {l : List Pce} {i j : Nat} (h : i < j) : pc (l.take j) i = pc l i := by
  simp [pc, List.getD, h]
theorem eH_take {l : List Pce} {j : Nat} (k : Nat) : ∀ n, n < j → eH (l.take j) k n = eH l k n
  | 0, h => by
    show plh (pc (l.take j) 0) k = plh (pc l 0) k
    rw [pc_take h]
  | n + 1, h => by
    show max (eH (l.take j) k n) (plh (pc (l.take j) (n + 1)) k) = max (eH l k n) (plh (pc l (n + 1)) k)
    rw [pc_take h, eH_take k n (by omega)]
theorem eH_mono (l : List Pce) (k n : Nat) : ∀ d, eH l k n ≤ eH l k (n + d)
  | 0 => Int.le_refl _
  | d + 1 => by
    have := eH_mono l k n d
    show _ ≤ max (eH l k (n + d)) _
    omega
theorem crg_take (l : List Bx) {j : Nat} (h : j ≤ 4) : crg (l.take j) = ⟨crgS, (crg l).ps.take j, [], 300⟩ := by
  unfold crg
  congr 1
  rw [← List.map_take, List.take_take, List.take_take, Nat.min_comm]
theorem less_ok {l : List Bx} (h : ∀ b ∈ l, OBx b) (ho : okS l = true) (h2 : 2 ≤ (crg l).ps.length) :
    okS (l.take ((crg l).ps.length - 1)) = true ∧ ∀ k, k < 6 → szF (l.take ((crg l).ps.length - 1)) k ≤ szF l k := by
  obtain ⟨_, hn⟩ := szF_rng h ho
  obtain ⟨hok, hm⟩ := crg_ok h hn
  have hl := crg_len l
  generalize hj : (crg l).ps.length - 1 = j at *
  have ht := crg_take l (j := j) (by omega)
  have hps : (crg (l.take j)).ps = (crg l).ps.take j := by rw [ht]
  have hsm : smM ((crg l).ps.take j) ≤ smM (crg l).ps := by
    have := smM_le (l := (crg l).ps) (j := j) (fun i hi => by
      obtain ⟨_, q⟩ := pceB_iff.1 (hok.pc i hi)
      exact q.1) 1 (by omega)
    rw [show j + 1 = (crg l).ps.length by omega, List.take_length] at this
    exact this
  have hlt : ((crg l).ps.take j).length = j := by rw [List.length_take]; omega
  have hee : eH ((crg l).ps.take j) 2 (((crg l).ps.take j).length - 1) ≤ eH (crg l).ps 2 ((crg l).ps.length - 1) := by
    rw [hlt, eH_take 2 (j - 1) (by omega), show (crg l).ps.length - 1 = j - 1 + 1 by omega]
    exact eH_mono _ 2 (j - 1) 1
  have hcd : cdiv (7000 + smM ((crg l).ps.take j)) 3 ≤ cdiv (7000 + smM (crg l).ps) 3 := by unfold cdiv; omega
  have ho1 := ho
  unfold okS at ho1
  rw [Bool.and_eq_true, decide_eq_true_eq] at ho1
  have ho2 : okS (l.take j) = true := by
    unfold okS
    rw [hps, Bool.and_eq_true, decide_eq_true_eq, Bool.not_eq_true', decide_eq_false_iff_not]
    refine ⟨fun e => ?_, by omega⟩
    have := congrArg List.length e
    rw [List.length_take, List.length_nil] at this
    omega
  refine ⟨ho2, fun k hk => ?_⟩
  unfold szF
  rw [if_pos ho, if_pos ho2]
  rcases k with _ | _ | _ | _ | _ | _ | k <;> simp only [fS, hps] <;> omega
end Go.Proofs.YtcfomfajpmlleaaGreat

namespace Go.Proofs.YtcfomfajpmlleaaGreat
open Go Sy
set_option maxRecDepth 100000
set_option maxHeartbeats 8000000
set_option linter.unusedVariables false
set_option linter.unusedSimpArgs false
theorem fn3 (bx : List Bx) (l : List R.Tr) (fs : List R.Fx) (a b : Int) (hb : bx.length ≤ 140737488355328) (hl : l.length ≤ 140737488355328) (hf : fs.length ≤ 140737488355328) (h1 : ∀ x ∈ bx, OBx x) (h2 : ∀ t ∈ l, R.OTr t) (h3 : ∀ x ∈ fs, R.OFx x) (ha : 0 ≤ a ∧ a ≤ 255) (hb' : 0 ≤ b ∧ b ≤ 255) :
    Sy.Fn Tryz.prog 3 [aBx bx, R.aTr l, R.aFx fs, .v (.int .u8 a), .v (.int .u8 b)] (bv true) := by
  refine Fn_of_W mixed Xt3 rfl ?_
  have c5 := fn5 bx hb h1
  have c6 := fn6 bx h1
  have c7 := fn7
  have c8 := R.fn8 l fs hl hf h2 h3
  by_cases ho : okS bx = true
  rotate_left
  · have ho : okS bx = false := by rw [← Bool.not_eq_true]; exact ho
    rw [ho] at c6
    have ez : szF bx = fun _ => 0 := by funext k; unfold szF; rw [if_neg (by rw [ho]; decide)]
    rw [ez] at c6
    (refine go_cc c5 c6 ?_; try exact True.intro)
    refine W_cond (by rfl) (fun _ => ?_) (fun h => by cases h)
    (refine go_c c7 ?_; try exact True.intro)
    exact W_ret ⟨[_], ⟨rfl, rfl⟩, rfl⟩
  rw [ho] at c6
  obtain ⟨hz, hn⟩ := szF_rng h1 ho
  have hG := R.atl_gm l fs
  have hC := R.atl_chk h2 h3
  have hmn : (R.atl l fs).n = 5 := rfl
  have hfr : 0 ≤ a % 5 ∧ a % 5 < (R.atl l fs).n := by rw [hmn]; omega
  have hto : 0 ≤ b % 5 ∧ b % 5 < (R.atl l fs).n := by rw [hmn]; omega
  have hsz : R.szE (szF bx) = 0 := by unfold R.szE; rw [if_pos (R.szB_iff.2 hz)]
  have c9 := R.fn9 (R.atl l fs) (szF bx) (a % 5) (b % 5) hG
  obtain ⟨k1, k2, k3⟩ := R.chE_of hC hsz hfr hto
  rw [k2, k3] at c9
  have ea : a.tmod 5 = a % 5 := Int.tmod_eq_emod_of_nonneg ha.1
  have eb : b.tmod 5 = b % 5 := Int.tmod_eq_emod_of_nonneg hb'.1
  have hwk := fun i => R.atl_work l fs (i := i)
  generalize hM : R.atl l fs = m at *
  rcases hbs : R.bestS m (szF bx) (a % 5) (b % 5) with _ | ⟨s, n⟩
  · rw [hbs] at c9
    unfold R.rtC R.bE R.zRt at c9
    (refine go_cc c5 c6 ?_; try exact True.intro)
    refine W_cond (by rfl) (fun h => by cases h) (fun _ => ?_)
    (refine gofcc (ad2 ea eb) c8 c9 ?_; try exact True.intro)
    refine W_cond (by rfl) (fun _ => ?_) (fun h => by cases h)
    repeat' (first | refine w1g ?_ | refine w1l ?_ | refine w1q ?_ | refine w1b ?_ | refine w1p ?_ | ((first | refine w1r ?_ | refine w1k ?_ | refine w1e ?_ | refine CallC.go _ (fun _ => ⟨trivial, c7⟩) rfl ?_); simp (maxSteps := 400000) (disch := omega) only [push_cast, ↓reduceIte, reduceCtorEq, Nat.reduceAdd, Nat.reduceSub, Nat.reduceEqDiff, Nat.reduceLeDiff, Nat.reduceLT, Nat.reduceBEq, Nat.reduceDiv, Nat.reduceMod, Nat.reducePow, Nat.reduceMul, Int.reduceToNat, Int.reduceLT, Int.reduceLE, beq_self_eq_true]) | refine an2 ?_ | fail)
    exact W_ret ⟨[_], ⟨rfl, rfl⟩, rfl⟩
  have hR := R.rte_of hC hfr hto hbs
  rw [hbs] at c9
  have c9 : Sy.Fn Tryz.prog 9 [R.aM m, .agg (R.c6 (szF bx)), iv (a % 5), iv (b % 5)] (.tup [.agg [R.aI (R.wayS m (szF bx) (a % 5) (b % 5) s), R.aI s, iv n, iv (R.minL m (R.wayS m (szF bx) (a % 5) (b % 5) s))], iv 0]) := c9
  have c10 := R.fn10 m (a % 5) (b % 5) (R.wayS m (szF bx) (a % 5) (b % 5) s) hG (by have := hR.len; omega)
  rw [hR.ir.1, hR.ir.2] at c10
  obtain ⟨g1, g2, g3, g4, _⟩ := hR
  generalize R.wayS m (szF bx) (a % 5) (b % 5) s = WS at *
  generalize R.minL m WS = ML at *
  (refine go_cc c5 c6 ?_; try exact True.intro)
  refine W_cond (by rfl) (fun h => by cases h) (fun _ => ?_)
  (refine gofcc (ad2 ea eb) c8 c9 ?_; try exact True.intro)
  refine W_cond (by rfl) (fun h => by cases h) (fun _ => ?_)
  repeat' (first | refine w1g ?_ | refine w1l ?_ | refine w1q ?_ | refine w1b ?_ | refine w1p ?_ | ((first | refine w1r ?_ | refine w1k ?_ | refine w1e ?_ | refine CallC.now (c10) ?_); simp (maxSteps := 400000) (disch := omega) only [push_cast, ↓reduceIte, reduceCtorEq, Nat.reduceAdd, Nat.reduceSub, Nat.reduceEqDiff, Nat.reduceLeDiff, Nat.reduceLT, Nat.reduceBEq, Nat.reduceDiv, Nat.reduceMod, Nat.reducePow, Nat.reduceMul, Int.reduceToNat, Int.reduceLT, Int.reduceLE, bne_self_eq_false]) | refine an2 ?_ | fail)
  refine W_cond (by rfl) (fun h => by cases h) (fun _ => ?_)
  (refine go0 ?_; try exact True.intro)
  have hok := R.chkM_ok hC
  have hnr := hok.nr
  have hnw := hok.nw
  have hsl := g1.len (by omega)
  refine W_loopU (fun i : Nat => [(21, iv i)]) (fun i => []) (fun i => i ≤ WS.length) (fun i => WS.length - i) 0 (by omega) (by rfl) (by rfl) (fun i hi => ?_)
  (refine sy1 ?_; try exact True.intro)
  (refine go0 ?_; try exact True.intro)
  refine W_condD (by rfl) (fun h5 => ?_) (fun h5 => ?_)
  · have hlt : i < WS.length := by omega
    have hmem := R.getD_mem' 0 WS i hlt
    have hx := g3 _ hmem
    have hu := g2 _ hmem
    generalize hX : WS.getD i 0 = X at *
    have d1 : decide (X < 0) = false := decide_eq_false (by omega)
    have d2 : decide ((m.rs.length : Int) ≤ X) = false := decide_eq_false (by omega)
    (refine gof (ad3 hX d1 d2) ?_; try exact True.intro)
    refine W_cond (by rfl) (fun h => by cases h) (fun _ => ?_)
    have hgr : m.rs.getD X.toNat R.dR = R.gr m X.toNat := rfl
    (refine gof (ad2 hX hgr) ?_; try exact True.intro)
    rw [show R.c6 (R.gr m X.toNat).lim = R.c6 (R.lmW m s X.toNat 0) from rfl]
    refine W_loopU (fun j : Nat => [(23, iv j)]) (fun j => [(91, .cells (R.c6 (R.lmW m s X.toNat j)))]) (fun j => j ≤ s.length) (fun j => s.length - j) 0 (by omega) (by rfl) (by rfl) (fun j hj => ?_)
    (refine sy1 ?_; try exact True.intro)
    (refine go0 ?_; try exact True.intro)
    refine W_condD (by rfl) (fun h6 => ?_) (fun h6 => ?_)
    · have hjl : j < s.length := by omega
      have hY := g1.mem _ (R.getD_mem' 0 s j hjl)
      have hls := R.lmW_succ (m := m) (road := X.toNat) hjl hY.1
      have hgy : R.gi s j = s.getD j 0 := rfl
      rw [hgy] at hls
      generalize hYY : s.getD j 0 = Y at *
      have d3 : decide (Y < 0) = false := decide_eq_false (by omega)
      have d4 : decide ((m.ws.length : Int) ≤ Y) = false := decide_eq_false (by omega)
      have hgw : m.ws.getD Y.toNat R.dW = R.gw m Y.toNat := rfl
      obtain ⟨x, w1, w2, w3⟩ := hwk Y.toNat (by omega)
      have hls1 := fun k => (hls k).trans (R.limS_one w1)
      generalize R.gw m Y.toNat = w at *
      have g0 : w.rs.getD 0 0 = x := by rw [w1]; rfl
      have hrl : w.rs.length = 1 := by rw [w1]; rfl
      (refine gof (ad3 hYY d3 d4) ?_; try exact True.intro)
      refine W_cond (by rfl) (fun h => by cases h) (fun _ => ?_)
      (refine gof (ad5 hYY hgw hX g0 hrl) ?_; try exact True.intro)
      by_cases hxX : x = X
      · have e0 : (x == X) = true := beq_iff_eq.2 hxX
        rw [e0]
        refine W_cond (by rfl) (fun _ => ?_) (fun h => by cases h)
        obtain hk | hk | hk | hk : w.k = 0 ∨ w.k = 1 ∨ w.k = 2 ∨ w.k = 3 := by omega
        · have ec : R.c6 (R.lmW m s X.toNat (j + 1)) = [iv (max (R.lmW m s X.toNat j 0) w.l), iv (R.lmW m s X.toNat j 1), iv (R.lmW m s X.toNat j 2), iv (R.lmW m s X.toNat j 3), iv (R.lmW m s X.toNat j 4), iv (R.lmW m s X.toNat j 5)] := by
            show [R.iv (R.lmW m s X.toNat (j + 1) 0), R.iv (R.lmW m s X.toNat (j + 1) 1), R.iv (R.lmW m s X.toNat (j + 1) 2), R.iv (R.lmW m s X.toNat (j + 1) 3), R.iv (R.lmW m s X.toNat (j + 1) 4), R.iv (R.lmW m s X.toNat (j + 1) 5)] = _
            rw [hls1 0, hls1 1, hls1 2, hls1 3, hls1 4, hls1 5, if_pos ⟨by omega, by omega⟩, if_neg (by omega), if_neg (by omega), if_neg (by omega), if_neg (by omega), if_neg (by omega)]
          (refine gof hk ?_; try exact True.intro)
          refine ⟨j + 1, by omega, by omega, by rfl, ?_⟩
          rw [ec]
          (refine syE ?_; try exact True.intro)
          try rfl
        · have ec : R.c6 (R.lmW m s X.toNat (j + 1)) = [iv (R.lmW m s X.toNat j 0), iv (max (R.lmW m s X.toNat j 1) w.l), iv (R.lmW m s X.toNat j 2), iv (R.lmW m s X.toNat j 3), iv (R.lmW m s X.toNat j 4), iv (R.lmW m s X.toNat j 5)] := by
            show [R.iv (R.lmW m s X.toNat (j + 1) 0), R.iv (R.lmW m s X.toNat (j + 1) 1), R.iv (R.lmW m s X.toNat (j + 1) 2), R.iv (R.lmW m s X.toNat (j + 1) 3), R.iv (R.lmW m s X.toNat (j + 1) 4), R.iv (R.lmW m s X.toNat (j + 1) 5)] = _
            rw [hls1 0, hls1 1, hls1 2, hls1 3, hls1 4, hls1 5, if_neg (by omega), if_pos ⟨by omega, by omega⟩, if_neg (by omega), if_neg (by omega), if_neg (by omega), if_neg (by omega)]
          (refine gof hk ?_; try exact True.intro)
          refine ⟨j + 1, by omega, by omega, by rfl, ?_⟩
          rw [ec]
          (refine syE ?_; try exact True.intro)
          try rfl
        · have ec : R.c6 (R.lmW m s X.toNat (j + 1)) = [iv (R.lmW m s X.toNat j 0), iv (R.lmW m s X.toNat j 1), iv (max (R.lmW m s X.toNat j 2) w.l), iv (R.lmW m s X.toNat j 3), iv (R.lmW m s X.toNat j 4), iv (R.lmW m s X.toNat j 5)] := by
            show [R.iv (R.lmW m s X.toNat (j + 1) 0), R.iv (R.lmW m s X.toNat (j + 1) 1), R.iv (R.lmW m s X.toNat (j + 1) 2), R.iv (R.lmW m s X.toNat (j + 1) 3), R.iv (R.lmW m s X.toNat (j + 1) 4), R.iv (R.lmW m s X.toNat (j + 1) 5)] = _
            rw [hls1 0, hls1 1, hls1 2, hls1 3, hls1 4, hls1 5, if_neg (by omega), if_neg (by omega), if_pos ⟨by omega, by omega⟩, if_neg (by omega), if_neg (by omega), if_neg (by omega)]
          (refine gof hk ?_; try exact True.intro)
          refine ⟨j + 1, by omega, by omega, by rfl, ?_⟩
          rw [ec]
          (refine syE ?_; try exact True.intro)
          try rfl
        · have ec : R.c6 (R.lmW m s X.toNat (j + 1)) = [iv (R.lmW m s X.toNat j 0), iv (R.lmW m s X.toNat j 1), iv (R.lmW m s X.toNat j 2), iv (max (R.lmW m s X.toNat j 3) w.l), iv (R.lmW m s X.toNat j 4), iv (R.lmW m s X.toNat j 5)] := by
            show [R.iv (R.lmW m s X.toNat (j + 1) 0), R.iv (R.lmW m s X.toNat (j + 1) 1), R.iv (R.lmW m s X.toNat (j + 1) 2), R.iv (R.lmW m s X.toNat (j + 1) 3), R.iv (R.lmW m s X.toNat (j + 1) 4), R.iv (R.lmW m s X.toNat (j + 1) 5)] = _
            rw [hls1 0, hls1 1, hls1 2, hls1 3, hls1 4, hls1 5, if_neg (by omega), if_neg (by omega), if_neg (by omega), if_pos ⟨by omega, by omega⟩, if_neg (by omega), if_neg (by omega)]
          (refine gof hk ?_; try exact True.intro)
          refine ⟨j + 1, by omega, by omega, by rfl, ?_⟩
          rw [ec]
          (refine syE ?_; try exact True.intro)
          try rfl
      · have e0 : (x == X) = false := beq_eq_false_iff_ne.2 hxX
        rw [e0]
        refine W_cond (by rfl) (fun h => by cases h) (fun _ => ?_)
        have ec : R.c6 (R.lmW m s X.toNat (j + 1)) = R.c6 (R.lmW m s X.toNat j) := by
          have : R.lmW m s X.toNat (j + 1) = R.lmW m s X.toNat j := funext fun k => by rw [hls1]; exact if_neg (by omega)
          rw [this]
        (refine go0 ?_; try exact True.intro)
        refine ⟨j + 1, by omega, by omega, by rfl, ?_⟩
        rw [ec]
        (refine syE ?_; try exact True.intro)
    · obtain rfl : j = s.length := by omega
      have eL : R.c6 (R.lmW m s X.toNat s.length) = R.c6 (R.limL m s X.toNat) := by
        have : R.lmW m s X.toNat s.length = R.limL m s X.toNat := funext fun k => R.lmW_end m s X.toNat k
        rw [this]
      rw [eL]
      have hus := R.usN_iff.1 hu
      generalize R.limL m s X.toNat = LM at *
      (refine go0 ?_; try exact True.intro)
      refine W_loopU (fun k : Nat => [(25, iv k)]) (fun k => []) (fun k => k ≤ 6) (fun k => 6 - k) 0 (by omega) (by rfl) (by rfl) (fun k hk => ?_)
      (refine sy1 ?_; try exact True.intro)
      (refine go0 ?_; try exact True.intro)
      refine W_condD (by rfl) (fun h7 => ?_) (fun h7 => ?_)
      · have hkl : k < 6 := by omega
        have q1 := R.n6 (szF bx) k hkl
        have q2 := R.n6 LM k hkl
        have q3 := hus k hkl
        have d5 : decide (LM k < szF bx k) = false := decide_eq_false (by omega)
        (refine gof (ad4 q1 q2 d5 Nat.mul_one) ?_; try exact True.intro)
        refine W_cond (by rfl) (fun h => by cases h) (fun _ => ?_)
        (refine go0 ?_; try exact True.intro)
        refine ⟨k + 1, by omega, by omega, by rfl, ?_⟩
        (refine syE ?_; try exact True.intro)
      · (refine go0 ?_; try exact True.intro)
        refine ⟨i + 1, by omega, by omega, by rfl, ?_⟩
        (refine syE ?_; try exact True.intro)
  · obtain rfl : i = WS.length := by omega
    have hcl := crg_len bx
    have ecl : cLd (crg bx) = [stv crgS, aPc (crg bx).ps, aEy [], iv 300] := rfl
    have hL := fun h2 => less_ok h1 ho h2
    have hct := crg_take bx (j := (crg bx).ps.length - 1) (by omega)
    have c6' := fn6 (bx.take ((crg bx).ps.length - 1)) (fun x hx => h1 x (List.mem_of_mem_take hx))
    have ecl' : cLd (crg (bx.take ((crg bx).ps.length - 1))) = [stv crgS, aPc ((crg bx).ps.take ((crg bx).ps.length - 1)), aEy [], iv 300] := by rw [hct]
    rw [ecl'] at c6'
    have hbx' : ∀ x ∈ bx.take ((crg bx).ps.length - 1), OBx x := fun x hx => h1 x (List.mem_of_mem_take hx)
    rw [ecl]
    generalize bx.take ((crg bx).ps.length - 1) = bx' at *
    generalize (crg bx).ps = PS at *
    (refine go0 ?_; try exact True.intro)
    refine W_condD (by rfl) (fun h6 => ?_) (fun h6 => ?_)
    · (refine go_c c7 ?_; try exact True.intro)
      exact W_ret ⟨[_], ⟨rfl, rfl⟩, rfl⟩
    obtain ⟨ho', hle⟩ := hL (by omega)
    obtain ⟨hz', _⟩ := szF_rng hbx' ho'
    rw [ho'] at c6'
    have ct : ((PS.length : Int) - 1).toNat = PS.length - 1 := by omega
    have hsz' : R.szE (szF bx') = 0 := by unfold R.szE; rw [if_pos (R.szB_iff.2 hz')]
    obtain ⟨_, k2', k3'⟩ := R.chE_of hC hsz' hfr hto
    have c9' := R.fn9 m (szF bx') (a % 5) (b % 5) hG
    obtain ⟨s', n', hbs', hnn⟩ := R.more_size hok hto hfr hle hbs
    rw [k2', k3', hbs'] at c9'
    have c9' : Sy.Fn Tryz.prog 9 [R.aM m, .agg (R.c6 (szF bx')), iv (a % 5), iv (b % 5)] (.tup [.agg [R.aI (R.wayS m (szF bx') (a % 5) (b % 5) s'), R.aI s', iv n', iv (R.minL m (R.wayS m (szF bx') (a % 5) (b % 5) s'))], iv 0]) := c9'
    generalize R.wayS m (szF bx') (a % 5) (b % 5) s' = WS' at *
    generalize R.minL m WS' = ML' at *
    have d6 : decide (szF bx 3 < szF bx' 3) = false := decide_eq_false (by have := hle 3 (by omega); omega)
    have d7 : decide (n' ≤ n) = true := decide_eq_true hnn
    have m3 : nth (R.c6 (szF bx)) 3 = iv (szF bx 3) := rfl
    have m3' : nth (R.c6 (szF bx')) 3 = iv (szF bx' 3) := rfl
    (refine gofc ct c6' ?_; try exact True.intro)
    refine W_cond (by rfl) (fun h => ?_) (fun _ => ?_)
    · rw [d6] at h
      cases h
    repeat' (first | refine w1g ?_ | refine w1l ?_ | refine w1q ?_ | refine w1b ?_ | refine w1p ?_ | ((first | refine w1r ?_ | refine w1k ?_ | refine w1e ?_ | refine CallC.now (c9') ?_ | refine CallC.go _ (fun _ => ⟨trivial, c7⟩) rfl ?_); simp (maxSteps := 400000) (disch := omega) only [push_cast, ↓reduceIte, reduceCtorEq, Nat.reduceAdd, Nat.reduceSub, Nat.reduceEqDiff, Nat.reduceLeDiff, Nat.reduceLT, Nat.reduceBEq, Nat.reduceDiv, Nat.reduceMod, Nat.reducePow, Nat.reduceMul, Int.reduceToNat, Int.reduceLT, Int.reduceLE, d7, beq_self_eq_true]) | refine an2 ?_ | fail)
    exact W_ret ⟨[_], ⟨rfl, rfl⟩, rfl⟩
end Go.Proofs.YtcfomfajpmlleaaGreat

namespace Go.Proofs.YtcfomfajpmlleaaGreat
open Go Sy
set_option maxRecDepth 100000
set_option linter.unusedVariables false
theorem u8_wf {n : Int} (h : (Lit.int .u8 n).wf = true) : 0 ≤ n ∧ n ≤ 255 := by
  simp [Lit.wf, IntKind.min, IntKind.max, IntKind.bits, IntKind.signed] at h
  omega
theorem u16_wf {n : Int} (h : (Lit.int .u16 n).wf = true) : 0 ≤ n ∧ n ≤ 65535 := by
  simp [Lit.wf, IntKind.min, IntKind.max, IntKind.bits, IntKind.signed] at h
  omega
theorem y5 : Tryz.prog.cellsOf 5 = 1 := by kernel_rfl
theorem y66 : Tryz.prog.cellsOf 66 = 1 := by kernel_rfl
theorem y68 : Tryz.prog.cellsOf 68 = 7 := by kernel_rfl
theorem b68 : Tryz.prog.bytesOf 68 = 8 := by kernel_rfl
theorem y85 : Tryz.prog.cellsOf 85 = 8 := by kernel_rfl
theorem b85 : Tryz.prog.bytesOf 85 = 8 := by kernel_rfl
theorem y87 : Tryz.prog.cellsOf 87 = 4 := by kernel_rfl
theorem b87 : Tryz.prog.bytesOf 87 = 4 := by kernel_rfl
theorem k5 : Codec Tryz.prog 5 (fun n : Int => [.v (.int .u8 n)]) (fun n => 0 ≤ n ∧ n ≤ 255) := (Codec.int Tryz.underlying5).map id (fun _ => rfl) (fun _ h => u8_wf h)
theorem k66 : Codec Tryz.prog 66 (fun n : Int => [.v (.int .u16 n)]) (fun n => 0 ≤ n ∧ n ≤ 65535) := (Codec.int Tryz.underlying66).map id (fun _ => rfl) (fun _ h => u16_wf h)
theorem k68 : Codec Tryz.prog 68 cBx OBx :=
  (Codec.struct Tryz.underlying68 (by kernel_rfl) (by kernel_rfl) (Parts.cons k5 y5 (Parts.cons k5 y5 (Parts.cons k5 y5 (Parts.cons k5 y5 (Parts.cons k5 y5 (Parts.cons k5 y5 (Parts.cons k66 y66 Parts.nil)))))))).map
    (fun x => ⟨x.1, x.2.1, x.2.2.1, x.2.2.2.1, x.2.2.2.2.1, x.2.2.2.2.2.1, x.2.2.2.2.2.2.1⟩) (fun _ => rfl) (fun _ h => ⟨h.1, h.2.1, h.2.2.1, h.2.2.2.1, h.2.2.2.2.1, h.2.2.2.2.2.1, h.2.2.2.2.2.2.1⟩)
theorem k85 : Codec Tryz.prog 85 R.cTr R.OTr :=
  (Codec.struct Tryz.underlying85 (by kernel_rfl) (by kernel_rfl) (Parts.cons k5 y5 (Parts.cons k5 y5 (Parts.cons k5 y5 (Parts.cons k5 y5 (Parts.cons k5 y5 (Parts.cons k5 y5 (Parts.cons k5 y5 (Parts.cons k5 y5 Parts.nil))))))))).map
    (fun x => ⟨x.1, x.2.1, x.2.2.1, x.2.2.2.1, x.2.2.2.2.1, x.2.2.2.2.2.1, x.2.2.2.2.2.2.1, x.2.2.2.2.2.2.2.1⟩) (fun _ => rfl) (fun _ h => ⟨h.1, h.2.1, h.2.2.1, h.2.2.2.1, h.2.2.2.2.1, h.2.2.2.2.2.1, h.2.2.2.2.2.2.1, h.2.2.2.2.2.2.2.1⟩)
theorem k87 : Codec Tryz.prog 87 R.cFx R.OFx :=
  (Codec.struct Tryz.underlying87 (by kernel_rfl) (by kernel_rfl) (Parts.cons k5 y5 (Parts.cons k5 y5 (Parts.cons k5 y5 (Parts.cons k5 y5 Parts.nil))))).map
    (fun x => ⟨x.1, x.2.1, x.2.2.1, x.2.2.2.1⟩) (fun _ => rfl) (fun _ h => ⟨h.1, h.2.1, h.2.2.1, h.2.2.2.1⟩)
theorem k22 : Codec Tryz.prog 22 (fun l : List Bx => [aBx l]) (fun l => l.length * 8 ≤ 140737488351232 ∧ ∀ b ∈ l, OBx b) :=
  (Codec.slice Tryz.underlying22 (by rw [y68]; decide) y68 b68 dBx k68).map id (fun _ => rfl) (fun _ h => ⟨h.1, h.2.2⟩)
theorem k23 : Codec Tryz.prog 23 (fun l : List R.Tr => [R.aTr l]) (fun l => l.length * 8 ≤ 140737488351232 ∧ ∀ b ∈ l, R.OTr b) :=
  (Codec.slice Tryz.underlying23 (by rw [y85]; decide) y85 b85 R.dTr k85).map id (fun _ => rfl) (fun _ h => ⟨h.1, h.2.2⟩)
theorem k24 : Codec Tryz.prog 24 (fun l : List R.Fx => [R.aFx l]) (fun l => l.length * 4 ≤ 140737488351232 ∧ ∀ b ∈ l, R.OFx b) :=
  (Codec.slice Tryz.underlying24 (by rw [y87]; decide) y87 b87 R.dFx k87).map id (fun _ => rfl) (fun _ h => ⟨h.1, h.2.2⟩)
end Go.Proofs.YtcfomfajpmlleaaGreat

namespace Go.Proofs.YtcfomfajpmlleaaGreat
open Go Sy Go.ChangeShapes Go.WideShapes Go.RowKit
set_option maxRecDepth 100000
set_option linter.unusedVariables false
theorem own : ownKnob Tryz.prog.godebug = none := by kernel_rfl
theorem laidOut : laidOutB Tryz.prog = true := by kernel_rfl
theorem walk3 (W : World) (v0 v1 v2 v3 v4 : Value) (bx : List Bx) (l : List R.Tr) (fs : List R.Fx) (a : Int) (b : Int) (h0 : fsat (inW W) W (aBx bx) v0) (h1 : fsat (inW W) W (R.aTr l) v1) (h2 : fsat (inW W) W (R.aFx fs) v2) (h3 : fsat (inW W) W (.v (.int .u8 a)) v3) (h4 : fsat (inW W) W (.v (.int .u8 b)) v4) (obx : bx.length * 8 ≤ 140737488351232 ∧ ∀ b ∈ bx, OBx b) (ol : l.length * 8 ≤ 140737488351232 ∧ ∀ b ∈ l, R.OTr b) (ofs : fs.length * 4 ≤ 140737488351232 ∧ ∀ b ∈ fs, R.OFx b) (oa : 0 ≤ a ∧ a ≤ 255) (ob : 0 ≤ b ∧ b ≤ 255) :
    Calls Tryz.prog 3 #[v0, v1, v2, v3, v4] W fun e w' => e = .returned (.bool true) ∧ Below W.heap.size W w' := by
  have hf : Sy.Fn Tryz.prog 3 [aBx bx, R.aTr l, R.aFx fs, .v (.int .u8 a), .v (.int .u8 b)] (bv true) := fn3 bx l fs a b (by have := obx.1; omega) (by have := ol.1; omega) (by have := ofs.1; omega) obx.2 ol.2 ofs.2 oa ob
  refine (hf.2 (inW W) W [v0, v1, v2, v3, v4] (fun b hb => hb) ?_).mono ?_
  · simp only [fsatT]
    exact ⟨v0, _, rfl, h0, v1, _, rfl, h1, v2, _, rfl, h2, v3, _, rfl, h3, v4, _, rfl, h4, rfl⟩
  · rintro e w' ⟨v, rfl, hb, hv⟩
    simp only [fsat] at hv
    exact ⟨by rw [hv], hb⟩
theorem lifted3 (os : Os) (started : os.Started) (H : Type) (enc : TypeId × Value → H) :
    ReturnsInHanded {} Tryz.checked os 3 .any (Rows.topCarriedSpec.pre6 enc Tryz.prog Tryz.f3 Rows.topCarriedRow.domain false) (Rows.topCarriedSpec.post enc Tryz.prog Tryz.f3 false true false false) := by
  refine returnsInHanded_of_change_sized (C := Tryz.checked) own started (by kernel_rfl) Tryz.func3
    (ChangeSpec.witness6 (enc := enc) (C := Tryz.checked) false ⟨#[], #[.slice none 0 0, .slice none 0 0, .slice none 0 0, .int .u8 0, .int .u8 0], []⟩ 8 (by kernel_rfl) (by kernel_rfl) (by kernel_rfl) (by kernel_rfl)) ?_
  intro W base args ds gs before hval0 hW hcnd hsz _
  have hval : ∀ (j : Nat) t v, Tryz.f3.params[j]? = some t → args[j]? = some v → Value.okWide Tryz.prog W .any base t v := hval0
  have hW' := hW
  obtain ⟨p, q, hA0, hV, rfl, hfz, hnd⟩ := hW
  have hA : DataW.TrodAll enc Tryz.prog W 0 (fun _ => true) true Tryz.f3.params.toList args.toList ds p := hA0
  rw [Tryz.params3] at hA hval
  obtain ⟨v0, vs0, d0, ds0, p0, q0, hargs, rfl, rfl, h0, r0⟩ := trodAll_cons hA
  obtain ⟨v1, vs1, d1, ds1, p1, q1, rfl, rfl, rfl, h1, r1⟩ := trodAll_cons r0
  obtain ⟨v2, vs2, d2, ds2, p2, q2, rfl, rfl, rfl, h2, r2⟩ := trodAll_cons r1
  obtain ⟨v3, vs3, d3, ds3, p3, q3, rfl, rfl, rfl, h3, r3⟩ := trodAll_cons r2
  obtain ⟨v4, vs4, d4, ds4, p4, q4, rfl, rfl, rfl, h4, r4⟩ := trodAll_cons r3
  obtain ⟨rfl, rfl, rfl⟩ := trodAll_nil r4
  obtain rfl : args = #[v0, v1, v2, v3, v4] := by cases args; simp_all
  obtain ⟨rfl, rfl⟩ := trodVars_none hV
  have hs : ∀ (j : Nat) t (d : DataW H), [22, 23, 24, 5, 5][j]? = some t → [d0, d1, d2, d3, d4][j]? = some d → ∀ n ∈ d.weights Tryz.prog t, n ≤ reachBytes := fun j t d ht hd n hn => by
    have hall := List.all_eq_true.1 hsz n (DataW.weights_mem_each (j := j) (t := t) (d := d) (by rw [Tryz.params3]; simpa using (List.getElem?_append_left (l₂ := _) (by have := (List.getElem?_eq_some_iff.1 ht).1; simpa using this)).trans ht) (by simpa using (List.getElem?_append_left (l₂ := _) (by have := (List.getElem?_eq_some_iff.1 hd).1; simpa using this)).trans hd) n hn)
    simpa using hall
  have lt0 : ∀ x ∈ p0, x.block < W.heap.size := by obtain ⟨m, hm⟩ := h0; exact DataW.trod_lt m _ _ _ hm
  have lt1 : ∀ x ∈ p1, x.block < W.heap.size := by obtain ⟨m, hm⟩ := h1; exact DataW.trod_lt m _ _ _ hm
  have lt2 : ∀ x ∈ p2, x.block < W.heap.size := by obtain ⟨m, hm⟩ := h2; exact DataW.trod_lt m _ _ _ hm
  have lt3 : ∀ x ∈ p3, x.block < W.heap.size := by obtain ⟨m, hm⟩ := h3; exact DataW.trod_lt m _ _ _ hm
  have lt4 : ∀ x ∈ p4, x.block < W.heap.size := by obtain ⟨m, hm⟩ := h4; exact DataW.trod_lt m _ _ _ hm
  obtain ⟨bx, obx, s0⟩ := k22.arg1 (by kernel_rfl) (hval 0 22 v0 rfl rfl) h0 (hs 0 22 d0 rfl rfl)
  obtain ⟨l, ol, s1⟩ := k23.arg1 (by kernel_rfl) (hval 1 23 v1 rfl rfl) h1 (hs 1 23 d1 rfl rfl)
  obtain ⟨fs, ofs, s2⟩ := k24.arg1 (by kernel_rfl) (hval 2 24 v2 rfl rfl) h2 (hs 2 24 d2 rfl rfl)
  obtain ⟨a, oa, s3⟩ := k5.arg1 (by kernel_rfl) (hval 3 5 v3 rfl rfl) h3 (hs 3 5 d3 rfl rfl)
  obtain ⟨b, ob, s4⟩ := k5.arg1 (by kernel_rfl) (hval 4 5 v4 rfl rfl) h4 (hs 4 5 d4 rfl rfl)
  clear hA0 hval0
  refine (walk3 W v0 v1 v2 v3 v4 bx l fs a b s0 s1 s2 s3 s4 obx ol ofs oa ob).mono fun e W' ⟨he, bel⟩ => ?_
  subst he
  exact ⟨_, rfl, _, _, _, [], _, [], hW', trodAll_mk1 (shut_bool Tryz.underlying4 _), (trodAll_cons_mk (Below.trod laidOut (by kernel_rfl) (of_decide_eq_true (by kernel_rfl)) h0 bel lt0) (trodAll_cons_mk (Below.trod laidOut (by kernel_rfl) (of_decide_eq_true (by kernel_rfl)) h1 bel lt1) (trodAll_cons_mk (Below.trod laidOut (by kernel_rfl) (of_decide_eq_true (by kernel_rfl)) h2 bel lt2) (trodAll_cons_mk (Below.trod laidOut (by kernel_rfl) (of_decide_eq_true (by kernel_rfl)) h3 bel lt3) (trodAll_cons_mk (Below.trod laidOut (by kernel_rfl) (of_decide_eq_true (by kernel_rfl)) h4 bel lt4) trodAll_mk0))))), rfl, bel.frame _, fun h => by cases h⟩
theorem over3 : Rows.topCarriedRow.holds Tryz.pinned (OpenSpec.ofChange Rows.topCarriedSpec) :=
  OpenClaim.holds_of_wide 3 Tryz.f3 rfl rfl rfl rfl rfl rfl rfl ⟨rfl, rfl, rfl, rfl, rfl⟩ rfl rfl rfl rfl rfl (by kernel_rfl) Tryz.func3 (by kernel_rfl)
    (of_decide_eq_true (by kernel_rfl)) (by unfold Func.isWrapper; first | (rw [if_pos (by decide +kernel)]; kernel_rfl) | (rw [if_neg (by decide +kernel)]; exact ⟨rfl, rfl⟩))
    (fun os started H enc _ => lifted3 os started H enc)
theorem top_carried_holds : Rows.TopCarriedSaid := over3
end Go.Proofs.YtcfomfajpmlleaaGreat

