/- Part 5 of the proof of: TopDriven: for every input the law returns true -/
import Derived.Test.YtlahcoaofbpinaaGreatP4
namespace Go.Proofs.YtlahcoaofbpinaaGreat.R
open Go Sy
set_option maxRecDepth 100000
set_option maxHeartbeats 4000000
set_option linter.unusedVariables false
set_option linter.unusedSimpArgs false
theorem fn27 (m : Mp) (f : Nat → Int) (s : Nat) (road : Int) : Sy.Fn Tryz.prog 27 [aAt m f, uv s, iv road] (.clo 46 [] [.fp (cAt m f) 0, .fp [uv s] 0, .fp [iv road] 0]) := by
  refine Fn_of_W mixed Xt27 rfl ?_
  (refine go0 ?_; try exact True.intro)
  exact W_ret ⟨[_], ⟨rfl, rfl⟩, rfl⟩
theorem fn11 (m : Mp) (f : Nat → Int) (l : List Int) (s : Nat) (road : Nat) (h : OkM m) (hs : SetW m l s) (hr : road < m.rs.length) : Sy.Fn Tryz.prog 11 [aAt m f, uv s, iv road] (bv (usB m f l road)) := by
  refine Fn_of_W mixed Xt11 rfl ?_
  (refine go_c (fn27 m f s road) ?_; try exact True.intro)
  refine W_rfn (.inl rfl) (fun lp R hR => Inl_of_W mixed Xt46 rfl (fun vs => ?_))
  (refine sy1 ?_; try exact True.intro)
  (refine go0 ?_; try exact True.intro)
  refine W_loopU (fun k : Nat => [(10, iv k)]) (fun k => []) (fun k => k ≤ 6 ∧ ∀ j, j < k → f j ≤ limL m l road j) (fun k => 6 - k) 0 ⟨by omega, fun j hj => by omega⟩ (by rfl) (by rfl) (fun k hk => ?_)
  obtain ⟨hk, hall⟩ := hk
  (refine sy1 ?_; try exact True.intro)
  (refine go0 ?_; try exact True.intro)
  refine W_condD (by rfl) (fun h5 => ?_) (fun h5 => ?_)
  · have hk6 : k < 6 := by omega
    have c47 := fn47 m f l s road k h hs hr hk6
    have us : limL m l road k < f k → usB m f l road = false := fun q => by
      rw [← Bool.not_eq_true]
      intro z
      have := usN_iff.1 z k hk6
      omega
    obtain ⟨n, hnl⟩ : ∃ n, n = limL m l road k := ⟨_, rfl⟩
    rw [← hnl] at c47 us
    by_cases q : n < f k
    · have qb : decide (n < f k) = true := decide_eq_true q
      (refine gofc (ad3 Nat.mul_one Nat.zero_add qb) c47 ?_; try exact True.intro)
      refine StopC.yld (fun hpc => ⟨trivial, Yl_of_W (k := 6) mixed hR rfl rfl rfl (fun vs2 => ?_)⟩) (fun hpc => absurd (by simp [Sy.pc]) hpc)
      refine W_skip ?_
      refine ⟨_, rfl, ?_⟩
      (refine sy1 ?_; try exact True.intro)
      (refine go0 ?_; try exact True.intro)
      refine W_ret ?_
      refine ⟨_, _, rfl, rfl, ?_⟩
      (refine sy1 ?_; try exact True.intro)
      (refine go0 ?_; try exact True.intro)
      refine W_cond (by rfl) (fun _ => ?_) (fun h => by cases h)
      (refine go0 ?_; try exact True.intro)
      refine W_ret ?_
      refine ⟨_, _, rfl, rfl, ⟨_, _, rfl, by simp [doneL], ?_⟩⟩
      rw [us q]
      simp (maxSteps := 400000) (disch := omega) only [push_cast, ↓reduceIte, reduceCtorEq, Nat.reduceAdd, Nat.reduceSub, Nat.reduceEqDiff, Nat.reduceLeDiff, Nat.reduceLT, Nat.reduceBEq, Nat.reduceDiv, Nat.reduceMod, Nat.reducePow, Nat.reduceMul, Int.reduceToNat, Int.reduceLT, Int.reduceLE, doneL, EndP]
      exact ⟨[_], ⟨⟨by simp, rfl⟩, rfl⟩, rfl⟩
    · have qb : decide (n < f k) = false := decide_eq_false q
      (refine gofc (ad3 Nat.mul_one Nat.zero_add qb) c47 ?_; try exact True.intro)
      refine StopC.yld (fun hpc => absurd hpc (by simp [Sy.pc])) (fun hpc => ?_)
      (refine sy1 ?_; try exact True.intro)
      (refine go0 ?_; try exact True.intro)
      refine W_cond (by rfl) (fun h => by cases h) (fun _ => ?_)
      (refine go0 ?_; try exact True.intro)
      refine ⟨k + 1, ⟨by omega, up_all hall (by rw [← hnl]; omega)⟩, by omega, by rfl, ?_⟩
      (refine syE ?_; try exact True.intro)
  · have e : usB m f l road = true := usN_iff.2 (fun j hj => hall j (by omega))
    rw [e]
    (refine go0 ?_; try exact True.intro)
    refine ⟨_, _, rfl, rfl, ⟨_, _, rfl, by rw [hR.st]; simp, ?_⟩⟩
    rw [hR.pe]
    (refine syN ?_; try exact True.intro)
    (refine go0 ?_; try exact True.intro)
    exact W_ret ⟨[_], ⟨⟨by simp, rfl⟩, rfl⟩, rfl⟩
theorem fn52 (m : Mp) (f : Nat → Int) (s : Nat) : Sy.Fn Tryz.prog 52 [aAt m f, uv s] (.clo 79 [] [.fp (cAt m f) 0, .fp [uv s] 0]) := by
  refine Fn_of_W mixed Xt52 rfl ?_
  (refine go0 ?_; try exact True.intro)
  exact W_ret ⟨[_], ⟨rfl, rfl⟩, rfl⟩
theorem fn79 (m : Mp) (f : Nat → Int) (l : List Int) (s : Nat) (road : Nat) (h : OkM m) (hs : SetW m l s) (hr : road < m.rs.length) : Sy.Fn Tryz.prog 79 [iv road, .fp (cAt m f) 0, .fp [uv s] 0] (iv (edB m (usB m f l) road).c) := by
  refine Fn_of_W mixed Xt79 rfl ?_
  have hgr : m.rs.getD road dR = gr m road := rfl
  have e : (edB m (usB m f l) road).c = if usB m f l road = true then (gr m road).c else -1 := rfl
  rw [e]
  (refine go_c (fn11 m f l s road h hs hr) ?_; try exact True.intro)
  cases usB m f l road
  · refine W_cond (by rfl) (fun _ => ?_) (fun h => by cases h)
    (refine go0 ?_; try exact True.intro)
    exact W_ret ⟨[_], ⟨rfl, rfl⟩, rfl⟩
  · refine W_cond (by rfl) (fun h => by cases h) (fun _ => ?_)
    (refine gof hgr ?_; try exact True.intro)
    exact W_ret ⟨[_], ⟨rfl, rfl⟩, rfl⟩
def tbl (n : Nat) (g : Nat → Int) : List Int := (List.range n).map g
theorem tbl_len (n : Nat) (g : Nat → Int) : (tbl n g).length = n := by simp [tbl]
theorem tbl_at {n j : Nat} (g : Nat → Int) (h : j < n) : (tbl n g).getD j 0 = g j := by simp [tbl, List.getD, h]
theorem tbl_congr {n : Nat} {g h : Nat → Int} (hh : ∀ i, i < n → g i = h i) : tbl n g = tbl n h := List.map_congr_left (fun i hi => hh i (List.mem_range.1 hi))
theorem tbl_set {n j : Nat} {g h : Nat → Int} {v : Int} (hj : h j = v) (hh : ∀ i, i < n → i ≠ j → g i = h i) : (tbl n g).set j v = tbl n h := by
  apply List.ext_getElem (by rw [List.length_set, tbl_len, tbl_len])
  intro i h1 h2
  rw [tbl_len] at h2
  rw [List.getElem_set]
  split
  · rename_i q; subst q; rw [← hj]; simp [tbl]
  · rename_i q
    simp only [tbl, List.getElem_map, List.getElem_range]
    exact hh i h2 (fun e => q e.symm)
theorem tbl_rep (n : Nat) (v : Int) : tbl n (fun _ => v) = List.replicate n v := by
  unfold tbl
  rw [List.eq_replicate_iff]
  refine ⟨by simp, fun b hb => ?_⟩
  obtain ⟨i, _, rfl⟩ := List.mem_map.1 hb
  rfl
def upT (g : Nat → Int) (j i : Nat) : Int := if i < j then g i else 0
theorem upT_zero (g : Nat → Int) (n : Nat) : tbl n (upT g 0) = List.replicate n 0 := by
  rw [← tbl_rep]
  exact tbl_congr (fun i _ => by unfold upT; rw [if_neg (by omega)])
theorem upT_set (g : Nat → Int) {j n : Nat} : (tbl n (upT g j)).set j (g j) = tbl n (upT g (j + 1)) := tbl_set (by unfold upT; rw [if_pos (by omega)]) (fun i _ hi => by
  unfold upT
  by_cases r : i < j
  · rw [if_pos r, if_pos (by omega)]
  · rw [if_neg r, if_neg (by omega)])
theorem upT_all (g : Nat → Int) (n : Nat) : tbl n (upT g n) = tbl n g := tbl_congr (fun i hi => by unfold upT; rw [if_pos hi])
def edC (m : Mp) (bk : Bool) (c : Nat → Int) (i : Nat) : Edg := if bk = true then ⟨(gr m i).t.toNat, (gr m i).f.toNat, c i⟩ else ⟨(gr m i).f.toNat, (gr m i).t.toNat, c i⟩
def edgC (m : Mp) (bk : Bool) (c : Nat → Int) : List Edg := (List.range m.rs.length).map (edC m bk c)
theorem edgC_ok {m : Mp} (h : OkM m) (bk : Bool) {c : Nat → Int} (hc : ∀ i, i < m.rs.length → 0 ≤ c i → 1 ≤ c i) : (∀ e ∈ edgC m bk c, e.x < m.n.toNat ∧ e.y < m.n.toNat) ∧ ∀ e ∈ edgC m bk c, 0 ≤ e.c → 1 ≤ e.c := by
  constructor
  · intro e he
    obtain ⟨i, hi, rfl⟩ := List.mem_map.1 he
    have hr := roadB_ok (h.r i (List.mem_range.1 hi))
    have := hr.f
    have := hr.t
    unfold edC
    split
    · constructor
      · show (gr m i).t.toNat < _; omega
      · show (gr m i).f.toNat < _; omega
    · constructor
      · show (gr m i).f.toNat < _; omega
      · show (gr m i).t.toNat < _; omega
  · intro e he h0
    obtain ⟨i, hi, rfl⟩ := List.mem_map.1 he
    have hi := List.mem_range.1 hi
    have e : (edC m bk c i).c = c i := by unfold edC; split <;> rfl
    rw [e] at h0 ⊢
    exact hc i hi h0
theorem take_edC {m : Mp} {bk : Bool} {c : Nat → Int} {i : Nat} (h : i < m.rs.length) : (edgC m bk c).take (i + 1) = (edgC m bk c).take i ++ [edC m bk c i] := by
  rw [List.take_succ_eq_append_getElem (by simp [edgC]; exact h)]
  simp [edgC]
theorem pas_snoc (o : List Int) (es : List Edg) (e : Edg) : pas o (es ++ [e]) = stp (pas o es) e := by
  unfold pas
  rw [List.foldl_append]; rfl
def dstC (m : Mp) (bk : Bool) (c : Nat → Int) (a : Int) : List Int := dst (edgC m bk c) m.n.toNat a.toNat
theorem w51 (m : Mp) (f : Nat → Int) (a : Int) (bk : Bool) (g : Nat) (fi ca : List AV) (c : Nat → Int) (h : OkM m) (ha : 0 ≤ a ∧ a < m.n) (hc : ∀ i, i < m.rs.length → 0 ≤ c i → 1 ≤ c i) (hcb : ∀ i, i < m.rs.length → -1099511627776 ≤ c i ∧ c i ≤ 1099511627776)
    (hg : ∀ i, i < m.rs.length → Sy.Fn Tryz.prog g (fi ++ [iv (i : Nat)] ++ ca) (iv (c i))) : W Tryz.prog 102 Xn51_0 (init [aAt m f, iv a, bv bk, .clo g fi ca]) (FinO [.t 8] 2 1 0 cI (dstC m bk c a)) := by
  have hn := h.n
  have hnr := h.nr
  obtain ⟨n, hnn⟩ : ∃ n : Nat, m.n = n := ⟨m.n.toNat, by omega⟩
  (refine gof hnn ?_; try exact True.intro)
  refine ⟨rfl, ⟨by omega, by omega, by omega⟩, Int, 0, cI, 0, rfl, rfl, by omega, rfl, ?_⟩
  (refine syf Int.toNat_natCast ?_; try exact True.intro)
  repeat' (first | refine w1g ?_ | refine w1l ?_ | refine w1q ?_ | refine w1b ?_ | refine w1p ?_ | ((first | refine w1r ?_ | refine w1k ?_ | refine w1e ?_); simp (maxSteps := 400000) (disch := omega) only [push_cast, ↓reduceIte, reduceCtorEq, Nat.reduceAdd, Nat.reduceSub, Nat.reduceEqDiff, Nat.reduceLeDiff, Nat.reduceLT, Nat.reduceBEq, Nat.reduceDiv, Nat.reduceMod, Nat.reducePow, Nat.reduceMul, Int.reduceToNat, Int.reduceLT, Int.reduceLE, List.length_replicate]) | refine an2 ?_ | fail)
  refine W_loopU (fun j : Nat => [(25, iv j)]) (fun j => [(5, .row 0 2 1 0 cI (tbl n (upT (fun _ => far) j)))]) (fun j => j ≤ n) (fun j => n - j) 0 (by omega) (by rfl) (by rw [upT_zero]; rfl) (fun j hj => ?_)
  have tl := tbl_len n (upT (fun _ => far) j)
  (refine sy1 ?_; try exact True.intro)
  (refine go0 ?_; try exact True.intro)
  refine W_condD (by rfl) (fun h5 => ?_) (fun h5 => ?_)
  · have e3 := upT_set (fun _ => far) (j := j) (n := n)
    (refine gof tl ?_; try exact True.intro)
    refine ⟨rfl, ⟨Nat.le_of_ble_eq_true rfl, rfl⟩, by omega, far, rfl, rfl, ?_⟩
    rw [e3]
    (refine sy1 ?_; try exact True.intro)
    (refine go0 ?_; try exact True.intro)
    refine ⟨j + 1, by omega, by omega, by rfl, ?_⟩
    (refine syE ?_; try exact True.intro)
  have hjn : j = n := by omega
  subst hjn
  have ea : (a.toNat : Int) = a := by omega
  have ei : (tbl j (upT (fun _ => far) j)).set a.toNat 0 = ini j a.toNat := by rw [upT_all, tbl_rep]; rfl
  (refine gof tl ?_; try exact True.intro)
  refine ⟨rfl, ⟨Nat.le_of_ble_eq_true rfl, rfl⟩, by omega, 0, rfl, rfl, ?_⟩
  rw [ei]
  (refine sy1 ?_; try exact True.intro)
  (refine go0 ?_; try exact True.intro)
  refine ⟨rfl, ⟨by omega, by omega, by omega⟩, Int, 0, cI, 0, rfl, rfl, by omega, rfl, ?_⟩
  (refine syf Int.toNat_natCast ?_; try exact True.intro)
  repeat' (first | refine w1g ?_ | refine w1l ?_ | refine w1q ?_ | refine w1b ?_ | refine w1p ?_ | ((first | refine w1r ?_ | refine w1k ?_ | refine w1e ?_); simp (maxSteps := 400000) (disch := omega) only [push_cast, ↓reduceIte, reduceCtorEq, Nat.reduceAdd, Nat.reduceSub, Nat.reduceEqDiff, Nat.reduceLeDiff, Nat.reduceLT, Nat.reduceBEq, Nat.reduceDiv, Nat.reduceMod, Nat.reducePow, Nat.reduceMul, Int.reduceToNat, Int.reduceLT, Int.reduceLE, List.length_replicate]) | refine an2 ?_ | fail)
  refine W_loopU (fun i : Nat => [(42, iv i)]) (fun i => [(19, .row 0 2 1 0 cI (tbl m.rs.length (upT c i)))]) (fun i => i ≤ m.rs.length) (fun i => m.rs.length - i) 0 (by omega) (by rfl) (by rw [upT_zero]; rfl) (fun i hi => ?_)
  have tc := tbl_len m.rs.length (upT c i)
  (refine sy1 ?_; try exact True.intro)
  (refine go0 ?_; try exact True.intro)
  refine W_condD (by rfl) (fun h6 => ?_) (fun h6 => ?_)
  · have hlt : i < m.rs.length := by omega
    have e3 := upT_set c (j := i) (n := m.rs.length)
    have cg := hg i hlt
    (refine gofc tc cg ?_; try exact True.intro)
    refine ⟨rfl, ⟨Nat.le_of_ble_eq_true rfl, rfl⟩, by omega, c i, rfl, rfl, ?_⟩
    rw [e3]
    (refine sy1 ?_; try exact True.intro)
    (refine go0 ?_; try exact True.intro)
    refine ⟨i + 1, by omega, by omega, by rfl, ?_⟩
    (refine syE ?_; try exact True.intro)
  have hin : i = m.rs.length := by omega
  rw [hin, upT_all]
  clear tc tl ei h5 hj h6 hi
  obtain ⟨es, hes⟩ : ∃ es, es = edgC m bk c := ⟨_, rfl⟩
  obtain ⟨k1, k2⟩ := edgC_ok h bk hc
  rw [← hes, hnn, Int.toNat_natCast] at k1
  rw [← hes] at k2
  have hsj : a.toNat < j := by omega
  have hres : dstC m bk c a = dst es j a.toNat := by unfold dstC; rw [← hes, hnn, Int.toNat_natCast]
  rw [hres]
  (refine go0 ?_; try exact True.intro)
  refine W_loopU (fun u : List Int × Bool => [(13, bv u.2)]) (fun u => [(5, .row 0 2 1 0 cI u.1)]) (fun u => Dst es a.toNat j u.1 ∧ (u.2 = false → ∀ e ∈ es, stp u.1 e = u.1)) (fun u => 2 * (tot u.1).toNat + (if u.2 = true then 1 else 0)) (ini j a.toNat, true) ⟨ini_dst hsj, fun q => by cases q⟩ (by rfl) (by rfl) (fun u hu => ?_)
  obtain ⟨o, ch⟩ := u
  obtain ⟨hd, hch⟩ := hu
  dsimp only at hd hch ⊢
  have lo := hd.len
  have gI : ∀ (l : List Int) i, l.getD i 0 = gi l i := fun _ _ => rfl
  (refine sy1 ?_; try exact True.intro)
  (refine go0 ?_; try exact True.intro)
  refine W_cond (by rfl) (fun hb => ?_) (fun hb => ?_)
  · subst hb
    (refine go0 ?_; try exact True.intro)
    refine W_loopU (fun v : Nat × Bool => [(13, bv v.2), (57, iv v.1)]) (fun v => [(5, .row 0 2 1 0 cI (pas o (es.take v.1)))]) (fun v => v.1 ≤ m.rs.length ∧ (v.2 = true → tot (pas o (es.take v.1)) < tot o) ∧ (v.2 = false → ∀ e ∈ es.take v.1, stp o e = o)) (fun v => m.rs.length - v.1) (0, false) ⟨Nat.zero_le _, (fun q => absurd q (by decide)), fun _ e he => by rw [List.take_zero] at he; cases he⟩ (by rfl) (by rfl) (fun v hv => ?_)
    obtain ⟨i, cv⟩ := v
    obtain ⟨hi, hv1, hv2⟩ := hv
    dsimp only at hi hv1 hv2 ⊢
    (refine sy1 ?_; try exact True.intro)
    (refine go0 ?_; try exact True.intro)
    refine W_condD (by rfl) (fun h6 => ?_) (fun h6 => ?_)
    · have hlt : i < m.rs.length := by omega
      have hgr : m.rs.getD i dR = gr m i := rfl
      have e3 : es.take (i + 1) = es.take i ++ [edC m bk c i] := by rw [hes]; exact take_edC hlt
      have e4 : pas o (es.take (i + 1)) = stp (pas o (es.take i)) (edC m bk c i) := by rw [e3, pas_snoc]
      have hci := tbl_at c hlt
      have hcb := hcb i hlt
      repeat' (first | refine w1g ?_ | refine w1l ?_ | refine w1q ?_ | refine w1b ?_ | refine w1p ?_ | ((first | refine w1r ?_ | refine w1k ?_ | refine w1e ?_); simp (maxSteps := 400000) (disch := omega) only [push_cast, ↓reduceIte, reduceCtorEq, Nat.reduceAdd, Nat.reduceSub, Nat.reduceEqDiff, Nat.reduceLeDiff, Nat.reduceLT, Nat.reduceBEq, Nat.reduceDiv, Nat.reduceMod, Nat.reducePow, Nat.reduceMul, Int.reduceToNat, Int.reduceLT, Int.reduceLE, hgr, hci, tbl_len]) | refine an2 ?_ | fail)
      have hdu := pas_dst k1 (es.take i) o (fun e he => List.mem_of_mem_take he) hd
      have hel : edC m bk c i ∈ es := by rw [hes]; exact List.mem_map.2 ⟨i, List.mem_range.2 hlt, rfl⟩
      obtain ⟨X, hX⟩ : ∃ X, X = if bk = true then (gr m i).t else (gr m i).f := ⟨_, rfl⟩
      obtain ⟨Y, hY⟩ : ∃ Y, Y = if bk = true then (gr m i).f else (gr m i).t := ⟨_, rfl⟩
      have hr := roadB_ok (h.r i hlt)
      have hXr : 0 ≤ X ∧ X < j := by have := hr.f; have := hr.t; rw [hX]; split <;> omega
      have hYr : 0 ≤ Y ∧ Y < j := by have := hr.f; have := hr.t; rw [hY]; split <;> omega
      have hex : (edC m bk c i).x = X.toNat := by unfold edC; rw [hX]; split <;> rfl
      have hey : (edC m bk c i).y = Y.toNat := by unfold edC; rw [hY]; split <;> rfl
      have hec : (edC m bk c i).c = c i := by unfold edC; split <;> rfl
      have htk : ∀ e ∈ es.take (i + 1), e ∈ es.take i ∨ e = edC m bk c i := fun e he => by
        rw [e3] at he
        rcases List.mem_append.1 he with he | he
        · exact .inl he
        · exact .inr (List.mem_singleton.1 he)
      have hsame : cv = false → pas o (es.take i) = o := fun q => pas_same _ _ (hv2 q)
      generalize edC m bk c i = e at *
      have hst : ∀ z, stp z e = if 0 ≤ c i ∧ gi z X.toNat < far ∧ gi z X.toNat + c i < gi z Y.toNat then z.set Y.toNat (gi z X.toNat + c i) else z := fun z => by unfold stp; rw [hec, hex, hey]
      have hux := hdu.le (y := X.toNat) (by omega)
      have huy := hdu.le (y := Y.toNat) (by omega)
      have hux2 : gi (pas o (es.take i)) X.toNat ≤ 1125899906842624 := hux.2
      have huy2 : gi (pas o (es.take i)) Y.toNat ≤ 1125899906842624 := huy.2
      have hlu := hdu.len
      have htot := stp_tot (pas o (es.take i)) e (by rw [hey]; omega)
      have hto := pas_tot (es.take i) o (fun e he => by rw [lo]; exact (k1 e (List.mem_of_mem_take he)).2)
      generalize pas o (es.take i) = u at *
      refine W_condD (by rfl) (fun h7 => ?_) (fun h7 => ?_)
      · have hz : ∀ z, stp z e = z := fun z => by rw [hst, if_neg (by omega)]
        (refine go0 ?_; try exact True.intro)
        refine ⟨(i + 1, cv), ⟨by dsimp only; omega, fun q => by dsimp only at q ⊢; rw [e4, hz]; exact hv1 q, fun q e' he' => ?_⟩, by dsimp only; omega, by rfl, ?_⟩
        · rcases htk e' he' with he' | rfl
          · exact hv2 q e' he'
          · exact hz o
        dsimp only
        rw [e4, hz]
        (refine syE ?_; try exact True.intro)
      (refine go0 ?_; try exact True.intro)
      refine W_meet [(16, iv X), (17, iv Y)] [] ?_ ?_
      · refine W_cond (by rfl) (fun hb => ?_) (fun hb => ?_)
        · rw [hX, hY, hb, if_pos rfl, if_pos rfl]
          (refine go0 ?_; try exact True.intro)
          first | exact ⟨rfl, by rfl⟩ | rfl
        · rw [hX, hY, hb, if_neg (by decide), if_neg (by decide)]
          (refine go0 ?_; try exact True.intro)
          first | exact ⟨rfl, by rfl⟩ | rfl
      (refine sy1 ?_; try exact True.intro)
      repeat' (first | refine w1g ?_ | refine w1l ?_ | refine w1q ?_ | refine w1b ?_ | refine w1p ?_ | ((first | refine w1r ?_ | refine w1k ?_ | refine w1e ?_); simp (maxSteps := 400000) (disch := omega) only [push_cast, ↓reduceIte, reduceCtorEq, Nat.reduceAdd, Nat.reduceSub, Nat.reduceEqDiff, Nat.reduceLeDiff, Nat.reduceLT, Nat.reduceBEq, Nat.reduceDiv, Nat.reduceMod, Nat.reducePow, Nat.reduceMul, Int.reduceToNat, Int.reduceLT, Int.reduceLE, gI, hci, tbl_len, hlu]) | refine an2 ?_ | fail)
      refine W_cond (by rfl) (fun h8 => ?_) (fun h8 => ?_)
      · rw [Bool.and_eq_true, decide_eq_true_eq, decide_eq_true_eq] at h8
        have hs1 : stp u e = u.set Y.toNat (gi u X.toNat + c i) := by rw [hst, if_pos ⟨by omega, h8.1, h8.2⟩]
        have ht1 : tot (stp u e) < tot u := by
          rcases Int.lt_or_eq_of_le htot.1 with q | q
          · exact q
          · have q2 := htot.2 q
            rw [hs1] at q2
            have q3 : gi (u.set Y.toNat (gi u X.toNat + c i)) Y.toNat = gi u Y.toNat := by rw [q2]
            rw [gi_set (by omega), if_pos rfl] at q3
            omega
        repeat' (first | refine w1g ?_ | refine w1l ?_ | refine w1q ?_ | refine w1b ?_ | refine w1p ?_ | ((first | refine w1r ?_ | refine w1k ?_ | refine w1e ?_); simp (maxSteps := 400000) (disch := omega) only [push_cast, ↓reduceIte, reduceCtorEq, Nat.reduceAdd, Nat.reduceSub, Nat.reduceEqDiff, Nat.reduceLeDiff, Nat.reduceLT, Nat.reduceBEq, Nat.reduceDiv, Nat.reduceMod, Nat.reducePow, Nat.reduceMul, Int.reduceToNat, Int.reduceLT, Int.reduceLE, tbl_len, hlu]) | refine an2 ?_ | fail)
        refine ⟨rfl, ⟨Nat.le_of_ble_eq_true rfl, rfl⟩, by omega, gi u X.toNat + c i, rfl, rfl, ?_⟩
        rw [← hs1, ← e4]
        (refine sy1 ?_; try exact True.intro)
        (refine go0 ?_; try exact True.intro)
        refine ⟨(i + 1, true), ⟨by dsimp only; omega, fun _ => by dsimp only; rw [e4]; omega, fun q => absurd (show true = false from q) (by decide)⟩, by dsimp only; omega, by rfl, ?_⟩
        (refine syE ?_; try exact True.intro)
      · have hz : stp u e = u := by
          rw [hst, if_neg]
          rintro ⟨q1, q2, q3⟩
          have q2 : gi u X.toNat < 1125899906842624 := q2
          rw [decide_eq_true q2, decide_eq_true q3] at h8
          cases h8
        (refine go0 ?_; try exact True.intro)
        refine ⟨(i + 1, cv), ⟨by dsimp only; omega, fun q => by dsimp only at q ⊢; rw [e4, hz]; exact hv1 q, fun q e' he' => ?_⟩, by dsimp only; omega, by rfl, ?_⟩
        · rcases htk e' he' with he' | rfl
          · exact hv2 q e' he'
          · rw [hsame q] at hz
            exact hz
        dsimp only
        rw [e4, hz]
        (refine syE ?_; try exact True.intro)
    · have hin2 : i = m.rs.length := by omega
      have hall : es.take i = es := by rw [hin2, hes]; exact List.take_of_length_le (by simp [edgC])
      rw [hall] at hv1 hv2 ⊢
      have hdp := pas_dst k1 es o (fun e he => he) hd
      have hnn1 := tot_nn (pas o es) (fun q hq => (hdp.le (by rw [hdp.len] at hq; exact hq)).1)
      (refine go0 ?_; try exact True.intro)
      refine ⟨(pas o es, cv), ⟨hdp, fun q => ?_⟩, ?_, by rfl, ?_⟩
      · dsimp only at q ⊢
        have := hv2 q
        rw [pas_same es o this]
        exact this
      · dsimp only
        cases cv with
        | true =>
          have := hv1 rfl
          simp only [if_true]
          omega
        | false =>
          rw [pas_same es o (hv2 rfl)]
          simp
      (refine syE ?_; try exact True.intro)
  · have hfix := fix_stp (fun e he => by rw [lo]; exact (k1 e he).2) (hch hb)
    have hfin : o = dst es j a.toNat := dst_ext k1 hd hfix (dst_dst k1 hsj) (dst_fix k1 k2 hsj)
    rw [← hfin]
    (refine go0 ?_; try exact True.intro)
    exact W_ret ⟨_, _, ⟨rfl, rfl⟩, rfl⟩
theorem fn51 (m : Mp) (f : Nat → Int) (a : Int) (bk : Bool) (g : Nat) (fi ca : List AV) (c : Nat → Int) (h : OkM m) (ha : 0 ≤ a ∧ a < m.n) (hc : ∀ i, i < m.rs.length → 0 ≤ c i → 1 ≤ c i) (hcb : ∀ i, i < m.rs.length → -1099511627776 ≤ c i ∧ c i ≤ 1099511627776)
    (hg : ∀ i, i < m.rs.length → Sy.Fn Tryz.prog g (fi ++ [iv (i : Nat)] ++ ca) (iv (c i))) : Sy.Fn Tryz.prog 51 [aAt m f, iv a, bv bk, .clo g fi ca] (aI (dstC m bk c a)) := by
  exact Fn_of_W mixed Xt51 rfl (W_mono' (w51 m f a bk g fi ca c h ha hc hcb hg) fin_of_finO)
end Go.Proofs.YtlahcoaofbpinaaGreat.R
namespace Go.Proofs.YtlahcoaofbpinaaGreat.R
set_option linter.unusedVariables false
def msk (l : List Int) : Nat := l.foldl (fun s x => s ||| 2 ^ x.toNat) 0
theorem msk_snoc (l : List Int) (i : Nat) : msk (l ++ [(i : Int)]) = msk l ||| 2 ^ i := by
  unfold msk; rw [List.foldl_append]; rfl
theorem msk_aux : ∀ (l p : List Int) (s : Nat), BitsOf s p → (∀ x ∈ l, 0 ≤ x) → BitsOf (l.foldl (fun s x => s ||| 2 ^ x.toNat) s) (p ++ l)
  | [], p, s, h, _ => by simpa using h
  | x :: l, p, s, h, hx => by
    have h1 := bits_snoc h x.toNat
    have e : ((x.toNat : Nat) : Int) = x := by have := hx x List.mem_cons_self; omega
    rw [e] at h1
    have := msk_aux l _ _ h1 (fun y hy => hx y (List.mem_cons_of_mem _ hy))
    rwa [List.append_assoc] at this
theorem msk_bits {l : List Int} (h : ∀ x ∈ l, 0 ≤ x) : BitsOf (msk l) l := msk_aux l [] 0 bits_nil h
theorem msk_lt {n : Int} {l : List Int} (h : Srt n 0 l) (hn : n ≤ 10) : msk l < 1024 := by
  have := bits_lt (n := 10) (msk_bits fun x hx => (h.mem x hx).1) (fun x hx => by have := (h.mem x hx).2; omega)
  simpa using this
def bS : Option (List Int × Int) → Nat
  | none => 0
  | some p => msk p.1
def bC : Option (List Int × Int) → Int
  | none => 0
  | some p => p.2
def bF : Option (List Int × Int) → Bool
  | none => false
  | some _ => true
theorem lstep_no {f : List Int → Int} {ok : List Int → Bool} {b : Option (List Int × Int)} {x : List Int} (h : ok x = false ∨ (bF b = true ∧ bC b ≤ f x)) : lstep f ok b x = b := by
  unfold lstep
  by_cases q : ok x = true
  · rw [if_pos q]
    rcases h with h | ⟨h1, h2⟩
    · rw [q] at h; cases h
    · cases b with
      | none => cases h1
      | some p =>
        obtain ⟨y, n⟩ := p
        dsimp only
        rw [if_neg (by show ¬ f x < n; have : bC (some (y, n)) = n := rfl; omega)]
  · rw [if_neg q]
theorem lstep_yes {f : List Int → Int} {ok : List Int → Bool} {b : Option (List Int × Int)} {x : List Int} (h : ok x = true) (h2 : bF b = false ∨ f x < bC b) : lstep f ok b x = some (x, f x) := by
  unfold lstep
  rw [if_pos h]
  cases b with
  | none => rfl
  | some p =>
    obtain ⟨y, n⟩ := p
    rcases h2 with h2 | h2
    · cases h2
    · dsimp only
      rw [if_pos (by have : bC (some (y, n)) = n := rfl; omega)]
end Go.Proofs.YtlahcoaofbpinaaGreat.R
namespace Go.Proofs.YtlahcoaofbpinaaGreat.R
open Go Sy
set_option maxRecDepth 100000
set_option maxHeartbeats 4000000
set_option linter.unusedVariables false
set_option linter.unusedSimpArgs false
theorem fn49 (n : Int) : Sy.Fn Tryz.prog 49 [iv n] (.clo 77 [] [.fp [iv n] 0]) := by
  refine Fn_of_W mixed Xt49 rfl ?_
  (refine go0 ?_; try exact True.intro)
  exact W_ret ⟨[_], ⟨rfl, rfl⟩, rfl⟩
theorem shl_one {j : Nat} (h : j ≤ 9) : IntKind.u64.wrap (1 * 2 ^ min j IntKind.u64.bits) = ((2 ^ j : Nat) : Int) := by
  have : j = 0 ∨ j = 1 ∨ j = 2 ∨ j = 3 ∨ j = 4 ∨ j = 5 ∨ j = 6 ∨ j = 7 ∨ j = 8 ∨ j = 9 := by omega
  rcases this with rfl | rfl | rfl | rfl | rfl | rfl | rfl | rfl | rfl | rfl <;> decide
theorem or_msk {x : List Int} {j : Nat} (h : msk x < 1024) (hj : j ≤ 9) : bits .or .u64 (msk x : Int) (IntKind.u64.wrap (1 * 2 ^ min j IntKind.u64.bits)) = (msk (x ++ [(j : Int)]) : Int) := by
  rw [shl_one hj, msk_snoc]
  have : 2 ^ j ≤ 2 ^ 9 := Nat.pow_le_pow_right (by omega) hj
  exact bits_or_u64_nat _ _ (by omega) (by omega)
theorem walk_inl {ι : Type} (n : Nat) (hn : n ≤ 10) (B : ι → Mem) (step : ι → List Int → ι) (N0 kw l : Nat) (hBas : ∀ b, Bas N0 (B b))
    (hW : ∀ b, lm (B b) kw = some (.cells [.cq 78 [] [.fp [yv l] 0, .fp [iv n] 0, .own kw 0]]))
    (HY : ∀ b x, Srt n 0 x → ∀ tm R nx, Opq N0 R nx → Yl Tryz.prog l [uv (msk x)] ⟨tm, B b ++ R, nx⟩ (MidB N0 nx tm R (fun r B' => r = true ∧ B' = B (step b x)))) :
    ∀ (d i : Nat) (x : List Int), i + d = n → Srt n 0 x → (∀ y ∈ x, y < (i : Int)) → ∀ b tm R nx, Opq N0 R nx →
      Inl Tryz.prog 78 [uv (msk x), iv i, .fp [yv l] 0, .fp [iv n] 0, .own kw 0] ⟨tm, B b ++ R, nx⟩ (MidR N0 nx tm R (fun r B' => r = bv true ∧ B' = B ((x :: brn d x i).foldl step b))) := by
  intro d
  induction d using Nat.strongRecOn with
  | _ d ih =>
  intro i x hi hx hlt b tm R nx hR
  refine Inl_mid mixed Xt78 rfl hR (hBas b) (fun R' nx' hR' => ?_)
  have hWR : ∀ b, lm (B b ++ R') kw = some (.cells [.cq 78 [] [.fp [yv l] 0, .fp [iv n] 0, .own kw 0]]) := fun b => by rw [lm_app, hW]
  (refine sy1 ?_; try exact True.intro)
  (refine gof hWR ?_; try exact True.intro)
  refine StopC.yld (fun hpc => ⟨trivial, Yl_le (HY b x hx _ R' _ (hR'.le (by omega))) (fun r s' hs => ?_)⟩) (fun hpc => absurd trivial hpc)
  obtain ⟨B', _, ⟨rfl, rfl⟩, hl⟩ := hs
  refine ⟨_, ?_, hl⟩
  (refine sy1 ?_; try exact True.intro)
  (refine gof hWR ?_; try exact True.intro)
  refine W_cond (by rfl) (fun h => by cases h) (fun _ => ?_)
  (refine go0 ?_; try exact True.intro)
  refine W_loopM (fun u : Nat × ι => [(8, iv u.1)]) (fun u => B u.2 ++ R') (fun u => i ≤ u.1 ∧ u.1 ≤ n ∧ (brn (n - u.1) x u.1).foldl step u.2 = (x :: brn d x i).foldl step b) (fun u => n - u.1) nx' (fun u _ => hR'.mem (hBas u.2)) (i, step b x) ⟨Nat.le_refl _, by omega, by rw [show n - i = d by omega]; rfl⟩ (by rfl) (by rfl) (fun u hu => ?_)
  obtain ⟨j, c⟩ := u
  obtain ⟨h1, h2, h3⟩ := hu
  dsimp only at h1 h2 h3 ⊢
  (refine sy1 ?_; try exact True.intro)
  (refine go0 ?_; try exact True.intro)
  refine W_condD (by rfl) (fun h5 => ?_) (fun h5 => ?_)
  · have e5 := or_msk (j := j) (msk_lt hx (by omega)) (by omega)
    have hx1 : Srt (n : Int) 0 (x ++ [(j : Int)]) := hx.snoc (by omega) (by omega) (fun y hy => by have := hlt y hy; omega)
    have hx2 : ∀ y ∈ x ++ [(j : Int)], y < ((j + 1 : Nat) : Int) := fun y hy => by
      rcases List.mem_append.1 hy with q | q
      · have := hlt y q; omega
      · rw [List.mem_singleton] at q; omega
    have e6 : ((j + 1 : Nat) : Int) = (j : Int) + 1 := by omega
    obtain ⟨d', hd'⟩ : ∃ d', n - j = d' + 1 := ⟨n - j - 1, by omega⟩
    have hI := ih d' (by omega) (j + 1) (x ++ [(j : Int)]) (by omega) hx1 hx2 c
    rw [e6] at hI
    repeat' (first | refine w1g ?_ | refine w1l ?_ | refine w1q ?_ | refine w1b ?_ | refine w1p ?_ | ((first | refine W_regS 7 (by decide) (by decide) ?_ | refine w1r ?_ | refine w1k ?_ | refine w1e ?_); (refine syf (ad2 hWR e5) ?_; try exact True.intro)) | refine an2 ?_ | fail)
    refine CallC.inl (Inl_le' (hI _ R' _ (hR'.le (by omega))) (fun r s2 hs => ?_))
    obtain ⟨B', _, ⟨rfl, rfl⟩, hl2⟩ := hs
    refine ⟨_, ?_, hl2⟩
    (refine sy1 ?_; try exact True.intro)
    (refine gof hWR ?_; try exact True.intro)
    refine W_cond (by rfl) (fun h => by cases h) (fun _ => ?_)
    (refine go0 ?_; try exact True.intro)
    refine ⟨(j + 1, (((x ++ [(j : Int)]) :: brn d' (x ++ [(j : Int)]) (j + 1)).foldl step c)), ⟨by dsimp only; omega, by dsimp only; omega, ?_⟩, by dsimp only; omega, by rfl, rfl⟩
    dsimp only
    rw [← h3, hd', show n - (j + 1) = d' by omega]
    simp only [brn, List.foldl_append, List.foldl_cons, List.cons_append]
  · have e7 : n - j = 0 := by omega
    rw [e7] at h3
    have h3 : c = (x :: brn d x i).foldl step b := h3
    (refine go0 ?_; try exact True.intro)
    refine W_ret ?_
    exact ⟨[_], _, ⟨rfl, rfl⟩, rfl, hBas _, rfl, by rw [h3]⟩
def tmL (n g : Nat) (fi ca : List AV) : List (Nat × AV) := [(3, .fp [.clo g fi ca] 0), (4, .own 1 0), (5, .own 2 0), (6, .own 3 0), (10, .clo 77 [] [.fp [iv n] 0])]
def memL (n g : Nat) (fi ca : List AV) (vs : Array Value) (lp : Nat) (R : Loop) (b : Option (List Int × Int)) : Mem := [(6, .oth (.fr vs (tmL n g fi ca))), (5, .oth (.lp lp R (tmL n g fi ca))), (1, .cells [uv (bS b)]), (2, .cells [iv (bC b)]), (3, .cells [bv (bF b)]), (8, .cells [.cq 78 [] [.fp [yv lp] 0, .fp [iv n] 0, .own 8 0]])]
theorem fn48 (n : Nat) (hn : n ≤ 10) (g : Nat) (fi ca : List AV) (f : List Int → Int) (ok : List Int → Bool) (hf : ∀ x, Srt n 0 x → -1099511627776000 ≤ f x ∧ f x ≤ 11258999068426240)
    (hg : ∀ x, Srt n 0 x → Sy.Fn Tryz.prog g (fi ++ [uv (msk x)] ++ ca) (.tup [iv (f x), bv (ok x)])) : Sy.Fn Tryz.prog 48 [.clo 77 [] [.fp [iv n] 0], .clo g fi ca] (.tup [uv (bS (leastL f ok (setsM n))), iv (bC (leastL f ok (setsM n))), bv (bF (leastL f ok (setsM n)))]) := by
  refine Fn_of_W mixed Xt48 rfl ?_
  (refine go0 ?_; try exact True.intro)
  refine W_rfn (.inl rfl) (fun lp R hR => Inl_of_W mixed Xt77 rfl (fun vs => ?_))
  (refine sy1 ?_; try exact True.intro)
  (refine go0 ?_; try exact True.intro)
  have HY : ∀ b x, Srt n 0 x → ∀ tm R' nx, Opq 12 R' nx → Yl Tryz.prog lp [uv (msk x)] ⟨tm, memL n g fi ca vs lp R b ++ R', nx⟩ (MidB 12 nx tm R' (fun r B' => r = true ∧ B' = memL n g fi ca vs lp R (lstep f ok b x))) := fun b x hx tm R' nx hO => by
    refine Yl_mid mixed (k := 5) (tml := tmL n g fi ca) hR rfl rfl rfl hO (bas_of rfl) (fun R2 nx2 hO2 => ?_)
    have cg := hg x hx
    unfold memL tmL
    simp (maxSteps := 400000) (disch := omega) only [push_cast, ↓reduceIte, reduceCtorEq, Nat.reduceAdd, Nat.reduceSub, Nat.reduceEqDiff, Nat.reduceLeDiff, Nat.reduceLT, Nat.reduceBEq, Nat.reduceDiv, Nat.reduceMod, Nat.reducePow, Nat.reduceMul, Int.reduceToNat, Int.reduceLT, Int.reduceLE, List.cons_append, List.nil_append]
    (refine go0 ?_; try exact True.intro)
    refine ⟨[_, _, _, _, _, _], _, rfl, rfl, ?_⟩
    (refine sy1 ?_; try exact True.intro)
    (refine go_c cg ?_; try exact True.intro)
    refine W_cond (by rfl) (fun hb => ?_) (fun hb => ?_)
    · have e : lstep f ok b x = some (x, f x) := by
        simp only [Bool.and_eq_true, Bool.or_eq_true, Bool.not_eq_true', decide_eq_true_eq] at hb
        exact lstep_yes hb.1 hb.2
      rw [e]
      (refine go0 ?_; try exact True.intro)
      refine ⟨[_, _, _, _, _, _], _, rfl, bas_of rfl, rfl, rfl, rfl⟩
    · have e : lstep f ok b x = b := by
        refine lstep_no ?_
        cases h1 : ok x
        · exact .inl rfl
        · right
          rw [h1] at hb
          simp only [Bool.true_and, Bool.or_eq_false_iff, Bool.not_eq_false', decide_eq_false_iff_not] at hb
          exact ⟨hb.1, by omega⟩
      rw [e]
      (refine go0 ?_; try exact True.intro)
      refine ⟨[_, _, _, _, _, _], _, rfl, bas_of rfl, rfl, rfl, rfl⟩
  refine CallC.inl (Inl_le' (walk_inl n hn (memL n g fi ca vs lp R) (lstep f ok) 12 8 lp (fun b => bas_of rfl) (fun b => rfl) HY n 0 [] (by omega) trivial (fun y hy => by cases hy) none _ [] 12 (opq_nil 12)) (fun r s' hs => ?_))
  obtain ⟨B', _, ⟨rfl, rfl⟩, hl2⟩ := hs
  refine ⟨_, ?_, hl2⟩
  have el : (([] : List Int) :: brn n [] 0).foldl (lstep f ok) none = leastL f ok (setsM n) := rfl
  rw [el, List.append_nil]
  generalize leastL f ok (setsM n) = X
  unfold memL tmL
  (refine sy1 ?_; try exact True.intro)
  refine ⟨_, _, rfl, rfl, ⟨_, _, rfl, by rw [hR.st]; simp, ?_⟩⟩
  rw [hR.pe]
  (refine syN ?_; try exact True.intro)
  (refine go0 ?_; try exact True.intro)
  exact W_ret ⟨[_, _, _], ⟨⟨by simp, rfl⟩, ⟨by simp, rfl⟩, ⟨by simp, rfl⟩, rfl⟩, rfl⟩
theorem setW_msk {m : Mp} {l : List Int} (h : Srt m.ws.length 0 l) : SetW m l (msk l) := ⟨msk_bits fun x hx => (h.mem x hx).1, h⟩
theorem fn80 (l : List Int) (n : Nat) (hn : n ≤ 10) (hs : Srt n 0 l) : Sy.Fn Tryz.prog 80 [.v (.slice none 0 0), .clo 81 [] [.fp [uv (msk l)] 0]] (aI l) := by
  refine Fn_of_W mixed Xt80 rfl ?_
  obtain ⟨s, hsm⟩ : ∃ s, s = msk l := ⟨_, rfl⟩
  have hb : BitsOf s l := by rw [hsm]; exact msk_bits fun x hx => (hs.mem x hx).1
  have hs1 : s < 1024 := by rw [hsm]; exact msk_lt hs (by omega)
  rw [← hsm]
  (refine go0 ?_; try exact True.intro)
  refine W_rfn (.inl rfl) (fun lp R hR => Inl_of_W mixed Xt81 rfl (fun vs => ?_))
  (refine sy1 ?_; try exact True.intro)
  (refine go0 ?_; try exact True.intro)
  refine W_le (le_adoptC 0 0 3 1 (0 : Int) cI (by omega) _ rfl rfl (by simp)) ?_
  (refine sy1 ?_; try exact True.intro)
  refine W_loopU (fun i : Nat => [(3, iv i)]) (fun i => [(0, .cells [.row 6 (pre l i).length]), (6, .row (pre l i).length 3 1 0 cI (pre l i))]) (fun i => i ≤ 10) (fun i => 11 - i) 0 (by omega) (by rfl) (by rw [pre_zero hs]; rfl) (fun i hi => ?_)
  obtain ⟨q, hq⟩ : ∃ q, q = s / 2 ^ i := ⟨_, rfl⟩
  have e1 := shrS s (i := i) (by omega)
  have e2 := andS (s / 2 ^ i) (div_lt64 hs1 i)
  rw [bits_shr hb i] at e2
  rw [← hq] at e1 e2
  have e4 := pre_succ (i := i) hs
  have hlen : (pre l i).length ≤ 10 := by
    have h1 := hs.len (by omega)
    have h2 := List.length_filter_le (fun x => decide (x < (i : Int))) l
    unfold pre
    omega
  (refine sy1 ?_; try exact True.intro)
  (refine gof e1 ?_; try exact True.intro)
  refine W_cond (by rfl) (fun hb2 => ?_) (fun hb2 => ?_)
  · have hi10 : i < 10 := bits_more hb (by rw [← hq]; intro z; rw [z] at hb2; simp at hb2) (fun x hx => by have := (hs.mem x hx).2; omega)
    by_cases hm : (i : Int) ∈ l
    · rw [if_pos hm] at e2 e4
      have e2 : bits .and .u64 (q : Int) 1 = 1 := e2
      (refine gof (ad2 e1 e2) ?_; try exact True.intro)
      refine StopC.yld (fun hpc => ⟨trivial, Yl_of_W (k := 3) mixed hR rfl rfl rfl (fun vs2 => ?_)⟩) (fun hpc => absurd (by simp [Sy.pc]) hpc)
      (refine sy1 ?_; try exact True.intro)
      (refine go0 ?_; try exact True.intro)
      refine ⟨_, rfl, ?_⟩
      (refine sy1 ?_; try exact True.intro)
      (refine go0 ?_; try exact True.intro)
      refine ⟨rfl, trivial, Int, 0, cI, [(i : Int)], rfl, by omega, fun x _ => ⟨rfl, rfl⟩, rfl, ?_⟩
      (refine sy1 ?_; try exact True.intro)
      refine ⟨rfl, ⟨Nat.le_of_ble_eq_true rfl, rfl⟩, trivial, [(i : Int)], rfl, by first | omega | (simp; omega), by first | omega | (simp; omega), ?_⟩
      (refine sy1 ?_; try exact True.intro)
      refine ⟨_, _, rfl, rfl, ?_⟩
      (refine sy1 ?_; try exact True.intro)
      refine W_cond (by rfl) (fun h => by cases h) (fun _ => ?_)
      (refine go0 ?_; try exact True.intro)
      refine ⟨i + 1, by omega, by omega, by rfl, ?_⟩
      rw [e4, List.length_append]
      (refine syE ?_; try exact True.intro)
    · rw [if_neg hm] at e2 e4
      have e2 : bits .and .u64 (q : Int) 1 = 0 := e2
      have z01 : ((0 : Int) == 1) = false := rfl
      (refine gof (ad3 e1 e2 z01) ?_; try exact True.intro)
      refine StopC.yld (fun hpc => absurd hpc (by simp [Sy.pc])) (fun hpc => ?_)
      (refine sy1 ?_; try exact True.intro)
      (refine go0 ?_; try exact True.intro)
      refine W_cond (by rfl) (fun h => by cases h) (fun _ => ?_)
      (refine go0 ?_; try exact True.intro)
      refine ⟨i + 1, by omega, by omega, by rfl, ?_⟩
      rw [e4, List.append_nil]
      (refine syE ?_; try exact True.intro)
  · have hq0 : s / 2 ^ i = 0 := by
      rw [← hq]
      have := bne_eq_false_iff_eq.1 hb2
      omega
    have hall := pre_all (bits_end hb (fun x hx => (hs.mem x hx).1) hq0)
    rw [hall]
    (refine go0 ?_; try exact True.intro)
    refine ⟨_, _, rfl, rfl, ⟨_, _, rfl, by rw [hR.st]; simp, ?_⟩⟩
    rw [hR.pe]
    (refine syN ?_; try exact True.intro)
    (refine go0 ?_; try exact True.intro)
    refine W_ret ⟨[_], ⟨rfl, rfl⟩, ?_⟩
    (refine syP ?_; try exact True.intro)
theorem fn54 (l : List Int) (n : Nat) (hn : n ≤ 10) (hs : Srt n 0 l) : Sy.Fn Tryz.prog 54 [.clo 81 [] [.fp [uv (msk l)] 0]] (aI l) := by
  refine Fn_of_W mixed Xt54 rfl ?_
  (refine go_c (fn80 l n hn hs) ?_; try exact True.intro)
  exact W_ret ⟨[_], ⟨rfl, rfl⟩, rfl⟩
def cU (m : Mp) (f : Nat → Int) (s : List Int) (i : Nat) : Int := (edB m (usB m f s) i).c
theorem cU_rng {m : Mp} (h : OkM m) (f : Nat → Int) (s : List Int) {i : Nat} (hi : i < m.rs.length) : (0 ≤ cU m f s i → 1 ≤ cU m f s i) ∧ -1 ≤ cU m f s i ∧ cU m f s i ≤ 1073741824 := by
  have hr := (roadB_ok (h.r i hi)).c
  unfold cU edB
  dsimp only
  split <;> omega
def dL (m : Mp) (f : Nat → Int) (s : List Int) (to : Int) : List Int := dstC m true (cU m f s) to
theorem dL_fn (m : Mp) (f : Nat → Int) (s : List Int) (to : Int) (bk : Bool) (h : OkM m) (hs : Srt m.ws.length 0 s) (ht : 0 ≤ to ∧ to < m.n) : Sy.Fn Tryz.prog 51 [aAt m f, iv to, bv bk, .clo 79 [] [.fp (cAt m f) 0, .fp [uv (msk s)] 0]] (aI (dstC m bk (cU m f s) to)) :=
  fn51 m f to bk 79 [] _ (cU m f s) h ht (fun i hi => (cU_rng h f s hi).1) (fun i hi => by have := (cU_rng h f s hi).2; omega) (fun i hi => fn79 m f s (msk s) i h (setW_msk hs) hi)
theorem dL_dst {m : Mp} (h : OkM m) (f : Nat → Int) (s : List Int) (bk : Bool) {to : Int} (ht : 0 ≤ to ∧ to < m.n) : Dst (edgC m bk (cU m f s)) to.toNat m.n.toNat (dstC m bk (cU m f s) to) ∧ Fix (edgC m bk (cU m f s)) (dstC m bk (cU m f s) to) := by
  obtain ⟨k1, k2⟩ := edgC_ok h bk (c := cU m f s) (fun i hi => (cU_rng h f s hi).1)
  exact ⟨dst_dst k1 (by omega), dst_fix k1 k2 (by omega)⟩
theorem dL_rng {m : Mp} (h : OkM m) (f : Nat → Int) (s : List Int) (bk : Bool) {to : Int} (ht : 0 ≤ to ∧ to < m.n) {y : Nat} (hy : y < m.n.toNat) : 0 ≤ gi (dstC m bk (cU m f s) to) y ∧ gi (dstC m bk (cU m f s) to) y ≤ 1125899906842624 := (dL_dst h f s bk ht).1.le hy
theorem dL_len {m : Mp} (h : OkM m) (f : Nat → Int) (s : List Int) (bk : Bool) {to : Int} (ht : 0 ≤ to ∧ to < m.n) : (dstC m bk (cU m f s) to).length = m.n.toNat := (dL_dst h f s bk ht).1.len
def cfS (m : Mp) (f : Nat → Int) (fr to : Int) (s : List Int) : Int := gi (dL m f s to) fr.toNat + costL m s
def okS (m : Mp) (f : Nat → Int) (fr to : Int) (s : List Int) : Bool := decide (gi (dL m f s to) fr.toNat < 1125899906842624)
theorem costL_set {m : Mp} (h : OkM m) {s : List Int} (hs : Srt m.ws.length 0 s) : 0 ≤ costL m s ∧ costL m s ≤ 10737418240 := by
  have h1 := costL_rng h (l := s) (fun x hx => hs.mem x hx)
  have h2 := hs.len (by omega)
  have := h.nw
  have h3 : (s.length : Int) * 1073741824 ≤ 10 * 1073741824 := by omega
  omega
theorem fn50 (m : Mp) (f : Nat → Int) (fr to : Int) (s : List Int) (h : OkM m) (hs : Srt m.ws.length 0 s) (ht : 0 ≤ to ∧ to < m.n) (hf : 0 ≤ fr ∧ fr < m.n) : Sy.Fn Tryz.prog 50 [uv (msk s), .fp (cAt m f) 0, .fp [iv to] 0, .fp [iv fr] 0] (.tup [iv (cfS m f fr to s), bv (okS m f fr to s)]) := by
  refine Fn_of_W mixed Xt50 rfl ?_
  have c51 := dL_fn m f s to true h hs ht
  have c53 := fn53 m f s (msk s) h (setW_msk hs)
  have hr := dL_rng h f s true ht (y := fr.toNat) (by omega)
  have hl := dL_len h f s true ht
  have hc := costL_set h hs
  unfold cfS okS
  have e : dL m f s to = dstC m true (cU m f s) to := rfl
  rw [e]
  generalize dstC m true (cU m f s) to = D at *
  have gI : ∀ (l : List Int) i, l.getD i 0 = gi l i := fun _ _ => rfl
  (refine gofccc gI (fn52 m f (msk s)) c51 c53 ?_; try exact True.intro)
  exact W_ret ⟨[_, _], ⟨rfl, rfl, rfl⟩, rfl⟩
def fstN (p : Nat → Bool) : Nat → Nat → Nat
  | 0, i => i
  | k + 1, i => if p i = true then i else fstN p k (i + 1)
theorem fst_eq {p : Nat → Bool} : ∀ (k i j : Nat), i ≤ j → j < i + k → p j = true → (∀ x, i ≤ x → x < j → p x = false) → fstN p k i = j
  | 0, i, j, h1, h2, _, _ => by omega
  | k + 1, i, j, h1, h2, h3, h4 => by
    simp only [fstN]
    by_cases q : p i = true
    · rw [if_pos q]
      apply Classical.byContradiction
      intro z
      rw [h4 i (Nat.le_refl _) (by omega)] at q
      cases q
    · rw [if_neg q]
      have : i ≠ j := fun e => q (e ▸ h3)
      exact fst_eq k (i + 1) j (by omega) (by omega) h3 (fun x hx hy => h4 x (by omega) hy)
theorem fst_ex {p : Nat → Bool} : ∀ (k i j : Nat), i ≤ j → j < i + k → p j = true → ∃ d, i ≤ d ∧ d < i + k ∧ p d = true ∧ (∀ x, i ≤ x → x < d → p x = false)
  | 0, i, j, h1, h2, _ => by omega
  | k + 1, i, j, h1, h2, h3 => by
    by_cases q : p i = true
    · exact ⟨i, Nat.le_refl _, by omega, q, fun x hx hy => by omega⟩
    · have : i ≠ j := fun e => q (e ▸ h3)
      obtain ⟨d, h4, h5, h6, h7⟩ := fst_ex k (i + 1) j (by omega) (by omega) h3
      refine ⟨d, by omega, by omega, h6, fun x hx hy => ?_⟩
      by_cases e : x = i
      · rw [e]; simpa using q
      · exact h7 x (by omega) hy
def pB (left : List Int) (a : Int) (r : Rd) : Bool := r.f == a && gi left a.toNat == r.c + gi left r.t.toNat
def hitB (m : Mp) (f : Nat → Int) (s left : List Int) (a : Int) (i : Nat) : Bool := usB m f s i && pB left a (gr m i)
def nxt (m : Mp) (f : Nat → Int) (s left : List Int) (a : Int) : Nat := fstN (hitB m f s left a) m.rs.length 0
def wayC (m : Mp) (f : Nat → Int) (s left : List Int) (to : Int) : Nat → Int → List Int
  | 0, _ => []
  | k + 1, a => if a = to then [] else (nxt m f s left a : Int) :: wayC m f s left to k (gr m (nxt m f s left a)).t
def minL (m : Mp) (l : List Int) : Int := l.foldl (fun n x => n + (gr m x.toNat).m) 0
theorem minL_snoc (m : Mp) (l : List Int) (x : Int) : minL m (l ++ [x]) = minL m l + (gr m x.toNat).m := by
  unfold minL; rw [List.foldl_append]; rfl
structure AtW (m : Mp) (f : Nat → Int) (s left : List Int) (to a : Int) : Prop where
  r : 0 ≤ a ∧ a < m.n
  l : 0 ≤ gi left a.toNat ∧ gi left a.toNat < 1125899906842624
theorem hit_ex {m : Mp} {f : Nat → Int} {s : List Int} {to a : Int} (h : OkM m) (ht : 0 ≤ to ∧ to < m.n) (ha : AtW m f s (dL m f s to) to a) (hne : a ≠ to) : ∃ i, i < m.rs.length ∧ hitB m f s (dL m f s to) a i = true := by
  obtain ⟨h1, h2⟩ := dL_dst h f s true ht
  obtain ⟨k1, k2⟩ := edgC_ok h true (c := cU m f s) (fun i hi => (cU_rng h f s hi).1)
  have hl := ha.l
  have hr := ha.r
  rcases last_road k1 h1 h2 (y := a.toNat) (by omega) hl.2 with q | ⟨e, he, h3, h4, h5⟩
  · omega
  · obtain ⟨i, hi, rfl⟩ := List.mem_map.1 he
    have hi := List.mem_range.1 hi
    have ok := roadB_ok (h.r i hi)
    refine ⟨i, hi, ?_⟩
    have e1 : (edC m true (cU m f s) i).y = (gr m i).f.toNat := rfl
    have e2 : (edC m true (cU m f s) i).x = (gr m i).t.toNat := rfl
    have e3 : (edC m true (cU m f s) i).c = cU m f s i := rfl
    rw [e1] at h3
    rw [e2, e3] at h5
    rw [e3] at h4
    have hu : usB m f s i = true := by
      apply Classical.byContradiction
      intro z
      have : cU m f s i = -1 := by unfold cU edB; simp [z]
      omega
    have hc : cU m f s i = (gr m i).c := by unfold cU edB; simp [hu]
    have hf := ok.f
    unfold hitB pB
    rw [hu, Bool.true_and, Bool.and_eq_true, beq_iff_eq, beq_iff_eq]
    refine ⟨by omega, ?_⟩
    rw [hc] at h5
    show gi (dstC m true (cU m f s) to) a.toNat = _ + gi (dstC m true (cU m f s) to) _
    omega
theorem hit_step {m : Mp} {f : Nat → Int} {s : List Int} {to a : Int} (h : OkM m) (ht : 0 ≤ to ∧ to < m.n) (ha : AtW m f s (dL m f s to) to a) {i : Nat} (hi : i < m.rs.length) (hh : hitB m f s (dL m f s to) a i = true) :
    usB m f s i = true ∧ (gr m i).f = a ∧ gi (dL m f s to) a.toNat = (gr m i).c + gi (dL m f s to) (gr m i).t.toNat ∧ AtW m f s (dL m f s to) to (gr m i).t ∧ rk (dL m f s to) m.n.toNat (gr m i).t.toNat < rk (dL m f s to) m.n.toNat a.toNat := by
  have ok := roadB_ok (h.r i hi)
  unfold hitB pB at hh
  rw [Bool.and_eq_true, Bool.and_eq_true, beq_iff_eq, beq_iff_eq] at hh
  obtain ⟨h1, h2, h3⟩ := hh
  have hl := ha.l
  have hc := ok.c
  have htr := ok.t
  have hb := dL_rng h f s true ht (y := (gr m i).t.toNat) (by omega)
  have hb : 0 ≤ gi (dL m f s to) (gr m i).t.toNat ∧ gi (dL m f s to) (gr m i).t.toNat ≤ 1125899906842624 := hb
  refine ⟨h1, h2, h3, ⟨htr, by omega⟩, rk_lt (by omega) (by omega)⟩
theorem nxt_spec {m : Mp} {f : Nat → Int} {s : List Int} {to a : Int} (h : OkM m) (ht : 0 ≤ to ∧ to < m.n) (ha : AtW m f s (dL m f s to) to a) (hne : a ≠ to) :
    nxt m f s (dL m f s to) a < m.rs.length ∧ hitB m f s (dL m f s to) a (nxt m f s (dL m f s to) a) = true ∧ ∀ j, j < nxt m f s (dL m f s to) a → hitB m f s (dL m f s to) a j = false := by
  obtain ⟨i, hi, hh⟩ := hit_ex h ht ha hne
  obtain ⟨d, h1, h2, h3, h4⟩ := fst_ex m.rs.length 0 i (by omega) (by omega) hh
  have e : nxt m f s (dL m f s to) a = d := fst_eq m.rs.length 0 d (by omega) (by omega) h3 h4
  rw [e]
  exact ⟨by omega, h3, fun j hj => h4 j (by omega) hj⟩
def bestS (m : Mp) (f : Nat → Int) (fr to : Int) : Option (List Int × Int) := leastL (cfS m f fr to) (okS m f fr to) (setsM m.ws.length)
def wayS (m : Mp) (f : Nat → Int) (fr to : Int) (s : List Int) : List Int := wayC m f s (dL m f s to) to m.n.toNat fr
def bE : Option (List Int × Int) → Int
  | none => 15
  | some _ => 0
def chV (m : Mp) (f : Nat → Int) (fr to : Int) : Option (List Int × Int) := if opE m f = 0 then (if plB m.n fr = true ∧ plB m.n to = true then bestS m f fr to else none) else none
def chE (m : Mp) (f : Nat → Int) (fr to : Int) : Int := if opE m f = 0 then (if plB m.n fr = true ∧ plB m.n to = true then bE (bestS m f fr to) else 3) else opE m f
theorem leastL_mem {g : List Int → Int} {ok : List Int → Bool} : ∀ (l : List (List Int)) (b : Option (List Int × Int)) {s : List Int} {n : Int}, l.foldl (lstep g ok) b = some (s, n) → b = some (s, n) ∨ (s ∈ l ∧ ok s = true ∧ n = g s)
  | [], b, s, n, h => .inl h
  | x :: l, b, s, n, h => by
    rcases leastL_mem l (lstep g ok b x) h with q | ⟨q1, q2, q3⟩
    · unfold lstep at q
      by_cases c : ok x = true
      · rw [if_pos c] at q
        rcases b with _ | ⟨y, k⟩
        · cases q; exact .inr ⟨List.mem_cons_self, c, rfl⟩
        · dsimp only at q
          split at q
          · cases q; exact .inr ⟨List.mem_cons_self, c, rfl⟩
          · exact .inl q
      · rw [if_neg c] at q
        exact .inl q
    · exact .inr ⟨List.mem_cons_of_mem _ q1, q2, q3⟩
theorem best_some {m : Mp} {f : Nat → Int} {fr to : Int} {s : List Int} {n : Int} (h : bestS m f fr to = some (s, n)) : s ∈ setsM m.ws.length ∧ Srt m.ws.length 0 s ∧ okS m f fr to s = true ∧ n = cfS m f fr to s := by
  rcases leastL_mem _ _ h with q | ⟨q1, q2, q3⟩
  · cases q
  · exact ⟨q1, sets_srt s q1, q2, q3⟩
theorem fn57 (left : List Int) (a : Int) (r : Rd) (ha : 0 ≤ a ∧ a < left.length) (ht : 0 ≤ r.t ∧ r.t < left.length) (hc : 1 ≤ r.c ∧ r.c ≤ 1073741824) (hl : 0 ≤ gi left r.t.toNat ∧ gi left r.t.toNat ≤ 1125899906842624) : Sy.Fn Tryz.prog 57 [.agg (cR r), .fp [iv a] 0, .fp [aI left] 0] (bv (pB left a r)) := by
  refine Fn_of_W mixed Xt57 rfl ?_
  have gI : ∀ (l : List Int) i, l.getD i 0 = gi l i := fun _ _ => rfl
  unfold pB
  cases hb : r.f == a
  · repeat' (first | refine w1g ?_ | refine w1l ?_ | refine w1q ?_ | refine w1b ?_ | refine w1p ?_ | ((first | refine w1r ?_ | refine w1k ?_ | refine w1e ?_); simp (maxSteps := 400000) (disch := omega) only [push_cast, ↓reduceIte, reduceCtorEq, Nat.reduceAdd, Nat.reduceSub, Nat.reduceEqDiff, Nat.reduceLeDiff, Nat.reduceLT, Nat.reduceBEq, Nat.reduceDiv, Nat.reduceMod, Nat.reducePow, Nat.reduceMul, Int.reduceToNat, Int.reduceLT, Int.reduceLE, gI, hb]) | refine an2 ?_ | fail)
    exact W_ret ⟨[_], ⟨rfl, rfl⟩, rfl⟩
  · repeat' (first | refine w1g ?_ | refine w1l ?_ | refine w1q ?_ | refine w1b ?_ | refine w1p ?_ | ((first | refine w1r ?_ | refine w1k ?_ | refine w1e ?_); simp (maxSteps := 400000) (disch := omega) only [push_cast, ↓reduceIte, reduceCtorEq, Nat.reduceAdd, Nat.reduceSub, Nat.reduceEqDiff, Nat.reduceLeDiff, Nat.reduceLT, Nat.reduceBEq, Nat.reduceDiv, Nat.reduceMod, Nat.reducePow, Nat.reduceMul, Int.reduceToNat, Int.reduceLT, Int.reduceLE, gI, hb]) | refine an2 ?_ | fail)
    exact W_ret ⟨[_], ⟨rfl, rfl⟩, rfl⟩
theorem fn58 (left : List Int) (a : Int) (r : Rd) (ha : 0 ≤ a ∧ a < left.length) (ht : 0 ≤ r.t ∧ r.t < left.length) (hc : 1 ≤ r.c ∧ r.c ≤ 1073741824) (hl : 0 ≤ gi left r.t.toNat ∧ gi left r.t.toNat ≤ 1125899906842624) : Sy.Fn Tryz.prog 58 [.agg (cR r), .fp [iv a] 0, .fp [aI left] 0] (bv (pB left a r)) := by
  refine Fn_of_W mixed Xt58 rfl ?_
  have gI : ∀ (l : List Int) i, l.getD i 0 = gi l i := fun _ _ => rfl
  unfold pB
  cases hb : r.f == a
  · repeat' (first | refine w1g ?_ | refine w1l ?_ | refine w1q ?_ | refine w1b ?_ | refine w1p ?_ | ((first | refine w1r ?_ | refine w1k ?_ | refine w1e ?_); simp (maxSteps := 400000) (disch := omega) only [push_cast, ↓reduceIte, reduceCtorEq, Nat.reduceAdd, Nat.reduceSub, Nat.reduceEqDiff, Nat.reduceLeDiff, Nat.reduceLT, Nat.reduceBEq, Nat.reduceDiv, Nat.reduceMod, Nat.reducePow, Nat.reduceMul, Int.reduceToNat, Int.reduceLT, Int.reduceLE, gI, hb]) | refine an2 ?_ | fail)
    exact W_ret ⟨[_], ⟨rfl, rfl⟩, rfl⟩
  · repeat' (first | refine w1g ?_ | refine w1l ?_ | refine w1q ?_ | refine w1b ?_ | refine w1p ?_ | ((first | refine w1r ?_ | refine w1k ?_ | refine w1e ?_); simp (maxSteps := 400000) (disch := omega) only [push_cast, ↓reduceIte, reduceCtorEq, Nat.reduceAdd, Nat.reduceSub, Nat.reduceEqDiff, Nat.reduceLeDiff, Nat.reduceLT, Nat.reduceBEq, Nat.reduceDiv, Nat.reduceMod, Nat.reducePow, Nat.reduceMul, Int.reduceToNat, Int.reduceLT, Int.reduceLE, gI, hb]) | refine an2 ?_ | fail)
    exact W_ret ⟨[_], ⟨rfl, rfl⟩, rfl⟩
def cRt (rs ws : List Int) (c mi : Int) : List AV := [aI rs, aI ws, iv c, iv mi]
def zRt : List AV := [.v (.slice none 0 0), .v (.slice none 0 0), iv 0, iv 0]
def rtC (m : Mp) (f : Nat → Int) (fr to : Int) : Option (List Int × Int) → List AV
  | none => zRt
  | some p => cRt (wayS m f fr to p.1) p.1 p.2 (minL m (wayS m f fr to p.1))
theorem fn30 (m : Mp) (f : Nat → Int) (fr to : Int) (hm : Gm m) : Sy.Fn Tryz.prog 30 [aM m, .agg (c6 f), iv fr, iv to] (.tup [.agg (rtC m f fr to (chV m f fr to)), iv (chE m f fr to)]) := by
  refine Fn_of_W mixed Xt30 rfl ?_
  have c21 := fn21 m f hm
  by_cases h0 : opE m f = 0
  rotate_left
  · have e1 : chV m f fr to = none := by unfold chV; rw [if_neg h0]
    have e2 : chE m f fr to = opE m f := by unfold chE; rw [if_neg h0]
    rw [e1, e2]
    have hv : opV m f = cAt m f ∨ opV m f = zAt := by
      unfold opV
      split
      · exact .inl rfl
      · exact .inr rfl
    generalize opE m f = e at *
    rcases hv with hv | hv
    all_goals
      rw [hv] at c21
      try unfold zAt at c21
      (refine go_c c21 ?_; try exact True.intro)
      refine W_cond (by rfl) (fun h => ?_) (fun h => ?_)
      · (refine go0 ?_; try exact True.intro)
        exact W_ret ⟨[_, _], ⟨⟨by simp, rfl⟩, rfl, rfl⟩, rfl⟩
      · exact absurd (by simpa using h) h0
  have hchk : chkM m = 0 ∧ szE f = 0 := by
    unfold opE at h0
    by_cases q : chkM m = 0
    · rw [if_pos q] at h0; exact ⟨q, h0⟩
    · rw [if_neg q] at h0; exact absurd h0 q
  have hv : opV m f = cAt m f := by unfold opV; rw [if_pos hchk.1]
  have hok := chkM_ok hchk.1
  rw [hv, h0] at c21
  have c23 := fn23 m [fr, to] (by simp)
  have hpl : plsB m [fr, to] = (plB m.n fr && plB m.n to) := by simp [plsB]
  rw [hpl] at c23
  by_cases hp : plB m.n fr = true ∧ plB m.n to = true
  rotate_left
  · have e1 : chV m f fr to = none := by unfold chV; rw [if_pos h0, if_neg hp]
    have e2 : chE m f fr to = 3 := by unfold chE; rw [if_pos h0, if_neg hp]
    have e3 : (plB m.n fr && plB m.n to) = false := by rw [← Bool.not_eq_true, Bool.and_eq_true]; exact hp
    rw [e3] at c23
    rw [e1, e2]
    (refine go_c c21 ?_; try exact True.intro)
    refine W_cond (by rfl) (fun h => by cases h) (fun h => ?_)
    (refine go_c c23 ?_; try exact True.intro)
    refine ⟨rfl, trivial, Int, 0, cI, [fr, to], rfl, by omega, fun x _ => ⟨rfl, rfl⟩, rfl, ?_⟩
    (refine sy1 ?_; try exact True.intro)
    (refine go_g c23 ?_; try exact True.intro)
    refine W_cond (by rfl) (fun h => ?_) (fun h => by cases h)
    (refine go0 ?_; try exact True.intro)
    exact W_ret ⟨[_, _], ⟨⟨by simp, rfl⟩, rfl, rfl⟩, rfl⟩
  have hp1 : (0 ≤ fr ∧ fr < m.n) ∧ (0 ≤ to ∧ to < m.n) := by
    have := hp.1; have := hp.2
    unfold plB at *
    simp only [Bool.and_eq_true, decide_eq_true_eq] at *
    omega
  have e3 : (plB m.n fr && plB m.n to) = true := by rw [hp.1, hp.2]; rfl
  rw [e3] at c23
  have c48 := fn48 m.ws.length hok.nw 50 [] [.fp (cAt m f) 0, .fp [iv to] 0, .fp [iv fr] 0] (cfS m f fr to) (okS m f fr to) (fun x hx => by
    have h1 := costL_set hok hx
    have h2 := dL_rng hok f x true hp1.2 (y := fr.toNat) (by omega)
    have h2 : 0 ≤ gi (dL m f x to) fr.toNat ∧ gi (dL m f x to) fr.toNat ≤ 1125899906842624 := h2
    unfold cfS
    omega) (fun x hx => fn50 m f fr to x hok hx hp1.2 hp1.1)
  have e1 : chV m f fr to = bestS m f fr to := by unfold chV; rw [if_pos h0, if_pos hp]
  have e2 : chE m f fr to = bE (bestS m f fr to) := by unfold chE; rw [if_pos h0, if_pos hp]
  rw [e1, e2]
  have hbs : leastL (cfS m f fr to) (okS m f fr to) (setsM m.ws.length) = bestS m f fr to := rfl
  rw [hbs] at c48
  (refine go_c c21 ?_; try exact True.intro)
  refine W_cond (by rfl) (fun h => by cases h) (fun h => ?_)
  (refine go_c c23 ?_; try exact True.intro)
  refine ⟨rfl, trivial, Int, 0, cI, [fr, to], rfl, by omega, fun x _ => ⟨rfl, rfl⟩, rfl, ?_⟩
  (refine sy1 ?_; try exact True.intro)
  (refine go_g c23 ?_; try exact True.intro)
  refine W_cond (by rfl) (fun h => by cases h) (fun h => ?_)
  (refine go_cg (fun x1 => fn49 x1) c48 ?_; try exact True.intro)
  rcases hb : bestS m f fr to with _ | ⟨s, n⟩
  · refine W_cond (by rfl) (fun h => ?_) (fun h => by cases h)
    (refine go0 ?_; try exact True.intro)
    exact W_ret ⟨[_, _], ⟨⟨by simp, rfl⟩, rfl, rfl⟩, rfl⟩
  obtain ⟨b1, b2, b3, b4⟩ := best_some hb
  have c54 := fn54 s m.ws.length hok.nw b2
  have c51 := dL_fn m f s to true hok b2 hp1.2
  have hl := dL_len hok f s true hp1.2
  have hlr : ∀ y, y < m.n.toNat → 0 ≤ gi (dstC m true (cU m f s) to) y ∧ gi (dstC m true (cU m f s) to) y ≤ 1125899906842624 := fun y hy => dL_rng hok f s true hp1.2 hy
  have hd : dL m f s to = dstC m true (cU m f s) to := rfl
  rw [← hd] at c51 hl hlr
  have hA0 : AtW m f s (dL m f s to) to fr := ⟨hp1.1, (by have := hlr fr.toNat (by omega); omega), (by unfold okS at b3; rw [decide_eq_true_eq] at b3; exact b3)⟩
  refine W_cond (by rfl) (fun h => by cases h) (fun h => ?_)
  (refine go_cc (fun x1 => fn55 x1) c54 ?_; try exact True.intro)
  (refine go_cc (fn52 m f (msk s)) c51 ?_; try exact True.intro)
  have hN := hok.n
  obtain ⟨left, hleft⟩ : ∃ left, left = dL m f s to := ⟨_, rfl⟩
  have hbC : bC (some (s, n)) = n := rfl
  have hbS : bS (some (s, n)) = msk s := rfl
  have hres : rtC m f fr to (some (s, n)) = cRt (wayS m f fr to s) s n (minL m (wayS m f fr to s)) := rfl
  have hway : wayS m f fr to s = wayC m f s left to m.n.toNat fr := by rw [hleft]; rfl
  have hres2 : bE (some (s, n)) = 0 := rfl
  rw [hres, hres2, hway]
  rw [hbC, hbS]
  rw [← hleft] at hl hlr hA0 ⊢
  refine W_le (le_adoptC 45 0 3 1 (0 : Int) cI (by omega) _ rfl rfl (by simp)) ?_
  (refine sy1 ?_; try exact True.intro)
  refine W_loopU (fun u : Nat × Int × List Int => []) (fun u => [(2, .cells [iv u.2.1]), (45, .cells [.row 55 u.2.2.length, aI s, iv n, iv (minL m u.2.2)]), (55, .row u.2.2.length 3 1 0 cI u.2.2)]) (fun u => AtW m f s left to u.2.1 ∧ rk left m.n.toNat u.2.1.toNat ≤ u.1 ∧ u.2.2 ++ wayC m f s left to u.1 u.2.1 = wayC m f s left to m.n.toNat fr ∧ u.2.2.length + u.1 ≤ 64 ∧ 0 ≤ minL m u.2.2 ∧ minL m u.2.2 ≤ 1440 * u.2.2.length) (fun u => u.1) (m.n.toNat, fr, []) ⟨hA0, rk_le _ _ _, List.nil_append _, by simp; omega, by simp [minL], by simp [minL]⟩ (by rfl) (by rfl) (fun u hu => ?_)
  obtain ⟨k, a, acc⟩ := u
  obtain ⟨q1, q2, q3, q4, q5, q6⟩ := hu
  dsimp only at q1 q2 q3 q4 q5 q6 ⊢
  (refine sy1 ?_; try exact True.intro)
  (refine go0 ?_; try exact True.intro)
  refine W_cond (by rfl) (fun hb => ?_) (fun hb => ?_)
  · have hne : a ≠ to := by rw [bne_iff_ne] at hb; exact hb
    rw [hleft] at q1 q2
    obtain ⟨x1, x2, x3⟩ := nxt_spec hok hp1.2 q1 hne
    obtain ⟨y1, y2, y3, y4, y5⟩ := hit_step hok hp1.2 q1 x1 x2
    rw [← hleft] at q1 q2 x1 x2 x3 y1 y2 y3 y4 y5
    have ha := q1.r
    have hcl : ∀ r ∈ m.rs, Sy.Fn Tryz.prog 57 ([] ++ [.agg (cR r)] ++ [.fp [iv a] 0, .fp [aI left] 0]) (bv (pB left a r)) := fun r hr => by
      obtain ⟨i, hi, rfl⟩ := List.mem_iff_getElem.1 hr
      have hri := roadB_ok (hok.r i hi)
      have e : gr m i = m.rs[i] := by simp [gr, List.getD, hi]
      rw [e] at hri
      have := hri.t
      exact fn57 left a _ (by rw [hl]; omega) (by rw [hl]; omega) hri.c (hlr _ (by omega))
    have hnr := hok.nr
    have c56 := fn56 m.rs (by omega) 57 [] [.fp [iv a] 0, .fp [aI left] 0] (pB left a) hcl
    obtain ⟨x, hx⟩ : ∃ x, x = nxt m f s left a := ⟨_, rfl⟩
    rw [← hx] at x1 x2 x3 y1 y2 y3 y4 y5
    have hpx : pB left a (gr m x) = true := by unfold hitB at x2; rw [Bool.and_eq_true] at x2; exact x2.2
    obtain ⟨i0, z1, z2, z3, z4⟩ := fst_ex (p := fun i => pB left a (gr m i)) m.rs.length 0 x (by omega) (by omega) hpx
    have hi0 : idxF (pB left a) m.rs 0 = (i0 : Int) := by
      rw [idxF_at (pB left a) dR m.rs i0 0 (by omega) (fun j hj => z4 j (by omega) hj) z3]; omega
    rw [hi0] at c56
    have hno : ∀ j, pB left a (gr m j) = false → hitB m f s left a j = false := fun j hj => by unfold hitB; rw [hj, Bool.and_false]
    (refine go_g c56 ?_; try exact True.intro)
    refine W_loopU (fun i : Nat => [(18, iv i)]) (fun i => []) (fun i => i < m.rs.length ∧ pB left a (gr m i) = true ∧ ∀ j, j < i → hitB m f s left a j = false) (fun i => m.rs.length - i) i0 ⟨by omega, z3, fun j hj => hno j (z4 j (by omega) hj)⟩ (by rfl) (by rfl) (fun i hi => ?_)
    obtain ⟨w1, w2, w3⟩ := hi
    have c11 := fn11 m f s (msk s) i hok (setW_msk b2) w1
    (refine sy1 ?_; try exact True.intro)
    (refine go_g c11 ?_; try exact True.intro)
    refine W_cond (by rfl) (fun hu => ?_) (fun hu => ?_)
    · have hu : usB m f s i = false := by simpa using hu
      have hix : i < x := by
        rcases Nat.lt_trichotomy i x with q | q | q
        · exact q
        · rw [← q, hu] at y1; cases y1
        · rw [w3 x q] at x2; cases x2
      obtain ⟨i1, v1, v2, v3, v4⟩ := fst_ex (p := fun i => pB left a (gr m i)) (m.rs.length - (i + 1)) (i + 1) x (by omega) (by omega) hpx
      have hgd : ∀ j, (m.rs.drop (i + 1)).getD j dR = gr m (i + 1 + j) := fun j => by simp [gr, List.getD]
      have c56 := fn56 (m.rs.drop (i + 1)) (by rw [List.length_drop]; omega) 58 [] [.fp [iv a] 0, .fp [aI left] 0] (pB left a) (fun r hr => by
        have hr := List.mem_of_mem_drop hr
        obtain ⟨i, hi, rfl⟩ := List.mem_iff_getElem.1 hr
        have hri := roadB_ok (hok.r i hi)
        have e : gr m i = m.rs[i] := by simp [gr, List.getD, hi]
        rw [e] at hri
        have := hri.t
        exact fn58 left a _ (by rw [hl]; omega) (by rw [hl]; omega) hri.c (hlr _ (by omega)))
      have hi1 : idxF (pB left a) (m.rs.drop (i + 1)) 0 = ((i1 - (i + 1) : Nat) : Int) := by
        rw [idxF_at (pB left a) dR (m.rs.drop (i + 1)) (i1 - (i + 1)) 0 (by rw [List.length_drop]; omega) (fun j hj => by rw [hgd]; exact v4 (i + 1 + j) (by omega) (by omega)) (by rw [hgd, show i + 1 + (i1 - (i + 1)) = i1 by omega]; exact v3)]; omega
      rw [hi1] at c56
      (refine go_g c56 ?_; try exact True.intro)
      refine ⟨i1, ⟨by omega, v3, fun j hj => ?_⟩, by omega, by rfl, ?_⟩
      · rcases Nat.lt_trichotomy j i with q | q | q
        · exact w3 j q
        · rw [q]; unfold hitB; rw [hu]; rfl
        · exact hno j (v4 j (by omega) hj)
      · have e : (i : Int) + (1 + ((i1 : Int) - ((i : Int) + 1))) = i1 := by omega
        (refine eqf e ?_; try exact True.intro)
    · have hu : usB m f s i = true := by simpa using hu
      have hhit : hitB m f s left a i = true := by unfold hitB; rw [hu, w2]; rfl
      have hix : i = x := by
        rcases Nat.lt_trichotomy i x with q | q | q
        · rw [x3 i q] at hhit; cases hhit
        · exact q
        · rw [w3 x q] at x2; cases x2
      subst hix
      have hgr : m.rs.getD i dR = gr m i := rfl
      have hm1 := (roadB_ok (hok.r i w1)).m
      have hms : minL m (acc ++ [(i : Int)]) = minL m acc + (gr m i).m := by rw [minL_snoc]; rfl
      obtain ⟨k', hk'⟩ : ∃ k', k = k' + 1 := ⟨k - 1, by omega⟩
      have hw1 : wayC m f s left to k a = (i : Int) :: wayC m f s left to k' (gr m i).t := by
        rw [hk']
        simp only [wayC]
        rw [if_neg hne, ← hx]
      (refine go0 ?_; try exact True.intro)
      refine ⟨rfl, trivial, Int, 0, cI, [(i : Int)], rfl, by omega, fun x _ => ⟨rfl, rfl⟩, rfl, ?_⟩
      (refine sy1 ?_; try exact True.intro)
      refine ⟨rfl, ⟨Nat.le_of_ble_eq_true rfl, rfl⟩, trivial, [(i : Int)], rfl, by first | omega | (simp; omega), by first | omega | (simp; omega), ?_⟩
      (refine sy1 ?_; try exact True.intro)
      (refine gof hgr ?_; try exact True.intro)
      refine ⟨(k', (gr m i).t, acc ++ [(i : Int)]), ⟨y4, by dsimp only; omega, ?_, ?_, ?_, ?_⟩, by dsimp only; omega, by rfl, ?_⟩
      · dsimp only
        rw [← q3, hw1, List.append_assoc]; rfl
      · dsimp only; rw [List.length_append]; simp only [List.length_singleton]; omega
      · dsimp only; rw [hms]; omega
      · dsimp only; rw [hms, List.length_append]; simp only [List.length_singleton]; omega
      · dsimp only
        rw [hms, List.length_append]
        (refine syE ?_; try exact True.intro)
  · have hat : a = to := by simpa using hb
    have hw1 : wayC m f s left to k a = [] := by
      cases k with
      | zero => rfl
      | succ k => simp only [wayC]; rw [if_pos hat]
    rw [hw1, List.append_nil] at q3
    rw [← q3]
    (refine go0 ?_; try exact True.intro)
    refine W_ret ⟨[_, _], ⟨⟨by simp, rfl⟩, rfl, rfl⟩, ?_⟩
    (refine syP ?_; try exact True.intro)
    rfl
def lvT (r : Rd) (t : Int) : Int := (if t % 1440 < r.o then t + (r.o - t % 1440) else if r.z - r.m < t % 1440 then t + (1440 - t % 1440 + r.o) else t) + r.m
theorem lvT_rng {n : Int} {r : Rd} (h : OkR n r) (t : Int) (ht : 0 ≤ t) : t + 1 ≤ lvT r t ∧ lvT r t ≤ t + 4320 := by
  have := h.o; have := h.m
  unfold lvT
  have := Int.emod_nonneg t (show (1440 : Int) ≠ 0 by decide)
  have := Int.emod_lt_of_pos t (show (0 : Int) < 1440 by decide)
  split
  · omega
  · split <;> omega
theorem fn12 (n : Int) (r : Rd) (t : Int) (h : OkR n r) (ht : 0 ≤ t ∧ t ≤ 4398046511104) : Sy.Fn Tryz.prog 12 [.agg (cR r), iv t] (iv (lvT r t)) := by
  refine Fn_of_W mixed Xt12 rfl ?_
  have ho := h.o; have hm := h.m
  have e0 : t.tmod 1440 = t % 1440 := Int.tmod_eq_emod_of_nonneg ht.1
  have h1 := Int.emod_nonneg t (show (1440 : Int) ≠ 0 by decide)
  have h2 := Int.emod_lt_of_pos t (show (0 : Int) < 1440 by decide)
  unfold lvT
  generalize t % 1440 = w at *
  (refine gof e0 ?_; try exact True.intro)
  refine W_condD (by rfl) (fun q => ?_) (fun q => ?_)
  · rw [if_pos q]
    (refine go0 ?_; try exact True.intro)
    exact W_ret ⟨[_], ⟨rfl, rfl⟩, rfl⟩
  · rw [if_neg q]
    (refine go0 ?_; try exact True.intro)
    refine W_condD (by rfl) (fun q => ?_) (fun q => ?_)
    · rw [if_pos q]
      (refine go0 ?_; try exact True.intro)
      exact W_ret ⟨[_], ⟨rfl, rfl⟩, rfl⟩
    · rw [if_neg q]
      (refine go0 ?_; try exact True.intro)
      exact W_ret ⟨[_], ⟨rfl, rfl⟩, rfl⟩
theorem take_snoc {l : List Int} {i : Nat} (h : i < l.length) : l.take (i + 1) = l.take i ++ [gi l i] := by
  rw [List.take_succ_eq_append_getElem h]
  simp [gi, List.getD, h]
def exF (k : Nat) : Int := if k = 1 then 4000 else 0
theorem Srt.more {n n' : Int} (hn : n ≤ n') : ∀ {l : List Int} {lo : Int}, Srt n lo l → Srt n' lo l
  | [], _, _ => trivial
  | x :: l, lo, h => ⟨h.1, by have := h.2.1; omega, Srt.more hn h.2.2⟩
structure Big (m : Mp) : Prop where
  r : m.rs.length ≤ 140737488355328
  w : m.ws.length ≤ 140737488355328
  s : ∀ w ∈ m.ws, w.rs.length ≤ 140737488355328
structure Val (m : Mp) (f : Nat → Int) (fr to : Int) : Prop where
  g : greatB m = false
  c : chkM m = 0
  z : szE f = 0
  f : 0 ≤ fr ∧ fr < m.n
  t : 0 ≤ to ∧ to < m.n
theorem Val.ok {m : Mp} {f : Nat → Int} {fr to : Int} (h : Val m f fr to) : OkM m := chkM_ok h.c
theorem Val.op {m : Mp} {f : Nat → Int} {fr to : Int} (h : Val m f fr to) : opE m f = 0 := by unfold opE; rw [if_pos h.c]; exact h.z
theorem plB_of {n x : Int} (h : 0 ≤ x ∧ x < n) : plB n x = true := by unfold plB; rw [decide_eq_true h.1, decide_eq_true h.2]; rfl
theorem Val.cv {m : Mp} {f : Nat → Int} {fr to : Int} (h : Val m f fr to) : chV m f fr to = bestS m f fr to := by unfold chV; rw [if_pos h.op, if_pos ⟨plB_of h.f, plB_of h.t⟩]
def evL (n : Nat) : List Int := (List.range n).map fun i : Nat => (i : Int)
theorem setB_at {l : List Int} {n : Int} (h : setB l n = true) : ∀ i, i < l.length → lastI l i < gi l i ∧ gi l i < n := fun i hi => by
  unfold setB at h
  rw [List.all_eq_true] at h
  have := h i (List.mem_range.2 hi)
  unfold okAt at this
  rwa [Bool.and_eq_true, decide_eq_true_eq, decide_eq_true_eq] at this
theorem srt_of {n : Int} : ∀ (l : List Int) (lo : Int), (∀ i, i < l.length → (if i = 0 then lo - 1 else gi l (i - 1)) < gi l i ∧ gi l i < n) → Srt n lo l
  | [], lo, _ => trivial
  | x :: l, lo, h => by
    have h0 := h 0 (by simp)
    rw [if_pos rfl] at h0
    have e0 : gi (x :: l) 0 = x := rfl
    rw [e0] at h0
    refine ⟨by omega, h0.2, srt_of l (x + 1) (fun i hi => ?_)⟩
    have h1 := h (i + 1) (by simpa using hi)
    rw [if_neg (by omega)] at h1
    have e1 : gi (x :: l) (i + 1) = gi l i := by simp [gi]
    rw [e1] at h1
    by_cases q : i = 0
    · rw [if_pos q]
      subst q
      have e2 : gi (x :: l) (0 + 1 - 1) = x := rfl
      rw [e2] at h1
      exact ⟨by omega, h1.2⟩
    · rw [if_neg q]
      have e2 : gi (x :: l) (i + 1 - 1) = gi l (i - 1) := by
        obtain ⟨j, rfl⟩ : ∃ j, i = j + 1 := ⟨i - 1, by omega⟩
        simp [gi]
      rw [e2] at h1
      exact h1
theorem setB_srt {l : List Int} {n : Int} (h : setB l n = true) : Srt n 0 l := srt_of l 0 (fun i hi => by
  have := setB_at h i hi
  unfold lastI at this
  split <;> rename_i q
  · rw [if_pos q] at this; omega
  · rw [if_neg q] at this; exact this)
theorem srt_at {n : Int} : ∀ (l : List Int) (lo : Int), Srt n lo l → ∀ i, i < l.length → (if i = 0 then lo - 1 else gi l (i - 1)) < gi l i ∧ gi l i < n
  | [], _, _, i, hi => by simp at hi
  | x :: l, lo, h, 0, _ => by
    rw [if_pos rfl]
    have e0 : gi (x :: l) 0 = x := rfl
    rw [e0]
    have := h.1; have := h.2.1
    omega
  | x :: l, lo, h, i + 1, hi => by
    rw [if_neg (by omega)]
    have h1 := srt_at l (x + 1) h.2.2 i (by simpa using hi)
    have e1 : gi (x :: l) (i + 1) = gi l i := by simp [gi]
    rw [e1]
    by_cases q : i = 0
    · subst q
      rw [if_pos rfl] at h1
      have e2 : gi (x :: l) (0 + 1 - 1) = x := rfl
      rw [e2]
      omega
    · rw [if_neg q] at h1
      have e2 : gi (x :: l) (i + 1 - 1) = gi l (i - 1) := by
        obtain ⟨j, rfl⟩ : ∃ j, i = j + 1 := ⟨i - 1, by omega⟩
        simp [gi]
      rw [e2]
      exact h1
theorem srt_setB {l : List Int} {n : Int} (h : Srt n 0 l) : setB l n = true := by
  unfold setB
  rw [List.all_eq_true]
  intro i hi
  have := srt_at l 0 h i (List.mem_range.1 hi)
  unfold okAt lastI
  rw [Bool.and_eq_true, decide_eq_true_eq, decide_eq_true_eq]
  split <;> rename_i q
  · rw [if_pos q] at this; omega
  · rw [if_neg q] at this; exact this
theorem Wk.pre {es : List Edg} {e : Edg} (he : e ∈ es) (hc : 0 ≤ e.c) {y : Nat} {d : Int} (h : Wk es e.y y d) : Wk es e.x y (e.c + d) := by
  induction h with
  | nil => rw [show e.c + 0 = 0 + e.c by omega]; exact .snoc .nil he hc
  | snoc _ h2 h3 ih => rw [← Int.add_assoc]; exact .snoc ih h2 h3
theorem fn9 (l : List Int) (n : Nat) (hn : n ≤ 10) (hs : Srt n 0 l) : Sy.Fn Tryz.prog 9 [aI l] (uv (msk l)) := by
  refine Fn_of_W mixed Xt9 rfl ?_
  have hl := hs.len (by omega)
  (refine go0 ?_; try exact True.intro)
  refine W_loopU (fun i : Nat => [(3, uv (msk (l.take i))), (8, iv i)]) (fun i => []) (fun i => i ≤ l.length) (fun i => l.length - i) 0 (by omega) (by rfl) (by rfl) (fun i hi => ?_)
  (refine sy1 ?_; try exact True.intro)
  (refine go0 ?_; try exact True.intro)
  refine W_condD (by rfl) (fun h5 => ?_) (fun h5 => ?_)
  · have hlt : i < l.length := by omega
    have hm := hs.mem _ (getD_mem 0 l i hlt)
    obtain ⟨j, hj⟩ : ∃ j : Nat, l.getD i 0 = j := ⟨(l.getD i 0).toNat, by omega⟩
    have htk : l.take (i + 1) = l.take i ++ [(j : Int)] := by rw [take_snoc hlt]; show _ = _; rw [← hj]
    have e5 := or_msk (x := l.take i) (j := j) (by
      have h1 : ∀ x ∈ l.take i, 0 ≤ x ∧ x < n := fun x hx => hs.mem x (List.mem_of_mem_take hx)
      have := bits_lt (n := 10) (msk_bits fun x hx => (h1 x hx).1) (fun x hx => by have := h1 x hx; omega)
      simpa using this) (by omega)
    rw [← htk] at e5
    repeat' (first | refine w1g ?_ | refine w1l ?_ | refine w1q ?_ | refine w1b ?_ | refine w1p ?_ | ((first | refine w1r ?_ | refine w1k ?_ | refine w1e ?_); simp (maxSteps := 400000) (disch := omega) only [push_cast, ↓reduceIte, reduceCtorEq, Nat.reduceAdd, Nat.reduceSub, Nat.reduceEqDiff, Nat.reduceLeDiff, Nat.reduceLT, Nat.reduceBEq, Nat.reduceDiv, Nat.reduceMod, Nat.reducePow, Nat.reduceMul, Int.reduceToNat, Int.reduceLT, Int.reduceLE, hj, e5, Int.toNat_natCast]) | refine an2 ?_ | fail)
    refine ⟨i + 1, by omega, by omega, by rfl, ?_⟩
    (refine syE ?_; try exact True.intro)
  · have hil : i = l.length := by omega
    subst hil
    rw [List.take_length]
    (refine go0 ?_; try exact True.intro)
    exact W_ret ⟨[_], ⟨rfl, rfl⟩, rfl⟩
def cB (x : Bool) : List AV := [bv x]
theorem nB (x : Bool) : nth (cB x) 0 = bv x := rfl
theorem lB (x : Bool) : (cB x).length = 1 := rfl
theorem frB (x : Bool) : frzAll (cB x) = true := rfl
theorem tB (x : Bool) : List.take 1 (List.drop 0 (cB x)) = cB x := rfl
attribute [push_cast] nB lB frB tB
structure Cs where
  r : Int
  k : Int
  l : Int
  n : Int
def cC (c : Cs) : List AV := [iv c.r, iv c.k, iv c.l, iv c.n]
theorem lC (c : Cs) : (cC c).length = 4 := rfl
theorem frC (c : Cs) : frzAll (cC c) = true := rfl
theorem tC (c : Cs) : List.take 4 (List.drop 0 (cC c)) = cC c := rfl
theorem tC2 (c : Cs) : List.take 4 (cC c) = cC c := rfl
theorem iC {m : Nat → Option Blk} {n : Nat} (c : Cs) : List.flatMap (ids m n) (cC c) = [] := flat_frz n _ (frC c)
theorem vC {m : Nat → Option Blk} {n : Nat} (c : Cs) : List.map (view m n) (cC c) = cC c := viewL_frz n _ (frC c)
attribute [push_cast] lC frC tC tC2 iC vC
def cL (l : List Int) : List AV := [aI l]
theorem nL (l : List Int) : nth (cL l) 0 = aI l := rfl
theorem lL (l : List Int) : (cL l).length = 1 := rfl
theorem frL (l : List Int) : frzAll (cL l) = true := rfl
theorem tL (l : List Int) : List.take 1 (List.drop 0 (cL l)) = cL l := rfl
attribute [push_cast] nL lL frL tL
abbrev aL (l : List (List Int)) : AV := .sl 1 [] cL l
def sumR (m : Mp) (l : List Int) : Int := l.foldl (fun n x => n + (gr m x.toNat).c) 0
def vis (m : Mp) (fr : Int) (l : List Int) (i : Nat) : List Int := fr :: (l.take i).map fun x => (gr m x.toNat).t
def atP (m : Mp) (fr : Int) (l : List Int) (i : Nat) : Int := if i = 0 then fr else (gr m (gi l (i - 1)).toNat).t
def rtK (m : Mp) (fr : Int) (l : List Int) (i : Nat) : Bool := (gr m (gi l i).toNat).f == atP m fr l i && !decide ((gr m (gi l i).toNat).t ∈ vis m fr l i)
def rtB (m : Mp) (fr to : Int) (l : List Int) : Bool := (List.range l.length).all (rtK m fr l) && atP m fr l l.length == to
def irE (m : Mp) (fr to : Int) (l : List Int) : Int := if chkM m = 0 then (if plB m.n fr = true ∧ plB m.n to = true then rdE m l else 3) else chkM m
def irV (m : Mp) (fr to : Int) (l : List Int) : Bool := decide (irE m fr to l = 0) && rtB m fr to l
theorem vis_succ (m : Mp) (fr : Int) {l : List Int} {i : Nat} (h : i < l.length) : vis m fr l (i + 1) = vis m fr l i ++ [(gr m (gi l i).toNat).t] := by
  unfold vis
  rw [take_snoc h, List.map_append]; rfl
theorem atP_succ (m : Mp) (fr : Int) (l : List Int) (i : Nat) : atP m fr l (i + 1) = (gr m (gi l i).toNat).t := by
  unfold atP; rw [if_neg (by omega)]; rfl
def BI (g : List Int → Int) (ok : List Int → Bool) (L : List (List Int)) (i : Nat) (b : Int) : Prop :=
  (b = -1 ∧ leastL g ok (L.take i) = none) ∨ (0 ≤ b ∧ b < i ∧ leastL g ok (L.take i) = some (L.getD b.toNat [], g (L.getD b.toNat [])))
theorem take_snocL {L : List (List Int)} {i : Nat} (h : i < L.length) : L.take (i + 1) = L.take i ++ [L.getD i []] := by
  rw [List.take_add_one]
  simp [List.getD, h]
theorem BI.yes {g : List Int → Int} {ok : List Int → Bool} {L : List (List Int)} {i : Nat} {b : Int} (h : BI g ok L i b) (hi : i < L.length) (ho : ok (L.getD i []) = true) (hl : b < 0 ∨ g (L.getD i []) < g (L.getD b.toNat [])) : BI g ok L (i + 1) i := by
  right
  refine ⟨by omega, by omega, ?_⟩
  rw [take_snocL hi, leastL_snoc, Int.toNat_natCast]
  unfold lstep
  rw [if_pos ho]
  rcases h with ⟨h1, h2⟩ | ⟨h1, h2, h3⟩
  · rw [h2]
  · rw [h3]
    show (if _ then _ else _) = _
    rw [if_pos (by omega)]
theorem BI.no {g : List Int → Int} {ok : List Int → Bool} {L : List (List Int)} {i : Nat} {b : Int} (h : BI g ok L i b) (hi : i < L.length) (ho : ok (L.getD i []) = false ∨ (0 ≤ b ∧ g (L.getD b.toNat []) ≤ g (L.getD i []))) : BI g ok L (i + 1) b := by
  have e : ∀ x, leastL g ok (L.take i) = x → (x = none → b < 0) → (∀ p, x = some p → p.2 = g (L.getD b.toNat [])) → leastL g ok (L.take (i + 1)) = x := fun x hx h1 h2 => by
    rw [take_snocL hi, leastL_snoc, hx]
    unfold lstep
    rcases ho with ho | ⟨ho1, ho2⟩
    · rw [if_neg (by rw [ho]; simp)]
    · rcases x with _ | ⟨y, n⟩
      · have := h1 rfl; omega
      · have := h2 _ rfl
        dsimp only at this
        split
        · show (if _ then _ else _) = _
          rw [if_neg (by omega)]
        · rfl
  rcases h with ⟨h1, h2⟩ | ⟨h1, h2, h3⟩
  · exact .inl ⟨h1, e _ h2 (fun _ => by omega) (fun p hp => by cases hp)⟩
  · exact .inr ⟨h1, by omega, e _ h3 (fun q => by cases q) (fun p hp => by cases hp; rfl)⟩
inductive Pt (m : Mp) (fr : Int) : List Int → Int → Prop
  | nil : Pt m fr [] fr
  | snoc {l : List Int} {a : Int} {i : Nat} : Pt m fr l a → i < m.rs.length → (gr m i).f = a → Pt m fr (l ++ [(i : Int)]) (gr m i).t
theorem count_set : ∀ (l : List Bool) (i : Nat), i < l.length → l.getD i false = false → (l.set i true).count false + 1 = l.count false
  | [], i, h, _ => by simp at h
  | b :: l, 0, h, hb => by
    have : b = false := by simpa using hb
    subst this
    simp
  | b :: l, i + 1, h, hb => by
    have h1 := count_set l i (by simpa using h) (by simpa using hb)
    rw [List.set_cons_succ, List.count_cons, List.count_cons]
    omega
theorem Pt.cons {m : Mp} {a b : Int} {l : List Int} {i : Nat} (hi : i < m.rs.length) (h : Pt m (gr m i).t l b) (hf : (gr m i).f = a) : Pt m a ((i : Int) :: l) b := by
  induction h with
  | nil =>
    have := Pt.snoc (Pt.nil (m := m) (fr := a)) hi hf
    exact this
  | snoc _ h2 h3 ih => exact .snoc ih h2 h3
structure Way (m : Mp) (f : Nat → Int) (s left : List Int) (to a : Int) (l : List Int) : Prop where
  u : ∀ x ∈ l, usB m f s x.toNat = true
  c : sumR m l = gi left a.toNat
  p : Pt m a l to
  f : ∀ i, i < l.length → (gr m (gi l i).toNat).f = atP m a l i
  d : ∀ i, i < l.length → gi left (gr m (gi l i).toNat).t.toNat < gi left (atP m a l i).toNat
  e : atP m a l l.length = to
theorem Way.rt {m : Mp} {f : Nat → Int} {s left : List Int} {to a : Int} {l : List Int} (h : Way m f s left to a l) : rtB m a to l = true := by
  have key : ∀ i, i ≤ l.length → ∀ y ∈ vis m a l i, gi left (atP m a l i).toNat ≤ gi left y.toNat := fun i => by
    induction i with
    | zero =>
      intro _ y hy
      have : y = a := by simpa [vis] using hy
      rw [this]; exact Int.le_refl _
    | succ i ih =>
      intro hi y hy
      rw [vis_succ m a (by omega)] at hy
      rw [atP_succ]
      rcases List.mem_append.1 hy with hy | hy
      · have h1 := ih (by omega) y hy
        have h2 := h.d i (by omega)
        omega
      · rw [List.mem_singleton] at hy
        rw [hy]; exact Int.le_refl _
  unfold rtB
  rw [Bool.and_eq_true, List.all_eq_true, beq_iff_eq]
  refine ⟨fun i hi => ?_, h.e⟩
  have hi := List.mem_range.1 hi
  unfold rtK
  rw [Bool.and_eq_true, beq_iff_eq, Bool.not_eq_true', decide_eq_false_iff_not]
  refine ⟨h.f i hi, fun hv => ?_⟩
  have h1 := key i (by omega) _ hv
  have h2 := h.d i hi
  omega
def ldsB (m : Mp) (f : Nat → Int) (road k : Nat) : Bool := usB m f (evL m.ws.length) road && decide ((gr m road).lim k < f k)
def hpsB (m : Mp) (f : Nat → Int) (w road k : Nat) : Bool := ((gw m w).k == (k : Int) && decide ((road : Int) ∈ (gw m w).rs)) && decide (f k ≤ (gw m w).l)
structure Prt where
  w : Int
  r : Int
  k : Int
  v : Int
def cP (c : Prt) : List AV := [iv c.w, iv c.r, iv c.k, iv c.v]
theorem lP (c : Prt) : (cP c).length = 4 := rfl
theorem frP (c : Prt) : frzAll (cP c) = true := rfl
theorem tP (c : Prt) : List.take 4 (List.drop 0 (cP c)) = cP c := rfl
theorem tP2 (c : Prt) : List.take 4 (cP c) = cP c := rfl
theorem nP0 (c : Prt) : nth (cP c) 0 = iv c.w := rfl
theorem nP1 (c : Prt) : nth (cP c) 1 = iv c.r := rfl
theorem nP2 (c : Prt) : nth (cP c) 2 = iv c.k := rfl
theorem nP3 (c : Prt) : nth (cP c) 3 = iv c.v := rfl
attribute [push_cast] lP frP tP tP2 nP0 nP1 nP2 nP3
structure PrtOK (m : Mp) (f : Nat → Int) (p : Prt) : Prop where
  w : 0 ≤ p.w ∧ p.w < m.ws.length
  r : 0 ≤ p.r ∧ p.r < m.rs.length
  k : 0 ≤ p.k ∧ p.k ≤ 5
  v : 0 ≤ p.v ∧ p.v ≤ (gw m p.w.toNat).c
  l : ldsB m f p.r.toNat p.k.toNat = true
  h : hpsB m f p.w.toNat p.r.toNat p.k.toNat = true
structure Ld where
  r : Int
  k : Int
def cLd (c : Ld) : List AV := [iv c.r, iv c.k]
theorem lLd (c : Ld) : (cLd c).length = 2 := rfl
theorem frLd (c : Ld) : frzAll (cLd c) = true := rfl
theorem tLd (c : Ld) : List.take 2 (List.drop 0 (cLd c)) = cLd c := rfl
theorem tLd2 (c : Ld) : List.take 2 (cLd c) = cLd c := rfl
theorem iLd {m : Nat → Option Blk} {n : Nat} (c : Ld) : List.flatMap (ids m n) (cLd c) = [] := flat_frz n _ (frLd c)
theorem vLd {m : Nat → Option Blk} {n : Nat} (c : Ld) : List.map (view m n) (cLd c) = cLd c := viewL_frz n _ (frLd c)
attribute [push_cast] lLd frLd tLd tLd2 iLd vLd
def ld1 (m : Mp) (f : Nat → Int) (road k : Nat) : List Ld := if ldsB m f road k = true then [⟨road, k⟩] else []
def ldL (m : Mp) (f : Nat → Int) (road n : Nat) : List Ld := (List.range n).flatMap (ld1 m f road)
def lwS (hp : Nat → Bool) (v : Nat → Int) (a : Int × Int × Bool) (i : Nat) : Int × Int × Bool := if (hp i && (!a.2.2 || decide (v i < a.2.1))) = true then ((i : Int), v i, true) else a
def lwF (hp : Nat → Bool) (v : Nat → Int) (n : Nat) : Int × Int × Bool := (List.range n).foldl (lwS hp v) (0, 0, false)
def lwC (m : Mp) (f : Nat → Int) (V : Nat → Nat → Nat → Int) (road k : Nat) : Int × Int × Bool := lwF (fun w => hpsB m f w road k) (fun w => V w road k) m.ws.length
def rdK2 (m : Mp) (f : Nat → Int) (V : Nat → Nat → Nat → Int) (road : Nat) (a : Int) (k : Nat) : Int := if ldsB m f road k = true then a + (lwC m f V road k).2.1 else a
def rdS (m : Mp) (f : Nat → Int) (V : Nat → Nat → Nat → Int) (road n : Nat) : Int := (List.range n).foldl (rdK2 m f V road) (gr m road).c
end Go.Proofs.YtlahcoaofbpinaaGreat.R
namespace Go.Proofs.YtlahcoaofbpinaaGreat.R
set_option linter.unusedVariables false
structure TEd where
  x : Nat
  y : Nat
  g : Int → Int
theorem least_nat {p : Nat → Prop} : ∀ k, p k → ∃ j, p j ∧ ∀ i, p i → j ≤ i := fun k => by
  induction k using Nat.strongRecOn with
  | _ k ih =>
    intro hk
    by_cases q : ∃ i, i < k ∧ p i
    · obtain ⟨i, h1, h2⟩ := q
      exact ih i h1 h2
    · exact ⟨k, hk, fun i hi => by
        rcases Nat.lt_or_ge i k with r | r
        · exact absurd ⟨i, r, hi⟩ q
        · exact r⟩
structure TOk (n : Nat) (e : TEd) : Prop where
  x : e.x < n
  y : e.y < n
  up : ∀ a b, 0 ≤ a → a ≤ b → e.g a ≤ e.g b
  gt : ∀ a, 0 ≤ a → a + 1 ≤ e.g a
inductive TW (es : List TEd) (s : Nat) (t0 : Int) : Nat → Int → Prop
  | nil : TW es s t0 s t0
  | snoc {e : TEd} {d : Int} : TW es s t0 e.x d → e ∈ es → TW es s t0 e.y (e.g d)
structure Tms (es : List TEd) (s n : Nat) (t0 : Int) (o : List Int) : Prop where
  len : o.length = n
  src : gi o s = t0
  ach : ∀ y, y < n → gi o y = -1 ∨ TW es s t0 y (gi o y)
def TFix (es : List TEd) (o : List Int) : Prop := ∀ e ∈ es, 0 ≤ gi o e.x → 0 ≤ gi o e.y ∧ gi o e.y ≤ e.g (gi o e.x)
section
variable {es : List TEd} {s n : Nat} {t0 : Int} {o : List Int}
theorem TW.ge (he : ∀ e ∈ es, TOk n e) (h0 : 0 ≤ t0) {y : Nat} {t : Int} (h : TW es s t0 y t) : t0 ≤ t := by
  induction h with
  | nil => exact Int.le_refl _
  | snoc _ h2 ih => have := (he _ h2).gt _ (Int.le_trans h0 ih); omega
theorem TW.lt (he : ∀ e ∈ es, TOk n e) (hs : s < n) {y : Nat} {t : Int} (h : TW es s t0 y t) : y < n := by
  cases h with
  | nil => exact hs
  | snoc _ h2 => exact (he _ h2).y
theorem Tms.nn (he : ∀ e ∈ es, TOk n e) (h0 : 0 ≤ t0) (h : Tms es s n t0 o) {y : Nat} (hy : y < n) : gi o y = -1 ∨ (0 ≤ gi o y ∧ TW es s t0 y (gi o y)) := by
  rcases h.ach y hy with q | q
  · exact .inl q
  · exact .inr ⟨Int.le_trans h0 (q.ge he h0), q⟩
theorem tfix_le (he : ∀ e ∈ es, TOk n e) (h0 : 0 ≤ t0) (h : Tms es s n t0 o) (hf : TFix es o) {y : Nat} {t : Int} (hw : TW es s t0 y t) : 0 ≤ gi o y ∧ gi o y ≤ t := by
  induction hw with
  | nil => rw [h.src]; exact ⟨h0, Int.le_refl _⟩
  | snoc h1 h2 ih =>
    have := hf _ h2 ih.1
    have := (he _ h2).up _ _ ih.1 ih.2
    omega
theorem tms_eq (he : ∀ e ∈ es, TOk n e) (h0 : 0 ≤ t0) {u : List Int} (h : Tms es s n t0 o) (hf : TFix es o) (h2 : Tms es s n t0 u) (hf2 : TFix es u) : o = u := by
  apply List.ext_getElem (by rw [h.len, h2.len])
  intro i h3 h4
  have hi : i < n := by rw [h.len] at h3; exact h3
  have e1 : gi o i = o[i] := by simp [gi, List.getD, h3]
  have e2 : gi u i = u[i] := by simp [gi, List.getD, h4]
  rw [← e1, ← e2]
  rcases h.nn he h0 hi with q | ⟨q, q2⟩ <;> rcases h2.nn he h0 hi with r | ⟨r, r2⟩
  · omega
  · have := tfix_le he h0 h hf r2; omega
  · have := tfix_le he h0 h2 hf2 q2; omega
  · have := tfix_le he h0 h hf r2; have := tfix_le he h0 h2 hf2 q2; omega
open Classical in
theorem tms_ex (he : ∀ e ∈ es, TOk n e) (h0 : 0 ≤ t0) (hs : s < n) : ∃ D, Tms es s n t0 D ∧ TFix es D := by
  have key : ∀ y : Nat, ∃ d : Int, (d = -1 ∧ ∀ t, ¬ TW es s t0 y t) ∨ (0 ≤ d ∧ TW es s t0 y d ∧ ∀ t, TW es s t0 y t → d ≤ t) := fun y => by
    by_cases q : ∃ k : Nat, TW es s t0 y (k : Int)
    · obtain ⟨k, hk⟩ := q
      obtain ⟨j, hj, hj2⟩ := least_nat (p := fun k => TW es s t0 y (k : Int)) k hk
      refine ⟨(j : Nat), .inr ⟨by omega, hj, fun t ht => ?_⟩⟩
      have h1 := Int.le_trans h0 (ht.ge he h0)
      have h2 : j ≤ t.toNat := hj2 t.toNat (by rw [show ((t.toNat : Nat) : Int) = t by omega]; exact ht)
      omega
    · refine ⟨-1, .inl ⟨rfl, fun t ht => q ⟨t.toNat, ?_⟩⟩⟩
      have h1 := Int.le_trans h0 (ht.ge he h0)
      rw [show ((t.toNat : Nat) : Int) = t by omega]; exact ht
  let d : Nat → Int := fun y => Classical.choose (key y)
  have hd : ∀ y, (d y = -1 ∧ ∀ t, ¬ TW es s t0 y t) ∨ (0 ≤ d y ∧ TW es s t0 y (d y) ∧ ∀ t, TW es s t0 y t → d y ≤ t) := fun y => Classical.choose_spec (key y)
  have hg : ∀ y, y < n → gi ((List.range n).map d) y = d y := fun y hy => by simp [gi, List.getD, hy]
  refine ⟨(List.range n).map d, ⟨by simp, ?_, fun y hy => ?_⟩, fun e hm hx => ?_⟩
  · rw [hg s hs]
    rcases hd s with ⟨_, q⟩ | ⟨_, q, q2⟩
    · exact absurd .nil (q t0)
    · have := q2 t0 .nil
      have := q.ge he h0
      omega
  · rw [hg y hy]
    rcases hd y with ⟨q, _⟩ | ⟨_, q, _⟩
    · exact .inl q
    · exact .inr q
  · have ok := he e hm
    rw [hg _ ok.x] at hx ⊢
    rw [hg _ ok.y]
    rcases hd e.x with ⟨q, _⟩ | ⟨_, q, _⟩
    · omega
    · have h1 : TW es s t0 e.y (e.g (d e.x)) := .snoc q hm
      rcases hd e.y with ⟨_, r⟩ | ⟨r, _, r2⟩
      · exact absurd h1 (r _)
      · exact ⟨r, r2 _ h1⟩
def tst (o : List Int) (e : TEd) : List Int := if 0 ≤ gi o e.x ∧ (gi o e.y < 0 ∨ e.g (gi o e.x) < gi o e.y) then o.set e.y (e.g (gi o e.x)) else o
def tps (o : List Int) (es : List TEd) : List Int := es.foldl tst o
def trn (es : List TEd) (o : List Int) : Nat → List Int
  | 0 => o
  | k + 1 => tps (trn es o k) es
theorem tst_len (o : List Int) (e : TEd) : (tst o e).length = o.length := by
  unfold tst; split <;> simp
theorem tst_tms (he : ∀ e ∈ es, TOk n e) (h0 : 0 ≤ t0) (h : Tms es s n t0 o) {e : TEd} (hm : e ∈ es) : Tms es s n t0 (tst o e) := by
  unfold tst
  split
  · rename_i q
    obtain ⟨q1, q2⟩ := q
    have ok := he e hm
    have hl : e.y < o.length := by rw [h.len]; exact ok.y
    have hx : TW es s t0 e.x (gi o e.x) := by
      rcases h.ach e.x ok.x with r | r
      · omega
      · exact r
    have hy : TW es s t0 e.y (e.g (gi o e.x)) := .snoc hx hm
    refine ⟨by rw [List.length_set]; exact h.len, ?_, fun y hyn => ?_⟩
    · rw [gi_set hl]
      split
      · rename_i r
        have h1 := hy.ge he h0
        rw [← r] at q2
        have := h.src
        omega
      · exact h.src
    · rw [gi_set hl]
      split
      · rename_i r; subst r; exact .inr hy
      · exact h.ach y hyn
  · exact h
theorem tps_tms (he : ∀ e ∈ es, TOk n e) (h0 : 0 ≤ t0) : ∀ (fs : List TEd) (o : List Int), (∀ e ∈ fs, e ∈ es) → Tms es s n t0 o → Tms es s n t0 (tps o fs)
  | [], o, _, h => h
  | e :: fs, o, hs, h => tps_tms he h0 fs (tst o e) (fun x hx => hs x (List.mem_cons_of_mem _ hx)) (tst_tms he h0 h (hs e List.mem_cons_self))
theorem trn_tms (he : ∀ e ∈ es, TOk n e) (h0 : 0 ≤ t0) (h : Tms es s n t0 o) : ∀ k, Tms es s n t0 (trn es o k)
  | 0 => h
  | k + 1 => tps_tms he h0 es _ (fun e hm => hm) (trn_tms he h0 h k)
theorem tst_le {e : TEd} (hl : e.y < o.length) (i : Nat) (hi : 0 ≤ gi o i) (hg : 0 ≤ gi o e.x → 0 ≤ e.g (gi o e.x)) : 0 ≤ gi (tst o e) i ∧ gi (tst o e) i ≤ gi o i := by
  unfold tst
  split
  · rename_i q
    have h2 := hg q.1
    rw [gi_set hl]
    split
    · rename_i r; subst r; omega
    · omega
  · omega
theorem tps_le (he : ∀ e ∈ es, TOk n e) : ∀ (fs : List TEd) (o : List Int), (∀ e ∈ fs, e ∈ es) → o.length = n → ∀ i, 0 ≤ gi o i → 0 ≤ gi (tps o fs) i ∧ gi (tps o fs) i ≤ gi o i
  | [], o, _, _, i, h => ⟨h, Int.le_refl _⟩
  | e :: fs, o, hs, hl, i, h => by
    have ok := he e (hs e List.mem_cons_self)
    have h1 := tst_le (o := o) (e := e) (by rw [hl]; exact ok.y) i h (fun q => by have := ok.gt _ q; omega)
    have h2 := tps_le he fs (tst o e) (fun x hx => hs x (List.mem_cons_of_mem _ hx)) (by rw [tst_len]; exact hl) i h1.1
    show 0 ≤ gi (tps (tst o e) fs) i ∧ gi (tps (tst o e) fs) i ≤ gi o i
    omega
theorem tps_use (he : ∀ e ∈ es, TOk n e) : ∀ (fs : List TEd) (o : List Int), (∀ e ∈ fs, e ∈ es) → o.length = n → ∀ e ∈ fs, 0 ≤ gi o e.x → 0 ≤ gi (tps o fs) e.y ∧ gi (tps o fs) e.y ≤ e.g (gi o e.x)
  | [], o, _, _, e, h, _ => by cases h
  | f :: fs, o, hs, hl, e, hm, hx => by
    have hs' : ∀ x ∈ fs, x ∈ es := fun x q => hs x (List.mem_cons_of_mem _ q)
    have hl' : (tst o f).length = n := by rw [tst_len]; exact hl
    show 0 ≤ gi (tps (tst o f) fs) e.y ∧ gi (tps (tst o f) fs) e.y ≤ e.g (gi o e.x)
    rcases List.mem_cons.1 hm with rfl | hm
    · have ok := he e (hs e List.mem_cons_self)
      have hg := ok.gt _ hx
      have h1 : 0 ≤ gi (tst o e) e.y ∧ gi (tst o e) e.y ≤ e.g (gi o e.x) := by
        unfold tst
        split
        · rw [gi_set (by rw [hl]; exact ok.y), if_pos rfl]; omega
        · rename_i q
          by_cases z : gi o e.y < 0
          · exact absurd ⟨hx, .inl z⟩ q
          · by_cases z2 : e.g (gi o e.x) < gi o e.y
            · exact absurd ⟨hx, .inr z2⟩ q
            · omega
      have h2 := tps_le he fs (tst o e) hs' hl' e.y h1.1
      omega
    · have okf := he f (hs f List.mem_cons_self)
      have ok := he e (hs' e hm)
      have h1 := tst_le (o := o) (e := f) (by rw [hl]; exact okf.y) e.x hx (fun q => by have := okf.gt _ q; omega)
      have h2 := tps_use he fs (tst o f) hs' hl' e hm h1.1
      have := ok.up _ _ h1.1 h1.2
      omega
def rkT (os : List Int) (n y : Nat) : Nat := (List.range n).countP (fun z => decide (0 ≤ gi os z ∧ gi os z < gi os y))
theorem rkT_le (os : List Int) (n y : Nat) : rkT os n y ≤ n := by
  have := List.countP_le_length (p := fun z => decide (0 ≤ gi os z ∧ gi os z < gi os y)) (l := List.range n)
  rwa [List.length_range] at this
theorem rkT_lt {os : List Int} {x y : Nat} (hx : x < n) (h0 : 0 ≤ gi os x) (h : gi os x < gi os y) : rkT os n x < rkT os n y :=
  countP_lt (fun z hz q => by rw [decide_eq_true_eq] at q ⊢; omega) ⟨x, List.mem_range.2 hx, by rw [decide_eq_true_eq]; omega, by rw [decide_eq_false_iff_not]; omega⟩
theorem last_edge (he : ∀ e ∈ es, TOk n e) (h0 : 0 ≤ t0) (h : Tms es s n t0 o) (hf : TFix es o) {y : Nat} (hy : y < n) (hl : 0 ≤ gi o y) : y = s ∨ ∃ e ∈ es, e.y = y ∧ 0 ≤ gi o e.x ∧ gi o y = e.g (gi o e.x) := by
  rcases h.ach y hy with h1 | h1
  · omega
  · generalize hd : gi o y = d at h1
    cases h1 with
    | nil => exact .inl rfl
    | snoc h2 h3 =>
      right
      have h5 := tfix_le he h0 h hf h2
      have h6 := hf _ h3 h5.1
      have h7 := (he _ h3).up _ _ h5.1 h5.2
      exact ⟨_, h3, rfl, h5.1, by omega⟩
theorem trn_fin (he : ∀ e ∈ es, TOk n e) (h0 : 0 ≤ t0) {D : List Int} (h : Tms es s n t0 D) (hf : TFix es D) (ho : Tms es s n t0 o) : ∀ (k y : Nat), y < n → 0 ≤ gi D y → rkT D n y ≤ k → gi (trn es o k) y = gi D y := by
  have hge : ∀ k y, y < n → 0 ≤ gi (trn es o k) y → gi D y ≤ gi (trn es o k) y := fun k y hy h1 => by
    rcases (trn_tms he h0 ho k).ach y hy with q | q
    · omega
    · exact (tfix_le he h0 h hf q).2
  intro k
  induction k with
  | zero =>
    intro y hy hd hk
    rcases last_edge he h0 h hf hy hd with rfl | ⟨e, hm, rfl, hx, h1⟩
    · rw [(trn_tms he h0 ho 0).src, h.src]
    · have ok := he e hm
      have := rkT_lt (n := n) (os := D) (y := e.y) ok.x hx (by have := ok.gt _ hx; omega)
      omega
  | succ k ih =>
    intro y hy hd hk
    rcases last_edge he h0 h hf hy hd with rfl | ⟨e, hm, rfl, hx, h1⟩
    · rw [(trn_tms he h0 ho (k + 1)).src, h.src]
    · have ok := he e hm
      have h2 := rkT_lt (n := n) (os := D) (y := e.y) ok.x hx (by have := ok.gt _ hx; omega)
      have h3 := ih e.x ok.x hx (by omega)
      have h4 := tps_use he es (trn es o k) (fun e hm => hm) (trn_tms he h0 ho k).len e hm (by omega)
      have h5 : gi (trn es o (k + 1)) e.y = gi (tps (trn es o k) es) e.y := rfl
      have h6 := hge (k + 1) e.y hy (by omega)
      rw [h3, ← h1] at h4
      omega
def tin (n s : Nat) (t0 : Int) : List Int := (List.replicate n (-1)).set s t0
theorem tin_tms (hs : s < n) : Tms es s n t0 (tin n s t0) := by
  have hl : (List.replicate n (-1 : Int)).length = n := by simp
  refine ⟨by simp [tin], ?_, fun y hy => ?_⟩
  · unfold tin; rw [gi_set (by omega), if_pos rfl]
  · unfold tin
    rw [gi_set (by omega)]
    split
    · rename_i q; subst q; exact .inr .nil
    · left; simp [gi, List.getD, hy]
def tdst (es : List TEd) (n s : Nat) (t0 : Int) : List Int := trn es (tin n s t0) n
theorem tdst_ok (he : ∀ e ∈ es, TOk n e) (h0 : 0 ≤ t0) (hs : s < n) : Tms es s n t0 (tdst es n s t0) ∧ TFix es (tdst es n s t0) := by
  obtain ⟨D, h1, h2⟩ := tms_ex he h0 hs
  have ht := trn_tms he h0 (tin_tms (es := es) (t0 := t0) hs) n
  have e : tdst es n s t0 = D := by
    apply List.ext_getElem (by rw [h1.len]; exact ht.len)
    intro i h3 h4
    have hi : i < n := by rw [h1.len] at h4; exact h4
    have e1 : gi (tdst es n s t0) i = (tdst es n s t0)[i] := by simp [gi, List.getD, h3]
    have e2 : gi D i = D[i] := by simp [gi, List.getD, h4]
    rw [← e1, ← e2]
    rcases h1.nn he h0 hi with q | ⟨q, q2⟩
    · rcases ht.nn he h0 hi with r | ⟨r, r2⟩
      · rw [q]; exact r
      · have := tfix_le he h0 h1 h2 r2; omega
    · exact trn_fin he h0 h1 h2 (tin_tms hs) n i hi q (rkT_le _ _ _)
  rw [e]
  exact ⟨h1, h2⟩
end
end Go.Proofs.YtlahcoaofbpinaaGreat.R
namespace Go.Proofs.YtlahcoaofbpinaaGreat.R
open Go Sy
set_option linter.unusedVariables false
theorem lvT_up {n : Int} {r : Rd} (h : OkR n r) {a b : Int} (ha : 0 ≤ a) (hab : a ≤ b) : lvT r a ≤ lvT r b := by
  have ho := h.o; have hm := h.m
  unfold lvT
  have a1 := Int.emod_nonneg a (show (1440 : Int) ≠ 0 by decide)
  have a2 := Int.emod_lt_of_pos a (show (0 : Int) < 1440 by decide)
  have a3 := Int.mul_ediv_add_emod a 1440
  have b1 := Int.emod_nonneg b (show (1440 : Int) ≠ 0 by decide)
  have b2 := Int.emod_lt_of_pos b (show (0 : Int) < 1440 by decide)
  have b3 := Int.mul_ediv_add_emod b 1440
  generalize a % 1440 = x at *
  generalize b % 1440 = y at *
  generalize a / 1440 = p at *
  generalize b / 1440 = q at *
  by_cases c1 : x < r.o <;> by_cases c2 : y < r.o <;> by_cases c3 : r.z - r.m < x <;> by_cases c4 : r.z - r.m < y <;> simp only [c1, c2, c3, c4, if_true, if_false] <;> omega
def tEd (m : Mp) (i : Nat) : TEd := ⟨(gr m i).f.toNat, (gr m i).t.toNat, lvT (gr m i)⟩
theorem tEd_ok {m : Mp} (h : OkM m) {i : Nat} (hi : i < m.rs.length) : TOk m.n.toNat (tEd m i) := by
  have ok := roadB_ok (h.r i hi)
  have := ok.f; have := ok.t
  exact ⟨show (gr m i).f.toNat < _ by omega, show (gr m i).t.toNat < _ by omega, fun a b ha hab => lvT_up ok ha hab, fun a ha => (lvT_rng ok a ha).1⟩
def tes (m : Mp) (p : Nat → Bool) (j : Nat) : List TEd := ((List.range j).filter p).map (tEd m)
theorem tes_mem {m : Mp} {p : Nat → Bool} {j : Nat} {e : TEd} : e ∈ tes m p j ↔ ∃ i, i < j ∧ p i = true ∧ e = tEd m i := by
  unfold tes
  rw [List.mem_map]
  constructor
  · rintro ⟨i, hi, rfl⟩
    rw [List.mem_filter, List.mem_range] at hi
    exact ⟨i, hi.1, hi.2, rfl⟩
  · rintro ⟨i, h1, h2, rfl⟩
    exact ⟨i, List.mem_filter.2 ⟨List.mem_range.2 h1, h2⟩, rfl⟩
theorem tes_ok {m : Mp} (h : OkM m) (p : Nat → Bool) : ∀ e ∈ tes m p m.rs.length, TOk m.n.toNat e := fun e he => by
  obtain ⟨i, hi, _, rfl⟩ := tes_mem.1 he
  exact tEd_ok h hi
def goB (m : Mp) (f : Nat → Int) (s : List Int) (sk : Int → Bool) (i : Nat) : Bool := usB m f s i && !sk (gr m i).t
def labT (m : Mp) (f : Nat → Int) (s : List Int) (sk : Int → Bool) (fr t : Int) : List Int := tdst (tes m (goB m f s sk) m.rs.length) m.n.toNat fr.toNat t
theorem labT_ok {m : Mp} (h : OkM m) (f : Nat → Int) (s : List Int) (sk : Int → Bool) {fr t : Int} (hf : 0 ≤ fr ∧ fr < m.n) (ht : 0 ≤ t) : Tms (tes m (goB m f s sk) m.rs.length) fr.toNat m.n.toNat t (labT m f s sk fr t) ∧ TFix (tes m (goB m f s sk) m.rs.length) (labT m f s sk fr t) :=
  tdst_ok (tes_ok h _) ht (by omega)
structure Vis where
  p : Int
  t : Int
def dV : Vis := ⟨0, 0⟩
def cV (c : Vis) : List AV := [iv c.p, iv c.t]
theorem lV (c : Vis) : (cV c).length = 2 := rfl
theorem frV (c : Vis) : frzAll (cV c) = true := rfl
theorem tV (c : Vis) : List.take 2 (List.drop 0 (cV c)) = cV c := rfl
theorem tV2 (c : Vis) : List.take 2 (cV c) = cV c := rfl
theorem iV {m : Nat → Option Blk} {n : Nat} (c : Vis) : List.flatMap (ids m n) (cV c) = [] := flat_frz n _ (frV c)
theorem vV {m : Nat → Option Blk} {n : Nat} (c : Vis) : List.map (view m n) (cV c) = cV c := viewL_frz n _ (frV c)
theorem uV (a b : Vis) : cV a ++ List.drop 2 (cV b) = cV a := rfl
attribute [push_cast] lV frV tV tV2 iV vV uV
abbrev aV (l : List Vis) : AV := .sl 2 dV cV l
abbrev gv (l : List Vis) (i : Nat) : Vis := l.getD i dV
def mv (l : List Vis) : Nat → Vis
  | 0 => gv l 0
  | i + 1 => if (gv l i).t < (mv l i).t then gv l i else mv l i
theorem mv_one (l : List Vis) : mv l 1 = gv l 0 := by unfold mv mv; rw [if_neg (by omega)]
theorem mv_mem (l : List Vis) : ∀ i, i ≤ l.length → 0 < l.length → ∃ j, j < l.length ∧ mv l i = gv l j
  | 0, _, h => ⟨0, h, rfl⟩
  | i + 1, hi, h => by
    simp only [mv]
    split
    · exact ⟨i, by omega, rfl⟩
    · exact mv_mem l i (by omega) h
theorem mv_le (l : List Vis) : ∀ i, ∀ j, j < i → (mv l i).t ≤ (gv l j).t
  | 0, j, hj => by omega
  | i + 1, j, hj => by
    simp only [mv]
    by_cases q : (gv l i).t < (mv l i).t
    · rw [if_pos q]
      by_cases e : j = i
      · rw [e]; exact Int.le_refl _
      · have := mv_le l i j (by omega); omega
    · rw [if_neg q]
      by_cases e : j = i
      · rw [e]; omega
      · exact mv_le l i j (by omega)
def eqV1 (v x : Vis) : Bool := v.p == x.p && v.t == x.t
theorem eqV1_iff {v x : Vis} : eqV1 v x = true ↔ v = x := by
  unfold eqV1
  rw [Bool.and_eq_true, beq_iff_eq, beq_iff_eq]
  constructor
  · rintro ⟨h1, h2⟩; cases v; cases x; simp at h1 h2; rw [h1, h2]
  · rintro rfl; exact ⟨rfl, rfl⟩
structure DJ (es : List TEd) (s n : Nat) (t0 : Int) (o : List Int) (l : List Vis) : Prop where
  len : o.length = n
  ach : ∀ y, y < n → gi o y = -1 ∨ TW es s t0 y (gi o y)
  q : ∀ v ∈ l, 0 ≤ v.p ∧ v.p.toNat < n ∧ TW es s t0 v.p.toNat v.t
  ord : ∀ y, y < n → 0 ≤ gi o y → ∀ v ∈ l, gi o y ≤ v.t
  src : gi o s = t0 ∨ (gi o s = -1 ∧ ∃ v ∈ l, v.p = s ∧ v.t = t0)
  cl : ∀ e ∈ es, 0 ≤ gi o e.x → (0 ≤ gi o e.y ∧ gi o e.y ≤ e.g (gi o e.x)) ∨ (gi o e.y = -1 ∧ ∃ v ∈ l, v.p = e.y ∧ v.t ≤ e.g (gi o e.x))
section
variable {es : List TEd} {s n : Nat} {t0 : Int} {o : List Int} {l : List Vis}
theorem dj_ini (he : ∀ e ∈ es, TOk n e) (hs : s < n) : DJ es s n t0 (List.replicate n (-1)) [⟨(s : Int), t0⟩] := by
  have hg : ∀ y, y < n → gi (List.replicate n (-1 : Int)) y = -1 := fun y hy => by simp [gi, List.getD, hy]
  refine ⟨by simp, fun y hy => .inl (hg y hy), fun v hv => ?_, fun y hy h => ?_, .inr ⟨hg s hs, _, List.mem_singleton.2 rfl, rfl, rfl⟩, fun e hm h => ?_⟩
  · rw [List.mem_singleton] at hv
    subst hv
    refine ⟨by show (0 : Int) ≤ (s : Int); omega, by show ((s : Int)).toNat < n; omega, ?_⟩
    show TW es s t0 ((s : Int)).toNat t0
    rw [Int.toNat_natCast]
    exact .nil
  · rw [hg y hy] at h; omega
  · rw [hg e.x (he e hm).x] at h; omega
theorem mem_erase {j : Nat} (hj : j < l.length) {x : Vis} (hx : x ∈ l) (hne : x ≠ gv l j) : x ∈ l.eraseIdx j := by
  rw [List.mem_eraseIdx_iff_getElem]
  obtain ⟨i, hi, rfl⟩ := List.mem_iff_getElem.1 hx
  refine ⟨i, hi, fun e => hne ?_, rfl⟩
  subst e
  simp [gv, List.getD, hi]
theorem of_erase {j : Nat} {x : Vis} (hx : x ∈ l.eraseIdx j) : x ∈ l := List.mem_of_mem_eraseIdx hx
theorem dj_skip (h : DJ es s n t0 o l) {j : Nat} (hj : j < l.length) (h0 : 0 ≤ gi o (gv l j).p.toNat) : DJ es s n t0 o (l.eraseIdx j) := by
  have ne : ∀ x ∈ l, gi o x.p.toNat = -1 → x ≠ gv l j := fun x _ hx e => by rw [e] at hx; omega
  refine ⟨h.len, h.ach, fun v hv => h.q v (of_erase hv), fun y hy h1 v hv => h.ord y hy h1 v (of_erase hv), ?_, fun e he hx => ?_⟩
  · rcases h.src with q | ⟨q, v, hv, e1, e2⟩
    · exact .inl q
    · refine .inr ⟨q, v, mem_erase hj hv (ne v hv ?_), e1, e2⟩
      rw [e1, Int.toNat_natCast]; exact q
  · rcases h.cl e he hx with q | ⟨q, v, hv, e1, e2⟩
    · exact .inl q
    · refine .inr ⟨q, v, mem_erase hj hv (ne v hv ?_), e1, e2⟩
      rw [e1, Int.toNat_natCast]; exact q
theorem dj_take (he : ∀ e ∈ es, TOk n e) (h0 : 0 ≤ t0) (h : DJ es s n t0 o l) {j : Nat} (hj : j < l.length) (hmin : ∀ x ∈ l, (gv l j).t ≤ x.t) (h1 : gi o (gv l j).p.toNat = -1) {nw : List Vis}
    (n1 : ∀ x ∈ nw, ∃ e ∈ es, e.x = (gv l j).p.toNat ∧ x.p = e.y ∧ x.t = e.g (gv l j).t)
    (n2 : ∀ e ∈ es, e.x = (gv l j).p.toNat → gi (o.set (gv l j).p.toNat (gv l j).t) e.y = -1 → ∃ x ∈ nw, x.p = e.y ∧ x.t = e.g (gv l j).t) : DJ es s n t0 (o.set (gv l j).p.toNat (gv l j).t) (l.eraseIdx j ++ nw) := by
  have hvm : gv l j ∈ l := by simp [gv, List.getD, hj]
  obtain ⟨q1, q2, q3⟩ := h.q _ hvm
  have hge := q3.ge he h0
  have hlen := h.len
  generalize hv : gv l j = v at *
  have hset : ∀ y, gi (o.set v.p.toNat v.t) y = if y = v.p.toNat then v.t else gi o y := fun y => gi_set (by omega)
  have hold : ∀ y, y < n → 0 ≤ gi o y → gi o y ≤ v.t := fun y hy hh => h.ord y hy hh v hvm
  have ne : ∀ x ∈ l, x.p.toNat ≠ v.p.toNat → x ≠ gv l j := fun x _ hx e => by rw [e, hv] at hx; exact hx rfl
  refine ⟨by rw [List.length_set]; exact h.len, fun y hy => ?_, fun x hx => ?_, fun y hy hh x hx => ?_, ?_, fun e hm hx => ?_⟩
  · rw [hset]
    split
    · rename_i e; rw [e]; exact .inr q3
    · exact h.ach y hy
  · rcases List.mem_append.1 hx with hx | hx
    · exact h.q x (of_erase hx)
    · obtain ⟨e, hm, e1, e2, e3⟩ := n1 x hx
      have ok := he e hm
      refine ⟨by rw [e2]; omega, by rw [e2, Int.toNat_natCast]; exact ok.y, ?_⟩
      rw [e2, e3, Int.toNat_natCast]
      exact .snoc (by rw [e1]; exact q3) hm
  · have hle : gi (o.set v.p.toNat v.t) y ≤ v.t := by
      rw [hset] at hh ⊢
      split
      · exact Int.le_refl _
      · rename_i z; rw [if_neg z] at hh; exact hold y hy hh
    rcases List.mem_append.1 hx with hx | hx
    · have := hmin x (of_erase hx); omega
    · obtain ⟨e, hm, e1, e2, e3⟩ := n1 x hx
      have := (he e hm).gt v.t (by omega)
      omega
  · rw [hset]
    split
    · rename_i e
      rcases h.src with z | ⟨z, x, hx, e1, e2⟩
      · rw [e] at z; omega
      · left
        have := hmin x hx
        omega
    · rename_i e
      rcases h.src with z | ⟨z, x, hx, e1, e2⟩
      · exact .inl z
      · exact .inr ⟨z, x, List.mem_append_left _ (mem_erase hj hx (ne x hx (by rw [e1]; omega))), e1, e2⟩
  · have ok := he e hm
    rw [hset e.x] at hx ⊢
    by_cases c : e.x = v.p.toNat
    · rw [if_pos c] at hx ⊢
      have hgt := ok.gt v.t (by omega)
      by_cases d : gi (o.set v.p.toNat v.t) e.y = -1
      · obtain ⟨x, g1, g2, g3⟩ := n2 e hm c d
        right
        rw [hset e.y] at d ⊢
        exact ⟨d, x, List.mem_append_right _ g1, g2, by omega⟩
      · left
        rw [hset e.y] at d ⊢
        split
        · omega
        · rename_i z
          rw [if_neg z] at d
          have hach := h.ach e.y ok.y
          rcases hach with w | w
          · exact absurd w d
          · have := w.ge he h0
            have := hold e.y ok.y (by omega)
            omega
    · rw [if_neg c] at hx ⊢
      rw [hset e.y]
      rcases h.cl e hm hx with w | ⟨w, x, hx2, e1, e2⟩
      · split
        · rename_i z; rw [z] at w; omega
        · exact .inl w
      · split
        · rename_i z
          left
          have := hmin x hx2
          omega
        · rename_i z
          exact .inr ⟨w, x, List.mem_append_left _ (mem_erase hj hx2 (ne x hx2 (by rw [e1]; omega))), e1, e2⟩
theorem dj_end (he : ∀ e ∈ es, TOk n e) (h : DJ es s n t0 o []) : Tms es s n t0 o ∧ TFix es o := by
  refine ⟨⟨h.len, ?_, h.ach⟩, fun e hm hx => ?_⟩
  · rcases h.src with q | ⟨_, v, hv, _⟩
    · exact q
    · cases hv
  · rcases h.cl e hm hx with q | ⟨_, v, hv, _⟩
    · exact q
    · cases hv
end
def nwB (m : Mp) (p : Nat → Bool) (o : List Int) (v : Vis) (i : Nat) : Bool := (gr m i).f == v.p && decide (gi o (gr m i).t.toNat < 0) && p i
def nwV (m : Mp) (v : Vis) (i : Nat) : Vis := ⟨(gr m i).t, lvT (gr m i) v.t⟩
def nwL (m : Mp) (p : Nat → Bool) (o : List Int) (v : Vis) (j : Nat) : List Vis := ((List.range j).filter (nwB m p o v)).map (nwV m v)
theorem nwL_succ (m : Mp) (p : Nat → Bool) (o : List Int) (v : Vis) (j : Nat) : nwL m p o v (j + 1) = if nwB m p o v j = true then nwL m p o v j ++ [nwV m v j] else nwL m p o v j := by
  unfold nwL
  rw [List.range_succ, List.filter_append, List.map_append]
  by_cases q : nwB m p o v j = true
  · rw [if_pos q]; simp [q]
  · rw [if_neg q]; simp [q]
theorem nwL_len (m : Mp) (p : Nat → Bool) (o : List Int) (v : Vis) (j : Nat) : (nwL m p o v j).length ≤ j := by
  unfold nwL
  rw [List.length_map]
  have := List.length_filter_le (nwB m p o v) (List.range j)
  rwa [List.length_range] at this
theorem nw_one {m : Mp} (h : OkM m) {p : Nat → Bool} {o : List Int} {v : Vis} (hv : 0 ≤ v.p) : ∀ x ∈ nwL m p o v m.rs.length, ∃ e ∈ tes m p m.rs.length, e.x = v.p.toNat ∧ x.p = e.y ∧ x.t = e.g v.t := fun x hx => by
  obtain ⟨i, hi, rfl⟩ := List.mem_map.1 hx
  rw [List.mem_filter, List.mem_range] at hi
  have hc := hi.2
  unfold nwB at hc
  simp only [Bool.and_eq_true, beq_iff_eq] at hc
  have ok := roadB_ok (h.r i hi.1)
  have := ok.f; have := ok.t
  refine ⟨tEd m i, tes_mem.2 ⟨i, hi.1, hc.2, rfl⟩, ?_, ?_, rfl⟩
  · show (gr m i).f.toNat = _; rw [hc.1.1]
  · show (gr m i).t = (((gr m i).t.toNat : Nat) : Int); omega
theorem nw_two {m : Mp} (h : OkM m) {p : Nat → Bool} {o : List Int} {v : Vis} (hv : 0 ≤ v.p) : ∀ e ∈ tes m p m.rs.length, e.x = v.p.toNat → gi o e.y = -1 → ∃ x ∈ nwL m p o v m.rs.length, x.p = e.y ∧ x.t = e.g v.t := fun e he h1 h2 => by
  obtain ⟨i, hi, hp, rfl⟩ := tes_mem.1 he
  have ok := roadB_ok (h.r i hi)
  have := ok.f; have := ok.t
  have h1 : (gr m i).f.toNat = v.p.toNat := h1
  have h2 : gi o (gr m i).t.toNat = -1 := h2
  refine ⟨nwV m v i, List.mem_map.2 ⟨i, List.mem_filter.2 ⟨List.mem_range.2 hi, ?_⟩, rfl⟩, ?_, rfl⟩
  · unfold nwB
    rw [h2, hp, show (gr m i).f = v.p by omega]; simp
  · show (gr m i).t = (((gr m i).t.toNat : Nat) : Int); omega
def uns (n : Nat) (o : List Int) : Nat := (List.range n).countP fun y => decide (gi o y < 0)
theorem uns_le (n : Nat) (o : List Int) : uns n o ≤ n := by
  have := List.countP_le_length (p := fun y => decide (gi o y < 0)) (l := List.range n)
  rwa [List.length_range] at this
theorem uns_set {n : Nat} {o : List Int} {y : Nat} {t : Int} (hl : o.length = n) (hy : y < n) (h1 : gi o y = -1) (ht : 0 ≤ t) : uns n (o.set y t) < uns n o :=
  countP_lt (fun z hz q => by
    rw [decide_eq_true_eq] at q ⊢
    rw [gi_set (by omega)] at q
    split at q
    · omega
    · exact q) ⟨y, List.mem_range.2 hy, by rw [decide_eq_true_eq, h1]; omega, by rw [decide_eq_false_iff_not, gi_set (by omega), if_pos rfl]; omega⟩
def OkV (l : List Vis) : Prop := ∀ i, 0 ≤ (gv l i).t ∧ (gv l i).t ≤ 4398046511104
structure QB (n : Nat) (t : Int) (o : List Int) (l : List Vis) : Prop where
  len : l.length + 256 * uns n o ≤ 1 + 256 * n
  bd : ∀ x ∈ l, 0 ≤ x.t ∧ x.t + 4320 * uns n o ≤ t + 4320 * n
theorem QB.okV {n : Nat} {t : Int} {o : List Int} {l : List Vis} (h : QB n t o l) (hn : n ≤ 64) (ht : t ≤ 2199023255552) : OkV l := fun i => by
  rcases Nat.lt_or_ge i l.length with q | q
  · have hm : gv l i ∈ l := by simp [gv, List.getD, q]
    have := h.bd _ hm
    omega
  · have : gv l i = dV := by simp [gv, List.getD, q]
    rw [this]
    show (0 : Int) ≤ 0 ∧ (0 : Int) ≤ _
    omega
theorem QB.erase {n : Nat} {t : Int} {o : List Int} {l : List Vis} (h : QB n t o l) {j : Nat} (hj : j < l.length) : QB n t o (l.eraseIdx j) := by
  have := h.len
  refine ⟨by rw [List.length_eraseIdx, if_pos hj]; omega, fun x hx => h.bd x (of_erase hx)⟩
theorem QB.settle {n : Nat} {t : Int} {o : List Int} {l : List Vis} {m : Mp} (hm : OkM m) (h : QB n t o l) {v : Vis} (hv : v ∈ l) (hl : o.length = n) (hy : v.p.toNat < n) (h1 : gi o v.p.toNat = -1) {j : Nat} (hj : j < l.length) {p : Nat → Bool} {o2 : List Int} {i : Nat} (hi : i ≤ m.rs.length) : QB n t (o.set v.p.toNat v.t) (l.eraseIdx j ++ nwL m p o2 v i) := by
  have h2 := h.len
  have h3 := h.bd v hv
  have h4 := uns_set hl hy h1 h3.1
  have h5 := nwL_len m p o2 v i
  have h6 := hm.nr
  refine ⟨by rw [List.length_append, List.length_eraseIdx, if_pos hj]; omega, fun x hx => ?_⟩
  rcases List.mem_append.1 hx with hx | hx
  · have := h.bd x (of_erase hx)
    omega
  · obtain ⟨k, hk, rfl⟩ := List.mem_map.1 hx
    rw [List.mem_filter, List.mem_range] at hk
    have hr := lvT_rng (roadB_ok (hm.r k (by omega))) v.t h3.1
    show 0 ≤ lvT (gr m k) v.t ∧ lvT (gr m k) v.t + _ ≤ _
    omega
theorem mv_min {l : List Vis} (x : Vis) (hx : x ∈ l) : (mv l l.length).t ≤ x.t := by
  obtain ⟨i, hi, rfl⟩ := List.mem_iff_getElem.1 hx
  have := mv_le l l.length i hi
  have e : gv l i = l[i] := by simp [gv, List.getD, hi]
  rwa [e] at this
section
variable {es : List TEd} {n : Nat}
theorem TW.pre {s : Nat} {t0 : Int} {e : TEd} (he : e ∈ es) (hx : e.x = s) {y : Nat} {d : Int} (h : TW es e.y (e.g t0) y d) : TW es s t0 y d := by
  induction h with
  | nil => rw [← hx]; exact .snoc .nil he
  | snoc _ h2 ih => exact .snoc ih h2
theorem TW.first {s : Nat} {t0 : Int} {y : Nat} {d : Int} (h : TW es s t0 y d) : (y = s ∧ d = t0) ∨ ∃ e ∈ es, e.x = s ∧ TW es e.y (e.g t0) y d := by
  induction h with
  | nil => exact .inl ⟨rfl, rfl⟩
  | snoc h1 h2 ih =>
    rename_i e d' 
    rcases ih with ⟨q1, q2⟩ | ⟨e1, q1, q2, q3⟩
    · rw [q2]
      exact .inr ⟨_, h2, q1, .nil⟩
    · exact .inr ⟨e1, q1, q2, .snoc q3 h2⟩
theorem TW.nob (he : ∀ e ∈ es, TOk n e) {s : Nat} {t0 : Int} (h0 : 0 ≤ t0) {fs : List TEd} (hf : ∀ e ∈ es, e.y ≠ s → e ∈ fs) {y : Nat} {d : Int} (h : TW es s t0 y d) : ∃ d', d' ≤ d ∧ 0 ≤ d' ∧ TW fs s t0 y d' := by
  induction h with
  | nil => exact ⟨t0, Int.le_refl _, h0, .nil⟩
  | snoc h1 h2 ih =>
    rename_i e d1 
    have ok := he _ h2
    have hge := Int.le_trans h0 (h1.ge he h0)
    by_cases q : e.y = s
    · rw [q]
      exact ⟨t0, Int.le_trans (h1.ge he h0) (by have := ok.gt _ hge; omega), h0, .nil⟩
    · obtain ⟨d', g1, g2, g3⟩ := ih
      exact ⟨e.g d', ok.up _ _ g2 g1, by have := ok.gt _ g2; omega, .snoc g3 (hf _ h2 q)⟩
theorem TW.more {fs : List TEd} (h : ∀ e ∈ fs, e ∈ es) {s : Nat} {t0 : Int} {y : Nat} {d : Int} (hw : TW fs s t0 y d) : TW es s t0 y d := by
  induction hw with
  | nil => exact .nil
  | snoc _ h2 ih => exact .snoc ih (h _ h2)
end
def noP : Int → Bool := fun _ => false
theorem labT_congr {m : Mp} {f : Nat → Int} {s : List Int} {sk sk' : Int → Bool} (h : ∀ i, i < m.rs.length → sk (gr m i).t = sk' (gr m i).t) (fr t : Int) : labT m f s sk fr t = labT m f s sk' fr t := by
  unfold labT
  congr 1
  unfold tes
  congr 1
  refine List.filter_congr fun i hi => ?_
  unfold goB
  rw [h i (List.mem_range.1 hi)]
theorem labT_back {m : Mp} (h : OkM m) {f : Nat → Int} {s : List Int} {sk sk' : Int → Bool} {a t : Int} (ha : 0 ≤ a ∧ a < m.n) (ht : 0 ≤ t) (hs : ∀ x, sk' x = (sk x || x == a)) : labT m f s sk' a t = labT m f s sk a t := by
  obtain ⟨h1, h2⟩ := labT_ok h f s sk ha ht
  obtain ⟨h3, h4⟩ := labT_ok h f s sk' ha ht
  have o1 := tes_ok h (goB m f s sk)
  have o2 := tes_ok h (goB m f s sk')
  have hsub : ∀ e ∈ tes m (goB m f s sk') m.rs.length, e ∈ tes m (goB m f s sk) m.rs.length := fun e he => by
    obtain ⟨i, hi, hp, rfl⟩ := tes_mem.1 he
    refine tes_mem.2 ⟨i, hi, ?_, rfl⟩
    unfold goB at hp ⊢
    rw [hs] at hp
    simp only [Bool.and_eq_true, Bool.not_eq_true', Bool.or_eq_false_iff] at hp ⊢
    exact ⟨hp.1, hp.2.1⟩
  have hsup : ∀ e ∈ tes m (goB m f s sk) m.rs.length, e.y ≠ a.toNat → e ∈ tes m (goB m f s sk') m.rs.length := fun e he hy => by
    obtain ⟨i, hi, hp, rfl⟩ := tes_mem.1 he
    refine tes_mem.2 ⟨i, hi, ?_, rfl⟩
    have hy : (gr m i).t.toNat ≠ a.toNat := hy
    unfold goB at hp ⊢
    rw [hs, show ((gr m i).t == a) = false by rw [beq_eq_false_iff_ne]; intro z; exact hy (by rw [z])]
    simpa using hp
  apply List.ext_getElem (by rw [h3.len, h1.len])
  intro i g1 g2
  have hi : i < m.n.toNat := by rw [h1.len] at g2; exact g2
  have e1 : gi (labT m f s sk' a t) i = (labT m f s sk' a t)[i] := by simp [gi, List.getD, g1]
  have e2 : gi (labT m f s sk a t) i = (labT m f s sk a t)[i] := by simp [gi, List.getD, g2]
  rw [← e1, ← e2]
  rcases h1.nn o1 ht hi with q | ⟨q, q2⟩ <;> rcases h3.nn o2 ht hi with r | ⟨r, r2⟩
  · omega
  · have := tfix_le o1 ht h1 h2 (r2.more hsub); omega
  · obtain ⟨d', z1, z2, z3⟩ := q2.nob o1 ht hsup
    have := tfix_le o2 ht h3 h4 z3; omega
  · have := tfix_le o1 ht h1 h2 (r2.more hsub)
    obtain ⟨d', z1, z2, z3⟩ := q2.nob o1 ht hsup
    have := tfix_le o2 ht h3 h4 z3
    omega
theorem labT_next {m : Mp} (h : OkM m) {f : Nat → Int} {s : List Int} {sk : Int → Bool} {a to t : Int} (ha : 0 ≤ a ∧ a < m.n) (hto : 0 ≤ to ∧ to < m.n) (ht : 0 ≤ t) (hne : a ≠ to) (hd : 0 ≤ gi (labT m f s sk a t) to.toNat) :
    ∃ i, i < m.rs.length ∧ (gr m i).f = a ∧ goB m f s sk i = true ∧ gi (labT m f s sk (gr m i).t (lvT (gr m i) t)) to.toNat = gi (labT m f s sk a t) to.toNat := by
  obtain ⟨h1, h2⟩ := labT_ok h f s sk ha ht
  have o1 := tes_ok h (goB m f s sk)
  rcases h1.ach to.toNat (by omega) with q | q
  · omega
  rcases q.first with ⟨q1, _⟩ | ⟨e, he, q1, q2⟩
  · omega
  · obtain ⟨i, hi, hp, rfl⟩ := tes_mem.1 he
    have ok := roadB_ok (h.r i hi)
    have hf := ok.f; have htt := ok.t
    have hlv := lvT_rng ok t ht
    have q1 : (gr m i).f.toNat = a.toNat := q1
    have q2 : TW (tes m (goB m f s sk) m.rs.length) (gr m i).t.toNat (lvT (gr m i) t) to.toNat (gi (labT m f s sk a t) to.toNat) := q2
    obtain ⟨h3, h4⟩ := labT_ok h f s sk htt (t := lvT (gr m i) t) (by omega)
    have g1 := tfix_le o1 (by omega) h3 h4 q2
    refine ⟨i, hi, by omega, hp, ?_⟩
    rcases h3.ach to.toNat (by omega) with r | r
    · omega
    · have r2 : TW (tes m (goB m f s sk) m.rs.length) a.toNat t to.toNat _ := TW.pre (e := tEd m i) he q1 r
      have g2 := tfix_le o1 ht h1 h2 r2
      omega
def inS (S : List Int) (x : Int) : Bool := decide (x ∈ S)
def soH (m : Mp) (f : Nat → Int) (s : List Int) (to e : Int) (S : List Int) (a t : Int) (i : Nat) : Bool := (gr m i).f == a && !inS S (gr m i).t && usB m f s i && gi (labT m f s (inS S) (gr m i).t (lvT (gr m i) t)) to.toNat == e
def soI (m : Mp) (f : Nat → Int) (s : List Int) (to e : Int) (S : List Int) (a t : Int) : Nat := fstN (soH m f s to e S a t) m.rs.length 0
def soW (m : Mp) (f : Nat → Int) (s : List Int) (to e : Int) : Nat → List Int → Int → Int → List Int
  | 0, _, _, _ => []
  | k + 1, S, a, t => if a = to then [] else (soI m f s to e S a t : Int) :: soW m f s to e k (S ++ [(gr m (soI m f s to e S a t)).t]) (gr m (soI m f s to e S a t)).t (lvT (gr m (soI m f s to e S a t)) t)
def unS (n : Nat) (S : List Int) : Nat := (List.range n).countP fun y : Nat => !inS S y
theorem unS_lt {n : Nat} {S : List Int} {x : Int} (hx : 0 ≤ x ∧ x < n) (h : inS S x = false) : unS n (S ++ [x]) < unS n S :=
  countP_lt (fun z hz q => by
    unfold inS at q ⊢
    simp only [Bool.not_eq_true', decide_eq_false_iff_not, List.mem_append, not_or] at q ⊢
    exact q.1) ⟨x.toNat, List.mem_range.2 (by omega), by rw [show ((x.toNat : Nat) : Int) = x by omega, h]; rfl, by
      unfold inS
      rw [show ((x.toNat : Nat) : Int) = x by omega, decide_eq_true (by simp)]; rfl⟩
structure SoI (m : Mp) (f : Nat → Int) (s : List Int) (to e t0 : Int) (S : List Int) (a t : Int) : Prop where
  ra : 0 ≤ a ∧ a < m.n
  rt : 0 ≤ t ∧ t + 4320 * unS m.n.toNat S ≤ t0 + 4320 * m.n
  ri : inS S a = true
  re : gi (labT m f s (inS S) a t) to.toNat = e
theorem so_next {m : Mp} (h : OkM m) {f : Nat → Int} {s : List Int} {to e t0 : Int} {S : List Int} {a t : Int} (hto : 0 ≤ to ∧ to < m.n) (he : 0 ≤ e) (hI : SoI m f s to e t0 S a t) (hne : a ≠ to) :
    soI m f s to e S a t < m.rs.length ∧ soH m f s to e S a t (soI m f s to e S a t) = true ∧ (∀ j, j < soI m f s to e S a t → soH m f s to e S a t j = false) ∧
    unS m.n.toNat (S ++ [(gr m (soI m f s to e S a t)).t]) < unS m.n.toNat S ∧ SoI m f s to e t0 (S ++ [(gr m (soI m f s to e S a t)).t]) (gr m (soI m f s to e S a t)).t (lvT (gr m (soI m f s to e S a t)) t) := by
  obtain ⟨i, hi, h1, h2, h3⟩ := labT_next h hI.ra hto hI.rt.1 hne (by rw [hI.re]; exact he)
  have hh : soH m f s to e S a t i = true := by
    unfold soH
    unfold goB at h2
    rw [Bool.and_eq_true] at h2
    rw [h1, h3, hI.re, h2.1, h2.2]; simp
  obtain ⟨d, d1, d2, d3, d4⟩ := fst_ex (p := soH m f s to e S a t) m.rs.length 0 i (by omega) (by omega) hh
  have ed : soI m f s to e S a t = d := fst_eq m.rs.length 0 d (by omega) (by omega) d3 d4
  rw [ed]
  have hd3 := d3
  unfold soH at hd3
  simp only [Bool.and_eq_true, beq_iff_eq, Bool.not_eq_true'] at hd3
  obtain ⟨⟨⟨g1, g2⟩, g3⟩, g4⟩ := hd3
  have ok := roadB_ok (h.r d (by omega))
  have htt := ok.t
  have hlv := lvT_rng ok t hI.rt.1
  have hun := unS_lt (n := m.n.toNat) (S := S) (x := (gr m d).t) (by omega) g2
  have h5 := hI.rt
  refine ⟨by omega, d3, fun j hj => d4 j (by omega) hj, hun, ⟨htt, by omega, by unfold inS; exact decide_eq_true (by simp), ?_⟩⟩
  rw [labT_back h (sk := inS S) htt (by omega) (fun x => by
    unfold inS
    by_cases c : x = (gr m d).t
    · rw [decide_eq_true (by simp [c]), c]; simp
    · have : (x ∈ S ++ [(gr m d).t]) ↔ x ∈ S := (fun (y : Int) (hy : ¬ x = y) => (by simp [hy] : x ∈ S ++ [y] ↔ x ∈ S)) _ c
      rw [show (x == (gr m d).t) = false by rw [beq_eq_false_iff_ne]; exact c, Bool.or_false]
      simp only [this])]
  exact g4
theorem so_first {m : Mp} (h : OkM m) {f : Nat → Int} {s : List Int} {fr to t : Int} (hf : 0 ≤ fr ∧ fr < m.n) (ht : 0 ≤ t) : SoI m f s to (gi (labT m f s noP fr t) to.toNat) t [fr] fr t := by
  refine ⟨hf, ?_, by unfold inS; exact decide_eq_true (by simp), ?_⟩
  · have : unS m.n.toNat [fr] ≤ m.n.toNat := by
      have := List.countP_le_length (p := fun y : Nat => !inS [fr] y) (l := List.range m.n.toNat)
      rwa [List.length_range] at this
    omega
  · rw [labT_back h (sk := noP) hf ht (fun x => by unfold inS noP; by_cases c : x = fr <;> simp [c])]
structure Tr where
  f : Int
  t : Int
  c : Int
  w : Int
  a : Int
  h : Int
  o : Int
  l : Int
structure Fx where
  r : Int
  k : Int
  l : Int
  c : Int
def dTr : Tr := ⟨0, 0, 0, 0, 0, 0, 0, 0⟩
def dFx : Fx := ⟨0, 0, 0, 0⟩
structure OTr (x : Tr) : Prop where
  f : 0 ≤ x.f ∧ x.f ≤ 255
  t : 0 ≤ x.t ∧ x.t ≤ 255
  c : 0 ≤ x.c ∧ x.c ≤ 255
  w : 0 ≤ x.w ∧ x.w ≤ 255
  a : 0 ≤ x.a ∧ x.a ≤ 255
  h : 0 ≤ x.h ∧ x.h ≤ 255
  o : 0 ≤ x.o ∧ x.o ≤ 255
  l : 0 ≤ x.l ∧ x.l ≤ 255
structure OFx (x : Fx) : Prop where
  r : 0 ≤ x.r ∧ x.r ≤ 255
  k : 0 ≤ x.k ∧ x.k ≤ 255
  l : 0 ≤ x.l ∧ x.l ≤ 255
  c : 0 ≤ x.c ∧ x.c ≤ 255
def rdT (t : Tr) : Rd := ⟨t.f % 5, (t.f % 5 + 1 + t.t % 4) % 5, 1 + t.c, 10 + t.c % 50, t.o * 3, min 1440 (t.o * 3 + (10 + t.c % 50) + t.l * 4), 1200 + 20 * t.h, 100000, 10000 + 200 * t.w, 3000 + 50 * t.a, 100000, 100000⟩
def kdF (k : Int) : Int := if k % 3 = 0 then 0 else if k % 3 = 1 then 2 else 3
def mxF (k : Int) : Int := if k % 3 = 0 then 6000 else if k % 3 = 1 then 80000 else 20000
def wkF (n : Int) (x : Fx) : Wrk := ⟨[x.r % n], kdF x.k, mxF x.k * (1 + x.l) / 256, 1 + x.c⟩
def rdA (l : List Tr) : List Rd := (l.take 12).map rdT
def wkA (n : Nat) (fs : List Fx) : List Wrk := if n = 0 then [] else (fs.take 4).map (wkF n)
def atl (l : List Tr) (fs : List Fx) : Mp := ⟨5, rdA l, wkA (rdA l).length fs⟩
theorem rdT_ok {t : Tr} (h : OTr t) : roadB 5 (rdT t) = true := by
  obtain ⟨h1, h2, h3, h4, h5, h6, h7, h8⟩ := h
  unfold roadB plB hrsB
  simp only [Bool.and_eq_true, decide_eq_true_eq, Bool.not_eq_true', beq_eq_false_iff_ne, inR_iff]
  have e : szB (rdT t).lim = true := szB_iff.2 fun k hk => by
    rcases k with _ | _ | _ | _ | _ | _ | k <;> first | omega | (simp only [Rd.lim, rdT]; omega)
  refine ⟨⟨⟨⟨⟨?_, ?_⟩, ?_⟩, ?_⟩, ?_⟩, e⟩ <;> simp only [rdT] <;> omega
theorem wkF_ok {n : Int} (hn : 0 < n) {x : Fx} (h : OFx x) : workB n (wkF n x) = true := by
  obtain ⟨h1, h2, h3, h4⟩ := h
  have hm : 0 ≤ x.r % n ∧ x.r % n < n := ⟨Int.emod_nonneg _ (by omega), Int.emod_lt_of_pos _ hn⟩
  have hk : 0 ≤ kdF x.k ∧ kdF x.k ≤ 5 := by unfold kdF; split <;> (try split) <;> omega
  have hx : 0 ≤ mxF x.k ∧ mxF x.k ≤ 80000 := by unfold mxF; split <;> (try split) <;> omega
  have hp : 0 ≤ mxF x.k * (1 + x.l) ∧ mxF x.k * (1 + x.l) ≤ 80000 * 256 := ⟨Int.mul_nonneg hx.1 (by omega), Int.mul_le_mul hx.2 (by omega) (by omega) (by omega)⟩
  have hs : setB [x.r % n] n = true := srt_setB ⟨hm.1, hm.2, trivial⟩
  unfold workB
  simp only [Bool.and_eq_true, decide_eq_true_eq, inR_iff]
  refine ⟨⟨⟨⟨⟨?_, hs⟩, ?_⟩, ?_⟩, ?_⟩, ?_⟩ <;> simp only [wkF] <;> first | (simp; done) | omega
theorem atl_len (l : List Tr) (fs : List Fx) : (atl l fs).rs.length ≤ 12 ∧ (atl l fs).ws.length ≤ 4 ∧ (rdA l).length = min 12 l.length := by
  have h1 : (rdA l).length = min 12 l.length := by simp [rdA]
  refine ⟨Nat.le_trans (Nat.le_of_eq h1) (Nat.min_le_left _ _), ?_, h1⟩
  show (wkA _ fs).length ≤ 4
  unfold wkA
  split
  · simp
  · simp only [List.length_map, List.length_take]; omega
theorem wkA_mem {n : Nat} {fs : List Fx} {w : Wrk} (h : w ∈ wkA n fs) : 0 < n ∧ ∃ x ∈ fs, w = wkF n x := by
  unfold wkA at h
  split at h
  · cases h
  · obtain ⟨x, hx, rfl⟩ := List.mem_map.1 h
    exact ⟨by omega, x, List.mem_of_mem_take hx, rfl⟩
theorem atl_gm (l : List Tr) (fs : List Fx) : Gm (atl l fs) := by
  obtain ⟨h1, h2, _⟩ := atl_len l fs
  exact ⟨by omega, by omega, fun w hw => by
    obtain ⟨_, x, _, rfl⟩ := wkA_mem hw
    simp [wkF]⟩
theorem atl_chk {l : List Tr} {fs : List Fx} (hl : ∀ t ∈ l, OTr t) (hf : ∀ x ∈ fs, OFx x) : chkM (atl l fs) = 0 := by
  obtain ⟨h1, h2, _⟩ := atl_len l fs
  have m1 : manyB (atl l fs) = false := by
    rw [← Bool.not_eq_true]
    unfold manyB
    simp only [Bool.or_eq_true, decide_eq_true_eq, List.any_eq_true, not_or, not_exists, not_and]
    refine ⟨⟨by omega, by omega⟩, fun w hw => ?_⟩
    obtain ⟨_, x, _, rfl⟩ := wkA_mem hw
    simp [wkF]
  have m2 : badM (atl l fs) = false := by
    rw [← Bool.not_eq_true]
    unfold badM
    simp only [Bool.or_eq_true, decide_eq_true_eq, List.any_eq_true, not_or, not_exists, not_and, Bool.not_eq_true', Bool.not_eq_false]
    refine ⟨⟨⟨by show ¬ ((5 : Int) < 1); omega, by show ¬ ((64 : Int) < 5); omega⟩, fun r hr => ?_⟩, fun w hw => ?_⟩
    · obtain ⟨t, ht, rfl⟩ := List.mem_map.1 (show r ∈ rdA l from hr)
      exact rdT_ok (hl t (List.mem_of_mem_take ht))
    · obtain ⟨hn, x, hx, rfl⟩ := wkA_mem hw
      exact wkF_ok (n := ((rdA l).length : Int)) (by omega) (hf x hx)
  unfold chkM
  rw [m1, if_neg (by decide), m2, if_neg (by decide)]
structure Rte (m : Mp) (f : Nat → Int) (fr to : Int) (s : List Int) (n : Int) : Prop where
  srt : Srt m.ws.length 0 s
  us : ∀ x ∈ wayS m f fr to s, usB m f s x.toNat = true
  rg : ∀ x ∈ wayS m f fr to s, 0 ≤ x ∧ x < m.rs.length
  len : (wayS m f fr to s).length ≤ 64
  ir : irV m fr to (wayS m f fr to s) = true ∧ irE m fr to (wayS m f fr to s) = 0
theorem chE_of {m : Mp} {f : Nat → Int} {fr to : Int} (hc : chkM m = 0) (hz : szE f = 0) (hf : 0 ≤ fr ∧ fr < m.n) (ht : 0 ≤ to ∧ to < m.n) : opE m f = 0 ∧ chE m f fr to = bE (bestS m f fr to) ∧ chV m f fr to = bestS m f fr to := by
  have ho : opE m f = 0 := by unfold opE; rw [if_pos hc]; exact hz
  have p : plB m.n fr = true ∧ plB m.n to = true := by
    unfold plB
    simp only [Bool.and_eq_true, decide_eq_true_eq]
    exact ⟨hf, ht⟩
  refine ⟨ho, ?_, ?_⟩
  · unfold chE; rw [if_pos ho, if_pos p]
  · unfold chV; rw [if_pos ho, if_pos p]
def ptL (m : Mp) (xs : List Int) (t : Int) (i : Nat) : Int := (xs.take i).foldl (fun t x => lvT (gr m x.toNat) t) t
theorem pt_succ {m : Mp} {xs : List Int} {t : Int} {i : Nat} (h : i < xs.length) : ptL m xs t (i + 1) = lvT (gr m (gi xs i).toNat) (ptL m xs t i) := by
  unfold ptL
  rw [take_snoc h, List.foldl_append]; rfl
theorem so_drv {m : Mp} (h : OkM m) {f : Nat → Int} {s : List Int} {to e t0 : Int} (hto : 0 ≤ to ∧ to < m.n) (he : 0 ≤ e) : ∀ (k : Nat) (S : List Int) (a t : Int), SoI m f s to e t0 S a t → unS m.n.toNat S < k →
    (∀ x ∈ soW m f s to e k S a t, 0 ≤ x ∧ x < m.rs.length) ∧ (soW m f s to e k S a t).foldl (fun t x => lvT (gr m x.toNat) t) t = e ∧ (soW m f s to e k S a t).length ≤ unS m.n.toNat S ∧ (soW m f s to e k S a t = [] → a = to)
  | 0, S, a, t, _, hu => absurd hu (Nat.not_lt_zero _)
  | k + 1, S, a, t, hI, hu => by
    by_cases ha : a = to
    · have es : soW m f s to e (k + 1) S a t = [] := by simp only [soW]; exact if_pos ha
      rw [es]
      refine ⟨fun x hx => (by cases hx), ?_, by simp, fun _ => ha⟩
      have h1 := hI.re
      rw [← ha] at h1
      have := (labT_ok h f s (inS S) hI.ra hI.rt.1).1.src
      rw [this] at h1
      exact h1
    · have es : soW m f s to e (k + 1) S a t = (soI m f s to e S a t : Int) :: soW m f s to e k (S ++ [(gr m (soI m f s to e S a t)).t]) (gr m (soI m f s to e S a t)).t (lvT (gr m (soI m f s to e S a t)) t) := by simp only [soW]; exact if_neg ha
      rw [es]
      obtain ⟨h1, h2, h3, h4, h5⟩ := so_next h hto he hI ha
      obtain ⟨i1, i2, i3, _⟩ := so_drv h hto he k _ _ _ h5 (by omega)
      refine ⟨?_, ?_, ?_, fun q => by cases q⟩
      · intro x hx
        rcases List.mem_cons.1 hx with rfl | hx
        · omega
        · exact i1 x hx
      · rw [List.foldl_cons]
        exact i2
      · rw [List.length_cons]; omega
theorem uns_one {n : Nat} {a : Int} (h : 0 ≤ a ∧ a < n) : unS n [a] < n := by
  have h1 : unS n [a] < unS n [] := unS_lt (S := []) h (by unfold inS; rfl)
  have h2 := List.countP_le_length (p := fun y : Nat => !inS [] y) (l := List.range n)
  rw [List.length_range] at h2
  exact Nat.lt_of_lt_of_le h1 h2
end Go.Proofs.YtlahcoaofbpinaaGreat.R
