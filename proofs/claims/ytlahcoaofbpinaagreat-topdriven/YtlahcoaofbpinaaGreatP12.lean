/- Part 12 of the proof of: TopDriven: for every input the law returns true -/
import Derived.Test.YtlahcoaofbpinaaGreatP11
namespace Go.Proofs.YtlahcoaofbpinaaGreat.R
open Go Sy
set_option maxRecDepth 100000
set_option maxHeartbeats 4000000
set_option linter.unusedVariables false
set_option linter.unusedSimpArgs false
theorem fn5 (m : Mp) (f : Nat → Int) (s : List Int) (fr to t : Int) (hm : Gm m) (hl : s.length ≤ 1000000) : Sy.Fn Tryz.prog 5 [aM m, .agg (c6 f), aI s, iv fr, iv to, iv t] (.tup [aI (soR m f s fr to t), iv (soT m f s fr to t), iv (soE m f s fr to t)]) := by
  refine Fn_of_W mixed Xt5 rfl ?_
  have c8 := fn8 m f s fr to t hm hl
  have hv : opV m f = cAt m f ∨ opV m f = zAt := by
    unfold opV
    split
    · exact .inl rfl
    · exact .inr rfl
  by_cases h0 : dpE m f s fr to t = 0
  rotate_left
  · have e1 : soE m f s fr to t = dpE m f s fr to t := by unfold soE; rw [if_neg h0]
    have e2 : soR m f s fr to t = [] := by unfold soR; rw [e1, if_neg h0]
    have e3 : soT m f s fr to t = 0 := by unfold soT; rw [e1, if_neg h0]
    rw [e1, e2, e3]
    generalize dpE m f s fr to t = e at *
    rcases hv with hv | hv
    all_goals
      rw [hv] at c8
      try unfold zAt at c8
      (refine go_c c8 ?_; try exact True.intro)
      refine W_cond (by rfl) (fun h => ?_) (fun h => absurd (by simpa using h) h0)
      (refine go0 ?_; try exact True.intro)
      refine W_le (le_nil 12 1 0 cI rfl) ?_
      exact W_ret ⟨[_, _, _], ⟨rfl, rfl, rfl, rfl⟩, rfl⟩
  have D := dep_of h0
  have hok := chkM_ok D.hc
  have hn := hok.n
  have hnr := hok.nr
  have hfr := D.hf
  have hto := D.ht
  have hta := D.ha
  have hss := D.hs
  obtain ⟨n, hnn⟩ : ∃ n : Nat, m.n = n := ⟨m.n.toNat, by omega⟩
  have hvo : opV m f = cAt m f := by unfold opV; rw [if_pos D.hc]
  have c9 := fn9 s m.ws.length hok.nw hss
  have c10 := fw10 m f s fr t (List.replicate n false) hok hss hfr (by omega) (by rw [List.length_replicate]; omega)
  rw [snL_nil, labT_sn hok f s hnn, labT_nil, ← snL_nil] at c10
  have hll : ∀ (sk : Int → Bool) (a t : Int), 0 ≤ a ∧ a < m.n → 0 ≤ t → (labT m f s sk a t).length = m.n.toNat := fun sk a t ha ht => (labT_ok hok f s sk ha ht).1.len
  have hl0 := hll noP fr t hfr hta.1
  have hU : (labT m f s noP fr t).getD to.toNat 0 = soU m f s fr to t := rfl
  rw [h0, hvo] at c8
  have E1 : soE m f s fr to t = if soU m f s fr to t < 0 then 15 else 0 := by unfold soE; rw [if_pos h0]
  have hI := sq_ini hok (f := f) (s := s) (to := to) hfr hta.1
  have E2 : soE m f s fr to t = 0 → soR m f s fr to t = soW m f s to (soU m f s fr to t) (m.n.toNat + 1) [fr] fr t ∧ soT m f s fr to t = soU m f s fr to t := fun q => ⟨by unfold soR; rw [if_pos q], by unfold soT; rw [if_pos q]⟩
  have E3 : soE m f s fr to t = 15 → soR m f s fr to t = [] ∧ soT m f s fr to t = 0 := fun q => ⟨by unfold soR; rw [if_neg (by rw [q]; decide)], by unfold soT; rw [if_neg (by rw [q]; decide)]⟩
  have c11 := fun i hi => fn11 m f s (msk s) i hok (setW_msk hss) hi
  have c10' := fun a t V ha ht => fw10 m f s a t (snL n V) hok hss ha ht (by rw [snL_len]; omega)
  generalize soW m f s to (soU m f s fr to t) (m.n.toNat + 1) [fr] fr t = R at *
  generalize soU m f s fr to t = U at *
  generalize soR m f s fr to t = SR at *
  generalize soT m f s fr to t = ST at *
  generalize soE m f s fr to t = SE at *
  generalize labT m f s noP fr t = LB at *
  generalize msk s = ME at *
  (refine go_c c8 ?_; try exact True.intro)
  refine W_cond (by rfl) (fun h => by cases h) (fun _ => ?_)
  (refine gofc hnn c9 ?_; try exact True.intro)
  refine ⟨rfl, ⟨by omega, by omega, by omega⟩, Bool, false, cB, false, rfl, rfl, by omega, rfl, ?_⟩
  simp (maxSteps := 400000) (disch := omega) only [push_cast, ↓reduceIte, reduceCtorEq, Nat.reduceAdd, Nat.reduceSub, Nat.reduceEqDiff, Nat.reduceLeDiff, Nat.reduceLT, Nat.reduceBEq, Nat.reduceDiv, Nat.reduceMod, Nat.reducePow, Nat.reduceMul, Int.reduceToNat, Int.reduceLT, Int.reduceLE, Int.toNat_natCast]
  repeat' (first | refine w1g ?_ | refine w1l ?_ | refine w1q ?_ | refine w1b ?_ | refine w1p ?_ | ((first | refine w1r ?_ | refine w1k ?_ | refine w1e ?_); (refine syf (ad2 hU hl0) ?_; try exact True.intro)) | refine an2 ?_ | (refine CallC.new _ (fun _ => ⟨trivial, c10⟩) ?_; (refine syf (ad2 hU hl0) ?_; try exact True.intro)) | fail)
  refine W_condD (by rfl) (fun hz => ?_) (fun hz => ?_)
  · rw [if_pos hz] at E1
    obtain ⟨x1, x2⟩ := E3 E1
    rw [E1, x1, x2]
    (refine go0 ?_; try exact True.intro)
    refine W_le (le_nil 12 1 0 cI rfl) ?_
    exact W_ret ⟨[_, _, _], ⟨rfl, rfl, rfl, rfl⟩, rfl⟩
  rw [if_neg hz] at E1
  obtain ⟨x1, x2⟩ := E2 E1
  rw [E1, x1, x2]
  (refine go0 ?_; try exact True.intro)
  refine W_le (le_adopt 20 3 1 0 cI (by omega) rfl) ?_
  (refine sy1 ?_; try exact True.intro)
  rw [snL_nil]
  refine W_loopU (fun q : SQ => [(20, .row 40 q.o.length), (3, iv q.a), (5, iv q.t)]) (fun q => [(40, .row q.o.length 3 1 0 cI q.o), (25, .row 0 4 1 false cB (snL n q.S))]) (fun q => SQok m f s fr to t U R ⟨q.k, q.S ++ [q.a], q.a, q.t, q.o⟩) (fun q => q.k) ⟨m.n.toNat + 1, [], fr, t, []⟩ hI (by rfl) (by rfl) (fun q hq => ?_)
  have hend := sq_end hq
  have hnx := sq_next hok hto (by omega) hq
  have hqi := hq.i
  have hqu := hq.u
  have hql := hq.l
  have hqn := hq.n
  clear hq hI
  obtain ⟨k, V, a, u, O⟩ := q
  dsimp only at hend hnx hqi hqu hql hqn ⊢
  (refine sy1 ?_; try exact True.intro)
  (refine go0 ?_; try exact True.intro)
  refine W_cond (by rfl) (fun hb => ?_) (fun hb => ?_)
  rotate_left
  · have hat : a = to := by simpa using hb
    rw [← hend hat]
    (refine go0 ?_; try exact True.intro)
    refine W_ret ⟨[_, _, _], ⟨rfl, rfl, rfl, rfl⟩, ?_⟩
    (refine syP ?_; try exact True.intro)
  have hne : a ≠ to := by rw [bne_iff_ne] at hb; exact hb
  obtain ⟨x, q1, q2, q3, q4⟩ := hnx hne
  clear hend hnx
  have hra := hqi.ra
  have hrt := hqi.rt
  have hst := snL_set (n := n) (S := V) (a := a) (by omega)
  have hvl := snL_len n V
  (refine gof hvl ?_; try exact True.intro)
  refine ⟨rfl, ⟨Nat.le_of_ble_eq_true rfl, rfl⟩, by omega, true, rfl, rfl, ?_⟩
  rw [hst]
  clear hst hvl
  generalize V ++ [a] = Z at *
  (refine sy1 ?_; try exact True.intro)
  (refine go0 ?_; try exact True.intro)
  refine W_loopU (fun i : Nat => [(62, iv i)]) (fun i => []) (fun i => i ≤ m.rs.length ∧ ∀ j, j < i → soH m f s to U Z a u j = false) (fun i => m.rs.length - i) 0 ⟨by omega, fun j hj => by omega⟩ (by rfl) (by rfl) (fun i hi => ?_)
  obtain ⟨w1, w3⟩ := hi
  (refine sy1 ?_; try exact True.intro)
  (refine go0 ?_; try exact True.intro)
  refine W_condD (by rfl) (fun h6 => ?_) (fun h6 => ?_)
  rotate_left
  · rw [w3 x (by omega)] at q2; cases q2
  have hil : i < m.rs.length := by omega
  have ok := roadB_ok (hok.r i hil)
  have ofr := ok.f; have otr := ok.t
  have hgr : m.rs.getD i dR = gr m i := rfl
  have hlv := lvT_rng ok u hrt.1
  have c11 := c11 i hil
  have c12 := fn12 m.n (gr m i) u ok (by omega)
  have c10 := c10' (gr m i).t (lvT (gr m i) u) Z otr (by omega)
  rw [labT_sn hok f s hnn] at c10
  have hl1 := hll (inS Z) (gr m i).t (lvT (gr m i) u) otr (by omega)
  have hzl := snL_len n Z
  have hzg := snL_get (n := n) (S := Z) (x := (gr m i).t) (by omega)
  have hhb : soH m f s to U Z a u i = ((gr m i).f == a && !inS Z (gr m i).t && usB m f s i && (labT m f s (inS Z) (gr m i).t (lvT (gr m i) u)).getD to.toNat 0 == U) := rfl
  have hno : soH m f s to U Z a u i = false → ∀ j, j < i + 1 → soH m f s to U Z a u j = false := fun h j hj => by
    rcases Nat.lt_or_ge j i with g | g
    · exact w3 j g
    · rw [show j = i by omega]; exact h
  obtain ⟨H, hH⟩ : ∃ H, H = soH m f s to U Z a u i := ⟨_, rfl⟩
  rw [← hH] at hhb hno
  generalize inS Z (gr m i).t = B1 at *
  generalize usB m f s i = B2 at *
  generalize labT m f s (inS Z) (gr m i).t (lvT (gr m i) u) = L1 at *
  (refine gofg (ad3 hgr hzl hzg) c11 ?_; try exact True.intro)
  refine W_cond (by rfl) (fun hz => ?_) (fun hz => ?_)
  · have hh : H = false := by
      rw [hhb]
      simp only [Bool.or_eq_true, bne_iff_ne, Bool.not_eq_true'] at hz
      rcases hz with (z | z) | z
      · rw [show ((gr m i).f == a) = false by rw [beq_eq_false_iff_ne]; exact z]; rfl
      · rw [z]; simp
      · rw [z]; simp
    have hno := hno hh
    (refine go0 ?_; try exact True.intro)
    refine ⟨i + 1, ⟨by omega, hno⟩, by omega, by rfl, ?_⟩
    (refine syE ?_; try exact True.intro)
  simp only [Bool.or_eq_false_iff, bne_eq_false_iff_eq, Bool.not_eq_false'] at hz
  obtain ⟨⟨z1, z2⟩, z3⟩ := hz
  rw [z1, z2, z3, beq_self_eq_true, Bool.not_false, Bool.and_self, Bool.true_and, Bool.true_and] at hhb
  (refine gofc (ad2 hgr hl1) c12 ?_; try exact True.intro)
  repeat' (first | refine w1g ?_ | refine w1l ?_ | refine w1q ?_ | refine w1b ?_ | refine w1p ?_ | ((first | refine w1r ?_ | refine w1k ?_ | refine w1e ?_); (refine syf (ad2 hgr hl1) ?_; try exact True.intro)) | refine an2 ?_ | (refine CallC.new _ (fun _ => ⟨trivial, c10⟩) ?_; (refine syf (ad2 hgr hl1) ?_; try exact True.intro)) | fail)
  refine W_cond (by rfl) (fun hc => ?_) (fun hc => ?_)
  rotate_left
  · rw [hc] at hhb
    have hno := hno hhb
    (refine go0 ?_; try exact True.intro)
    refine ⟨i + 1, ⟨by omega, hno⟩, by omega, by rfl, ?_⟩
    (refine syE ?_; try exact True.intro)
  rw [hc] at hhb
  have hix : i = x := fst_at q2 q3 (hH ▸ hhb) w3
  subst hix
  (refine go0 ?_; try exact True.intro)
  refine ⟨rfl, trivial, Int, 0, cI, [(i : Int)], rfl, by omega, fun x _ => ⟨rfl, rfl⟩, rfl, ?_⟩
  (refine sy1 ?_; try exact True.intro)
  refine ⟨rfl, ⟨Nat.le_of_ble_eq_true rfl, rfl⟩, trivial, [(i : Int)], rfl, by first | omega | (simp; omega), by first | omega | (simp; omega), ?_⟩
  (refine sy1 ?_; try exact True.intro)
  (refine gof hgr ?_; try exact True.intro)
  refine ⟨⟨k - 1, Z, (gr m i).t, lvT (gr m i) u, O ++ [(i : Int)]⟩, q4, by dsimp only; omega, by rfl, ?_⟩
  dsimp only
  rw [List.length_append]
  (refine syE ?_; try exact True.intro)
end Go.Proofs.YtlahcoaofbpinaaGreat.R
