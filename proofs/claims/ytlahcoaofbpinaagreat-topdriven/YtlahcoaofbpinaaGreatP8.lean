/- Part 8 of the proof of: TopDriven: for every input the law returns true -/
import Derived.Test.YtlahcoaofbpinaaGreatP7
import Derived.Test.YtlahcoaofbpinaaGreatChecked
import Derived.WalkKit
import Derived.Deep.RegionLaw
import Derived.Lib.Walk
import Derived.Lib.SliceRun
import Derived.OwnWalk
namespace Go.Proofs.YtlahcoaofbpinaaGreat.R
open Go Sy
set_option maxRecDepth 100000
set_option maxHeartbeats 4000000
set_option linter.unusedVariables false
set_option linter.unusedSimpArgs false
def hl1 (m : Mp) (f : Nat → Int) (w r k : Nat) : List Ld := if (ldsB m f r k && hpsB m f w r k) = true then [⟨r, k⟩] else []
def evP (w : Nat) (q : Int) (x : Ld) : Prt := ⟨w, x.r, x.k, q⟩
def evS (w : Nat) (q : Int) (l : List Ld) (j : Nat) : List Prt := (l.take j).map (evP w q) ++ (l.drop j).map (evP w 0)
def dpB (m : Mp) (s : List Int) (fr to t : Int) : Bool := setB s m.ws.length && (plB m.n fr && plB m.n to) && inR t 0 1099511627776
def dpE (m : Mp) (f : Nat → Int) (s : List Int) (fr to t : Int) : Int := if opE m f = 0 then (if dpB m s fr to t = true then 0 else 3) else opE m f
structure Dep (m : Mp) (f : Nat → Int) (s : List Int) (fr to t : Int) : Prop where
  hc : chkM m = 0
  hz : szE f = 0
  hs : Srt m.ws.length 0 s
  hf : 0 ≤ fr ∧ fr < m.n
  ht : 0 ≤ to ∧ to < m.n
  ha : 0 ≤ t ∧ t ≤ 1099511627776
theorem dep_of {m : Mp} {f : Nat → Int} {s : List Int} {fr to t : Int} (h : dpE m f s fr to t = 0) : Dep m f s fr to t := by
  unfold dpE at h
  by_cases h0 : opE m f = 0
  · rw [if_pos h0] at h
    by_cases h1 : dpB m s fr to t = true
    · unfold dpB plB at h1
      simp only [Bool.and_eq_true, decide_eq_true_eq, inR_iff] at h1
      have hchk : chkM m = 0 ∧ szE f = 0 := by
        unfold opE at h0
        by_cases q : chkM m = 0
        · rw [if_pos q] at h0; exact ⟨q, h0⟩
        · rw [if_neg q] at h0; exact absurd h0 q
      exact ⟨hchk.1, hchk.2, setB_srt h1.1.1, h1.1.2.1, h1.1.2.2, h1.2⟩
    · rw [if_neg h1] at h; omega
  · rw [if_neg h0] at h; exact absurd h h0
theorem fn8 (m : Mp) (f : Nat → Int) (s : List Int) (fr to t : Int) (hm : Gm m) (hl : s.length ≤ 1000000) : Sy.Fn Tryz.prog 8 [aM m, .agg (c6 f), aI s, iv fr, iv to, iv t] (.tup [.agg (opV m f), iv (dpE m f s fr to t)]) := by
  refine Fn_of_W mixed Xt8 rfl ?_
  have c21 := fn21 m f hm
  have c22 := fn22 s m.ws.length (by omega)
  have c23 := fn23 m [fr, to] (by simp)
  have c24 := fn24 t 0 1099511627776
  have hw := hm.w
  have hv : opV m f = cAt m f ∨ opV m f = zAt := by
    unfold opV
    split
    · exact .inl rfl
    · exact .inr rfl
  by_cases h0 : opE m f = 0
  rotate_left
  · have e1 : dpE m f s fr to t = opE m f := by unfold dpE; rw [if_neg h0]
    rw [e1]
    generalize opE m f = e at *
    rcases hv with hv | hv
    all_goals
      rw [hv] at c21 ⊢
      try unfold zAt at c21 ⊢
      (refine go_c c21 ?_; try exact True.intro)
      refine W_cond (by rfl) (fun h => ?_) (fun h => absurd (by simpa using h) h0)
      (refine go0 ?_; try exact True.intro)
      exact W_ret ⟨[_, _], ⟨⟨⟨trivial, Nat.le_of_eq rfl⟩, rfl⟩, rfl, rfl⟩, rfl⟩
  have hchk : chkM m = 0 := by
    unfold opE at h0
    by_cases q : chkM m = 0
    · exact q
    · rw [if_neg q] at h0; exact absurd h0 q
  have hv : opV m f = cAt m f := by unfold opV; rw [if_pos hchk]
  have e1 : dpE m f s fr to t = if dpB m s fr to t = true then 0 else 3 := by unfold dpE; rw [if_pos h0]
  have e2 : dpB m s fr to t = (setB s m.ws.length && (plB m.n fr && plB m.n to) && inR t 0 1099511627776) := rfl
  have hpl : plsB m [fr, to] = (plB m.n fr && plB m.n to) := by simp [plsB]
  rw [hpl] at c23
  rw [h0, hv] at c21
  rw [hv, e1, e2]
  generalize inR t 0 1099511627776 = b4 at *
  generalize (plB m.n fr && plB m.n to) = b2 at *
  cases hb1 : setB s m.ws.length
  · rw [hb1] at c22
    (refine go_c c21 ?_; try exact True.intro)
    refine W_cond (by rfl) (fun h => by cases h) (fun h => ?_)
    refine W_skip ?_
    (refine sy1 ?_; try exact True.intro)
    repeat (first | refine WK_go ?_ | refine W_seqL ?_ | refine W_seq ?_ | refine W_block ?_)
    refine W_regG [10] ?_
    simp (maxSteps := 400000) (disch := omega) only [push_cast, ↓reduceIte, reduceCtorEq, Nat.reduceAdd, Nat.reduceSub, Nat.reduceEqDiff, Nat.reduceLeDiff, Nat.reduceLT, Nat.reduceBEq, Nat.reduceDiv, Nat.reduceMod, Nat.reducePow, Nat.reduceMul, Int.reduceToNat, Int.reduceLT, Int.reduceLE, chainG, List.take_succ_cons, List.take_zero, List.drop_succ_cons, List.drop_zero]
    refine CallC.now c22 ?_
    simp (maxSteps := 400000) (disch := omega) only [push_cast, ↓reduceIte, reduceCtorEq, Nat.reduceAdd, Nat.reduceSub, Nat.reduceEqDiff, Nat.reduceLeDiff, Nat.reduceLT, Nat.reduceBEq, Nat.reduceDiv, Nat.reduceMod, Nat.reducePow, Nat.reduceMul, Int.reduceToNat, Int.reduceLT, Int.reduceLE, chainG, List.take_succ_cons, List.take_zero, List.drop_succ_cons, List.drop_zero]
    refine SpG_no rfl rfl ?_
    simp (maxSteps := 400000) (disch := omega) only [push_cast, ↓reduceIte, reduceCtorEq, Nat.reduceAdd, Nat.reduceSub, Nat.reduceEqDiff, Nat.reduceLeDiff, Nat.reduceLT, Nat.reduceBEq, Nat.reduceDiv, Nat.reduceMod, Nat.reducePow, Nat.reduceMul, Int.reduceToNat, Int.reduceLT, Int.reduceLE, chainG]
    refine CallC.go (iv 0) (fun hpc => absurd hpc (by simp [Sy.pc])) rfl ?_
    (refine sy1 ?_; try exact True.intro)
    refine CallC.go (bv false) (fun hpc => absurd hpc (by simp [Sy.pc])) rfl ?_
    (refine sy1 ?_; try exact True.intro)
    (refine go0 ?_; try exact True.intro)
    refine W_cond (by rfl) (fun _ => ?_) (fun h => by cases h)
    (refine go0 ?_; try exact True.intro)
    exact W_ret ⟨[_, _], ⟨⟨⟨trivial, Nat.le_of_eq rfl⟩, rfl⟩, rfl, rfl⟩, rfl⟩
  · rw [hb1] at c22
    (refine go_c c21 ?_; try exact True.intro)
    refine W_cond (by rfl) (fun h => by cases h) (fun h => ?_)
    refine W_skip ?_
    (refine sy1 ?_; try exact True.intro)
    repeat (first | refine WK_go ?_ | refine W_seqL ?_ | refine W_seq ?_ | refine W_block ?_)
    refine W_regG [10] ?_
    simp (maxSteps := 400000) (disch := omega) only [push_cast, ↓reduceIte, reduceCtorEq, Nat.reduceAdd, Nat.reduceSub, Nat.reduceEqDiff, Nat.reduceLeDiff, Nat.reduceLT, Nat.reduceBEq, Nat.reduceDiv, Nat.reduceMod, Nat.reducePow, Nat.reduceMul, Int.reduceToNat, Int.reduceLT, Int.reduceLE, chainG, List.take_succ_cons, List.take_zero, List.drop_succ_cons, List.drop_zero]
    refine CallC.now c22 ?_
    simp (maxSteps := 400000) (disch := omega) only [push_cast, ↓reduceIte, reduceCtorEq, Nat.reduceAdd, Nat.reduceSub, Nat.reduceEqDiff, Nat.reduceLeDiff, Nat.reduceLT, Nat.reduceBEq, Nat.reduceDiv, Nat.reduceMod, Nat.reducePow, Nat.reduceMul, Int.reduceToNat, Int.reduceLT, Int.reduceLE, chainG, List.take_succ_cons, List.take_zero, List.drop_succ_cons, List.drop_zero]
    refine SpG_go rfl (by simp [underAll, under, covers, findL, R.uops, R.opds, ev, lk]) rfl ?_
    simp (maxSteps := 400000) (disch := omega) only [push_cast, ↓reduceIte, reduceCtorEq, Nat.reduceAdd, Nat.reduceSub, Nat.reduceEqDiff, Nat.reduceLeDiff, Nat.reduceLT, Nat.reduceBEq, Nat.reduceDiv, Nat.reduceMod, Nat.reducePow, Nat.reduceMul, Int.reduceToNat, Int.reduceLT, Int.reduceLE, chainG]
    refine ⟨rfl, trivial, Int, 0, cI, [fr, to], rfl, by omega, fun x _ => ⟨rfl, rfl⟩, rfl, ?_⟩
    (refine sy1 ?_; try exact True.intro)
    cases b2
    · repeat' (first | refine w1g ?_ | refine w1l ?_ | refine w1q ?_ | refine w1b ?_ | refine w1p ?_ | ((first | refine w1r ?_ | refine w1k ?_ | refine w1e ?_ | refine CallC.go _ (fun _ => ⟨trivial, c23⟩) rfl ?_); (refine sy1 ?_; try exact True.intro)) | refine an2 ?_ | (refine CallC.go (bv false) (fun hpc => absurd hpc (by simp [Sy.pc])) rfl ?_; (refine sy1 ?_; try exact True.intro)) | fail)
      refine W_cond (by rfl) (fun _ => ?_) (fun h => by cases h)
      (refine go0 ?_; try exact True.intro)
      exact W_ret ⟨[_, _], ⟨⟨⟨trivial, Nat.le_of_eq rfl⟩, rfl⟩, rfl, rfl⟩, rfl⟩
    · (refine go_gg c23 c24 ?_; try exact True.intro)
      cases b4
      · refine W_cond (by rfl) (fun _ => ?_) (fun h => by cases h)
        (refine go0 ?_; try exact True.intro)
        exact W_ret ⟨[_, _], ⟨⟨⟨trivial, Nat.le_of_eq rfl⟩, rfl⟩, rfl, rfl⟩, rfl⟩
      · refine W_cond (by rfl) (fun h => by cases h) (fun _ => ?_)
        (refine go0 ?_; try exact True.intro)
        exact W_ret ⟨[_, _], ⟨⟨⟨trivial, Nat.le_of_eq rfl⟩, rfl⟩, rfl, rfl⟩, rfl⟩
theorem finN_of_finO {rv : List RV} {T n : Nat} {α : Type} {d : α} {F : α → List AV} {l : List α} (hp : ∀ x ∈ l, pureAll (F x) = true) : ∀ e s, FinO rv T n d F l e s → FinN rv (.sl n d F l) e s := fun e s q => by
  have key : ∀ k st, lm s.mem k = some (.row st T n d F l) → pack ([AV.row k st].map (view (lm s.mem) 4)) = .sl n d F l ∧ newL (lm s.mem) [AV.row k st] := fun k st h => by
    refine ⟨by simp only [List.map_cons, List.map_nil, view, h, if_true, pack], ⟨?_, trivial⟩⟩
    simp only [newB, h]
    exact hp
  cases e with
  | e id => exact q.elim
  | n => obtain ⟨k, st, h1, h2⟩ := q; exact ⟨_, h1, key k st h2⟩
  | r => obtain ⟨k, st, h1, h2⟩ := q; exact ⟨_, h1, key k st h2⟩
def lgB (x : Int) : Bool := inR x (-1) 2199023255552
end Go.Proofs.YtlahcoaofbpinaaGreat.R
namespace Go.Proofs.YtlahcoaofbpinaaGreat.R
open Go Sy Go.RowKit
theorem infoV : (Tryz.prog.info? 89).map (fun i => (i.zero, i.size, i.bytes)) = some (some (.agg #[.int .i64 0, .int .i64 0]), 2, 16) := by kernel_rfl
theorem set_some (b : Nat) : ∀ (vs : List Value) (o : Nat) (w : World) (a : Addr), (w.cell? a).isSome = true → ((w.setCells b o vs).cell? a).isSome = true
  | [], o, w, a, h => h
  | v :: vs, o, w, a, h => by
    rw [World.setCells]
    refine set_some b vs _ _ a ?_
    by_cases e : (⟨b, o, none⟩ : Addr) = a
    · subst e
      rw [World.cell?_setCell_same' w _ v h]; rfl
    · rw [World.cell?_setCell_other _ _ _ _ e]; exact h
set_option maxHeartbeats 4000000 in
set_option maxRecDepth 1000000 in
theorem del_walk (b cap i n : Nat) (news : List Value) (w : World) (hn : i < n) (hnc : n ≤ cap) (hm : cap ≤ 9223372036854775807) (hlen : news.length = (n - (i + 1)) * 2)
    (hnews : ∀ j u, news[j]? = some u → w.drew.cell? ⟨b, (i + 1) * 2 + j, none⟩ = some u) (h1c : ∀ u ∈ news, u.oneCell' = true) (hall : ∀ j, j < cap * 2 → (w.cell? ⟨b, j, none⟩).isSome = true ∧ w.frozen? ⟨b, j, none⟩ = false) :
    Calls Tryz.prog 45 #[.slice (some ⟨b, 0, none⟩) n cap, .int .i64 i, .int .i64 ((i : Int) + 1)] w fun e w' => e = .returned (.slice (some ⟨b, 0, none⟩) (i + (n - (i + 1))) cap) ∧
      w' = (w.drew.setCells b (i * 2) news).setCells b ((i + (n - (i + 1))) * 2) [.int .i64 0, .int .i64 0] := by
  obtain ⟨i0, hi0, hz0, hz1, hz2⟩ := info_parts infoV
  obtain ⟨A, hA, hsrc⟩ : ∃ A : Addr, (if cap = i + 1 then some (⟨b, 0, none⟩ : Addr) else some ⟨b, (i + 1) * 2, none⟩) = some A ∧ RowKit.Hid (∀ j u, news[j]? = some u → w.drew.cell? (A.add j) = some u) := by
    by_cases h : cap = i + 1
    · refine ⟨⟨b, 0, none⟩, by simp [h], fun j u hu => ?_⟩
      have h0 : news.length = 0 := by rw [hlen]; omega
      rw [List.length_eq_zero_iff.1 h0] at hu
      simp at hu
    · refine ⟨⟨b, (i + 1) * 2, none⟩, by simp [h], fun j u hu => ?_⟩
      rw [Addr.add_lit]
      exact hnews j u hu
  have s1 : RowKit.Hid (news.length = (n - (i + 1)) * 2) := hlen
  have s2 : RowKit.Hid (∀ u ∈ news, u.oneCell' = true) := h1c
  have s3 : RowKit.Hid (∀ j, j < news.length → (w.drew.cell? ⟨b, 0 + i * 2 + j, none⟩).isSome = true ∧ w.drew.frozen? ⟨b, 0 + i * 2 + j, none⟩ = false) := by
    intro j hj
    rw [hlen] at hj
    exact hall (0 + i * 2 + j) (by omega)
  have hic : i ≤ cap := by omega
  have hwr : IntKind.i64.wrap ((i : Int) + 1) = (i : Int) + 1 := by rw [IntKind.wrap_i64]; omega
  have hp0 : (0 : Int) ≤ (i : Int) + 1 := by omega
  have hp1 : (i : Int) + 1 ≤ (n : Int) := by omega
  have hp2 : ((i : Int) + 1).toNat = i + 1 := by omega
  obtain ⟨W1, hW1⟩ : ∃ W1, W1 = w.drew.setCells b (0 + i * 2) news := ⟨_, rfl⟩
  have hall1 : ∀ j, j < cap * 2 → (W1.cell? ⟨b, j, none⟩).isSome = true ∧ W1.frozen? ⟨b, j, none⟩ = false := fun j hj => by
    rw [hW1]
    exact ⟨set_some _ _ _ _ _ (hall j hj).1, by rw [World.frozen?_setCells]; exact (hall j hj).2⟩
  have hcl : ∀ ty, (Builtin.clear_ #[83] ty #[.slice (some ⟨b, (i + (n - (i + 1))) * 2, none⟩) (n - (i + (n - (i + 1)))) (cap - (i + (n - (i + 1))))]).run Tryz.prog W1 = .ok (.tuple #[]) (W1.setCells b ((i + (n - (i + 1))) * 2) [.int .i64 0, .int .i64 0]) := fun ty => by
    have e1 : n - (i + (n - (i + 1))) = 0 + 1 := by omega
    have hst := run_storeCells_cells (P := Tryz.prog) b ((i + (n - (i + 1))) * 2) [.int .i64 0, .int .i64 0] 0 W1 (fun j hj => (hall1 _ (by simp at hj; omega)).1) (fun j hj => (hall1 _ (by simp at hj; omega)).2) (by intro v hv; simp at hv; rw [hv]; rfl)
    simp only [Nat.add_zero] at hst
    have hz : (zeroValue 89).run Tryz.prog W1 = .ok (Value.agg #[Value.int IntKind.i64 0, Value.int IntKind.i64 0]) W1 := Sy.run_zeroValue hi0 hz0
    rw [e1]
    have e3 : (Builtin.zeroCells (Value.agg #[Value.int IntKind.i64 0, Value.int IntKind.i64 0]).cells 1).toList = [.int .i64 0, .int .i64 0] := by
      simp [Builtin.zeroCells, Value.cells]
      rfl
    simp [Builtin.clear_, run_underlying Tryz.underlying83, hz]
    rw [e3, hst]
    rfl
  have hW : RowKit.Hid (W1 = w.drew.setCells b (0 + i * 2) news) := hW1
  have X : RowKit.Hid (W1 = w.drew.setCells b (0 + i * 2) news) := hW1
  clear hnews hlen h1c hW1 hall hall1
  go_enter Tryz.func45, Tryz.ntmps45
  go_wp2_with fail
  go_region_law (refine step_append_room rfl (.tmp 22) (.tmp 25) 83 rfl 89 i0 2 Tryz.underlying83 hi0 hz1 b 0 i cap (by simp [Act.eval, Act.put]) A (n - (i + 1)) (cap - (i + 1)) news (by simp [Act.eval, Act.put]) s1.out hsrc.out s2.out (by omega) s3.out ?_; rw [← hW.out])
  go_wp2
  go_ret
  refine ⟨rfl, ?_⟩
  rw [X.out, Nat.zero_add]
theorem setCells_at (b : Nat) (e : TypeId) : ∀ (vs : List Value) (o : Nat) (w : World) (cur : Array Value), w.heap[b]? = some (.cells cur e (0, 0)) → o + vs.length ≤ cur.size →
    ∃ cur', (w.setCells b o vs).heap[b]? = some (.cells cur' e (0, 0)) ∧ cur'.size = cur.size ∧ ∀ j, cur'.toList[j]? = if o ≤ j ∧ j < o + vs.length then vs[j - o]? else cur.toList[j]?
  | [], o, w, cur, h, _ => ⟨cur, h, rfl, fun j => by rw [if_neg (by simp only [List.length_nil]; omega)]⟩
  | v :: vs, o, w, cur, h, hl => by
    have h1 : (w.setCell ⟨b, o, none⟩ v).heap[b]? = some (.cells (cur.setIfInBounds o v) e (0, 0)) := by
      have hlt : b < w.heap.size := (Array.getElem?_eq_some_iff.1 h).1
      simp [World.setCell, Array.getElem?_modify, h]
    simp only [List.length_cons] at hl
    obtain ⟨cur', g1, g2, g3⟩ := setCells_at b e vs (o + 1) _ _ h1 (by simp; omega)
    refine ⟨cur', by rw [World.setCells]; exact g1, by rw [g2]; simp, fun j => ?_⟩
    rw [g3]
    simp only [List.length_cons]
    by_cases c1 : o + 1 ≤ j ∧ j < o + 1 + vs.length
    · rw [if_pos c1, if_pos (by omega)]
      obtain ⟨k, rfl⟩ : ∃ k, j = o + 1 + k := ⟨j - (o + 1), by omega⟩
      rw [show o + 1 + k - (o + 1) = k by omega, show o + 1 + k - o = k + 1 by omega, List.getElem?_cons_succ]
    · rw [if_neg c1]
      by_cases c2 : j = o
      · subst c2
        rw [if_pos (by omega), Nat.sub_self]
        simp [show j < cur.size by omega]
      · rw [if_neg (by omega)]
        simp [Array.getElem?_setIfInBounds, show ¬ o = j by omega]
theorem grown_set {w w' : World} {g o : Nat} {vs : List Value} (h : w.grownBy w' (some g)) : w.grownBy (w'.setCells g o vs) (some g) := by
  induction vs generalizing o w' with
  | nil => exact h
  | cons v vs ih =>
    refine ih ⟨h.os, h.tape, h.output, by rw [World.size_setCell]; exact h.size, fun k hk hne => ?_⟩
    refine Eq.trans ?_ (h.block k hk hne)
    have : g ≠ k := fun e => hne (by rw [e])
    simp [World.setCell, Array.getElem?_modify, this]
theorem Inl_del {s : S} {k st i : Nat} {α : Type} {d : α} {F : α → List AV} {l : List α} (hk : lm s.mem k = some (.row st 89 2 d F l)) (hi : i < l.length) {K : AV → S → Prop}
    (hK : K (.row k (st + 1)) ⟨s.tm, setm s.mem k (.row (st + 1) 89 2 d F (l.eraseIdx i)), s.nx⟩) : Inl Tryz.prog 45 [.row k st, iv i, iv ((i : Int) + 1)] s K := by
  refine Inl_grow (P := Tryz.prog) (f := 45) (by kernel_rfl) hk (by omega) (ys := [.int .i64 i, .int .i64 ((i : Int) + 1)]) (fun B Fz w hh xs hown hrow => ?_) hK
  obtain ⟨hxl, hcase⟩ := hown
  rcases hcase with ⟨_, h0⟩ | ⟨g, cap, cur, e1, e2, e3, e4, e5, e6, e7⟩
  · omega
  rw [e1]
  have hcell : ∀ j, w.cell? ⟨g, j, none⟩ = cur.toList[j]? := fun j => by simp [World.cell?, e3]
  have hxs : ∀ j, j < l.length * 2 → xs[j]? = cur.toList[j]? := fun j hj => by rw [← e7, List.getElem?_take, if_pos hj]
  have h1c : ∀ u ∈ xs, u.oneCell' = true := fun u hu => by
    obtain ⟨j, hj, rfl⟩ := List.mem_iff_getElem.1 hu
    obtain ⟨x, hx⟩ : ∃ x, l[j / 2]? = some x := ⟨l[j / 2]'(by omega), List.getElem?_eq_getElem (by omega)⟩
    obtain ⟨q1, q2⟩ := hrow (j / 2) x hx
    have key : ∀ (cs : List AV) (vs : List Value), fsatL Fz w cs vs → ∀ v ∈ vs, v.oneCell' = true := fun cs => by
      induction cs with
      | nil => intro vs h v hv; simp only [fsatL] at h; subst h; cases hv
      | cons a cs ih =>
        intro vs h v hv
        simp only [fsatL] at h
        obtain ⟨y, ys, rfl, g1, _, g2⟩ := h
        rcases List.mem_cons.1 hv with rfl | hv
        · exact g1
        · exact ih ys g2 v hv
    refine key _ _ q2 _ ?_
    refine List.mem_iff_getElem?.2 ⟨j % 2, ?_⟩
    rw [List.getElem?_take, if_pos (by omega), List.getElem?_drop, show j / 2 * 2 + j % 2 = j by omega, List.getElem?_eq_getElem hj]
  refine (del_walk g cap i l.length (xs.drop ((i + 1) * 2)) w hi e4 e5 (by rw [List.length_drop, hxl]; omega) (fun j u hu => ?_) (fun u hu => h1c u (List.mem_of_mem_drop hu)) (fun j hj => ⟨?_, ?_⟩)).mono ?_
  · rw [List.getElem?_drop] at hu
    have hj : (i + 1) * 2 + j < xs.length := (List.getElem?_eq_some_iff.1 hu).1
    rw [hxs _ (by omega), ← hcell] at hu
    exact hu
  · rw [hcell, List.getElem?_eq_getElem (by simp; omega)]; rfl
  · simp [World.frozen?, e3]
  rintro e w' ⟨rfl, rfl⟩
  have hw1 : w.drew.heap[g]? = some (.cells cur 89 (0, 0)) := e3
  obtain ⟨c1, a1, a2, a3⟩ := setCells_at g 89 (xs.drop ((i + 1) * 2)) (i * 2) w.drew cur hw1 (by rw [List.length_drop, hxl]; omega)
  obtain ⟨c2, b1, b2, b3⟩ := setCells_at g 89 [.int .i64 0, .int .i64 0] ((i + (l.length - (i + 1))) * 2) _ c1 a1 (by simp; omega)
  have hle : (l.eraseIdx i).length = l.length - 1 := by rw [List.length_eraseIdx, if_pos hi]
  have hm1 : i + (l.length - (i + 1)) = l.length - 1 := by omega
  have hyl : (xs.take (i * 2) ++ xs.drop ((i + 1) * 2)).length = (l.length - 1) * 2 := by rw [List.length_append, List.length_take, List.length_drop, hxl]; omega
  have hgb : w.grownBy ((w.drew.setCells g (i * 2) (xs.drop ((i + 1) * 2))).setCells g ((i + (l.length - (i + 1))) * 2) [.int .i64 0, .int .i64 0]) (some g) :=
    grown_set (grown_set ⟨rfl, rfl, rfl, Nat.le_refl _, fun _ _ _ => rfl⟩)
  refine ⟨(some ⟨g, 0, none⟩, l.length - 1, cap), xs.take (i * 2) ++ xs.drop ((i + 1) * 2), by rw [hm1]; rfl, ⟨by rw [hyl, hle], .inr ⟨g, cap, c2, by rw [hle]; rfl, e2, b1, by rw [hle]; omega, e5, by rw [b2, a2, e6], ?_⟩⟩, hgb, fun j x hx => ?_, fun b hb => .inl hb⟩
  · rw [hle]
    apply List.ext_getElem?
    intro j
    rw [List.getElem?_take]
    by_cases hj : j < (l.length - 1) * 2
    · rw [if_pos hj, b3, if_neg (by simp; omega), a3]
      by_cases q : j < i * 2
      · rw [if_neg (by omega), List.getElem?_append_left (by rw [List.length_take, hxl]; omega), List.getElem?_take, if_pos q, hxs j (by omega)]
      · rw [if_pos (by rw [List.length_drop, hxl]; omega), List.getElem?_append_right (by rw [List.length_take, hxl]; omega)]
        congr 1
        rw [List.length_take, hxl]; omega
    · rw [if_neg hj, List.getElem?_eq_none (by omega)]
  · rw [List.getElem?_eraseIdx] at hx
    by_cases q : j < i
    · rw [if_pos q] at hx
      obtain ⟨q1, q2⟩ := hrow j x hx
      refine ⟨q1, ?_⟩
      rw [List.drop_append_of_le_length (by rw [List.length_take, hxl]; omega), List.take_append_of_le_length (by rw [List.length_drop, List.length_take, hxl]; omega), List.drop_take, List.take_take, show min 2 (i * 2 - j * 2) = 2 by omega]
      exact q2
    · rw [if_neg q] at hx
      obtain ⟨q1, q2⟩ := hrow (j + 1) x hx
      refine ⟨q1, ?_⟩
      rw [List.drop_append, List.drop_of_length_le (by rw [List.length_take, hxl]; omega), List.nil_append, List.drop_drop, List.length_take, hxl, show (i + 1) * 2 + (j * 2 - min (i * 2) (l.length * 2)) = (j + 1) * 2 by omega]
      exact q2
end Go.Proofs.YtlahcoaofbpinaaGreat.R
namespace Go.Proofs.YtlahcoaofbpinaaGreat.R
open Go Sy
set_option maxRecDepth 100000
set_option maxHeartbeats 4000000
set_option linter.unusedVariables false
set_option linter.unusedSimpArgs false
def ixV (l : List Vis) (v : Vis) : Nat := fstN (fun i => eqV1 v (gv l i)) l.length 0
theorem ixV_ok {l : List Vis} {v : Vis} {j : Nat} (hj : j < l.length) (h : v = gv l j) : ixV l v < l.length ∧ gv l (ixV l v) = v ∧ ∀ x, x < ixV l v → eqV1 v (gv l x) = false := by
  obtain ⟨d, h1, h2, h3, h4⟩ := fst_ex (p := fun i => eqV1 v (gv l i)) l.length 0 j (by omega) (by omega) (eqV1_iff.2 h)
  have e : ixV l v = d := fst_eq l.length 0 d (by omega) (by omega) h3 h4
  rw [e]
  exact ⟨by omega, (eqV1_iff.1 h3).symm, fun x hx => h4 x (by omega) hx⟩
theorem fn43 (a b : Vis) (ha : 0 ≤ a.t ∧ a.t ≤ 4398046511104) (hb : 0 ≤ b.t ∧ b.t ≤ 4398046511104) : Sy.Fn Tryz.prog 43 [.agg (cV a), .agg (cV b)] (iv (a.t - b.t)) := by
  refine Fn_of_W mixed Xt43 rfl ?_
  unfold cV
  (refine go0 ?_; try exact True.intro)
  exact W_ret ⟨[_], ⟨rfl, rfl⟩, rfl⟩
theorem mv_ok {l : List Vis} (h : OkV l) : ∀ i, 0 ≤ (mv l i).t ∧ (mv l i).t ≤ 4398046511104
  | 0 => h 0
  | i + 1 => by
    simp only [mv]
    split
    · exact h i
    · exact mv_ok h i
theorem fn42 (l : List Vis) (h : OkV l) (h0 : 0 < l.length) (hl : l.length ≤ 1000000) : Sy.Fn Tryz.prog 42 [aV l, .clo 43 [] []] (.agg (cV (mv l l.length))) := by
  refine Fn_of_W mixed Xt42 rfl ?_
  have hg0 : l.getD 0 dV = gv l 0 := rfl
  (refine gof hg0 ?_; try exact True.intro)
  refine W_condD (by rfl) (fun q => by omega) (fun _ => ?_)
  (refine gof hg0 ?_; try exact True.intro)
  refine W_loopU (fun i : Nat => [(6, iv i)]) (fun i => [(7, .cells (cV (mv l i)))]) (fun i => 1 ≤ i ∧ i ≤ l.length) (fun i => l.length - i) 1 ⟨by omega, by omega⟩ (by rfl) (by rw [mv_one]; rfl) (fun i hi => ?_)
  (refine sy1 ?_; try exact True.intro)
  (refine go0 ?_; try exact True.intro)
  refine W_condD (by rfl) (fun h5 => ?_) (fun h5 => ?_)
  · have hlt : i < l.length := by omega
    have hgi : l.getD i dV = gv l i := rfl
    have hs : mv l (i + 1) = if (gv l i).t < (mv l i).t then gv l i else mv l i := rfl
    have a1 := h i
    have a2 := mv_ok h i
    have c43 := fn43 (gv l i) (mv l i) a1 a2
    generalize gv l i = A at *
    generalize mv l i = B at *
    (refine gofc hgi c43 ?_; try exact True.intro)
    refine W_condD (by rfl) (fun h6 => ?_) (fun h6 => ?_)
    · rw [if_pos (by omega)] at hs
      (refine gof hgi ?_; try exact True.intro)
      refine ⟨i + 1, ⟨by omega, by omega⟩, by omega, by rfl, ?_⟩
      rw [hs]
      (refine syE ?_; try exact True.intro)
    · rw [if_neg (by omega)] at hs
      (refine go0 ?_; try exact True.intro)
      refine ⟨i + 1, ⟨by omega, by omega⟩, by omega, by rfl, ?_⟩
      rw [hs]
      (refine syE ?_; try exact True.intro)
  · rw [show i = l.length by omega]
    (refine go0 ?_; try exact True.intro)
    refine W_ret ⟨[_], ⟨⟨⟨trivial, Nat.le_of_eq rfl⟩, rfl⟩, rfl⟩, ?_⟩
    (refine syP ?_; try exact True.intro)
    try rfl
theorem fn44 (l : List Vis) (v : Vis) (j : Nat) (hj : j < l.length) (hv : v = gv l j) (hl : l.length ≤ 1000000) : Sy.Fn Tryz.prog 44 [aV l, .agg (cV v)] (iv (ixV l v)) := by
  refine Fn_of_W mixed Xt44 rfl ?_
  obtain ⟨i1, i2, i3⟩ := ixV_ok hj hv
  (refine go0 ?_; try exact True.intro)
  refine W_loopU (fun i : Nat => [(8, iv i)]) (fun i => []) (fun i => i ≤ ixV l v) (fun i => l.length - i) 0 (by omega) (by rfl) (by rfl) (fun i hi => ?_)
  (refine sy1 ?_; try exact True.intro)
  (refine go0 ?_; try exact True.intro)
  refine W_condD (by rfl) (fun h5 => ?_) (fun h5 => by omega)
  have hlt : i < l.length := by omega
  have hgi : l.getD i dV = gv l i := rfl
  have hno : i < ixV l v → eqV1 v (gv l i) = false := i3 i
  have hye : i = ixV l v → eqV1 v (gv l i) = true := fun e => by rw [e]; exact eqV1_iff.2 i2.symm
  have heq : eqV1 v (gv l i) = (v.p == (gv l i).p && v.t == (gv l i).t) := rfl
  generalize eqV1 v (gv l i) = Q at *
  obtain ⟨v1, v2⟩ := v
  obtain ⟨⟨a1, a2⟩, hX⟩ : ∃ X, gv l i = X := ⟨_, rfl⟩
  rw [hX] at heq
  repeat' (first | refine w1g ?_ | refine w1l ?_ | refine w1q ?_ | refine w1b ?_ | refine w1p ?_ | ((first | refine w1r ?_ | refine w1k ?_ | refine w1e ?_); simp (maxSteps := 400000) (disch := omega) only [push_cast, ↓reduceIte, reduceCtorEq, Nat.reduceAdd, Nat.reduceSub, Nat.reduceEqDiff, Nat.reduceLeDiff, Nat.reduceLT, Nat.reduceBEq, Nat.reduceDiv, Nat.reduceMod, Nat.reducePow, Nat.reduceMul, Int.reduceToNat, Int.reduceLT, Int.reduceLE, hgi, hX, cV, eqV, eqA, eqL]) | refine an2 ?_ | fail)
  refine W_cond (by rfl) (fun hb => ?_) (fun hb => ?_)
  · have e : i = ixV l ⟨v1, v2⟩ := by
      rcases Nat.lt_or_ge i (ixV l ⟨v1, v2⟩) with q | q
      · have := hno q; rw [heq] at this
        have h2 : (v1 == a1 && v2 == a2) = false := this
        rw [h2] at hb; cases hb
      · omega
    rw [← e]
    (refine go0 ?_; try exact True.intro)
    exact W_ret ⟨[_], ⟨rfl, rfl⟩, rfl⟩
  · have e : i < ixV l ⟨v1, v2⟩ := by
      rcases Nat.lt_or_ge i (ixV l ⟨v1, v2⟩) with q | q
      · exact q
      · have := hye (by omega); rw [heq] at this
        have h2 : (v1 == a1 && v2 == a2) = true := this
        rw [h2] at hb; cases hb
    (refine go0 ?_; try exact True.intro)
    refine ⟨i + 1, by omega, by omega, by rfl, ?_⟩
    (refine syE ?_; try exact True.intro)
def Xm109_1 : C := regL [1, 2, 3, 4, 5] none [qx 5 57 0, qo 10 (.mv (.const (.slice none 0 0)))]
def Xm109_4 : C := regL [1, 2, 3, 4, 5, 11] none [qf 20 0 5, qf 21 0 20, ql 22 3 1 21, qo 23 (.mks 2 1 8 (.int .i64 0) (qt 22) (qt 22)), qm 11 23]
def Xm109_7 : C := regL [1, 2, 3, 4, 5, 11, 25, 26] none [qm 24 11, qw 25 24, qo 26 (.mv (qi 0))]
def Xm109_11 : C := regL [1, 2, 3, 4, 5, 11, 25, 26, 27] none [qb 27 3 .lss 26 25]
def Xm109_13 : C := .cond (.tmp 27) .skip (.exit 0)
def Xm109_19 : C := regL [1, 2, 3, 4, 5, 11, 12, 25, 26] none [qm 28 26, qm 12 28]
def Xm109_20 : C := regL [1, 2, 3, 4, 5, 11, 25, 26] none [qm 29 11, qm 30 12, qa 31 1 29 30, ⟨none, .st 2 1 (qt 31) (qi (-1)), none⟩]
def Xm109_18 : C := .seq Xm109_19 Xm109_20
def Xm109_17 : C := .block 1 Xm109_18
def Xm109_21 : C := regL [1, 2, 3, 4, 5, 11, 25, 26] none [qc 32 3 .add 26 1, qm 26 32]
def Xm109_16 : C := seqL [1, 2, 3, 4, 5, 11, 25, 26] Xm109_17 Xm109_21
def Xm109_12 : C := seqL [1, 2, 3, 4, 5, 11, 25, 26] Xm109_13 Xm109_16
def Xm109_10 : C := .seq Xm109_11 Xm109_12
def Xm109_9 : C := loopL [1, 2, 3, 4, 5, 11, 25, 26] Xm109_10
def Xm109_8 : C := .block 0 Xm109_9
def Xm109_6 : C := .seq Xm109_7 Xm109_8
def Xm109_23 : C := regL [1, 2, 3, 4, 5, 11, 13] none [qo 33 (.bld (.agg #[.slice none 0 0]) []), qo 34 (.box false 85 (qt 33)), qm 13 34]
def Xm109_25 : C := regL [1, 2, 3, 4, 5, 11, 14, 15] none [qm 35 13, qo 36 (.mkf 25 [qt 35] []), qm 37 13, qo 38 (.mkf 26 [qt 37] []), qm 14 36, qm 15 38]
def Xm109_27 : C := regL [1, 4, 5, 11, 14, 15] none [qm 39 14, qm 40 2, qm 41 3, qo 42 (.bld (.agg #[.int .i64 0, .int .i64 0]) [(0, 1, qt 40), (1, 1, qt 41)]), qo 43 (.callv (qt 39) [qt 42])]
def Xm109_32 : C := regL [1, 4, 5, 11, 14, 15, 16, 17] none [qm 45 15, qo 46 (.callv (qt 45) []), qm 44 46, qe 47 0 44, qe 48 1 44, qo 16 (.alc 89 (.agg #[.int .i64 0, .int .i64 0])), qs 89 2 16 47, qm 17 48]
def Xm109_37 : C := regL [1, 4, 5, 11, 14, 15, 16, 49] none [qm 49 17]
def Xm109_38 : C := .cond (.tmp 49) .skip (.exit 2)
def Xm109_36 : C := .seq Xm109_37 Xm109_38
def Xm109_45 : C := regL [1, 4, 5, 11, 14, 15, 16, 60] none [qm 55 11, qf 56 0 16, ql 57 3 1 56, qa 58 1 55 57, ql 59 2 1 58, qc 60 2 .geq 59 0]
def Xm109_46 : C := .cond (.tmp 60) (.exit 3) .skip
def Xm109_44 : C := .seq Xm109_45 Xm109_46
def Xm109_50 : C := regL [1, 4, 5, 11, 14, 15, 16] none [qm 61 11, qf 62 0 16, ql 63 3 1 62, qf 64 1 16, ql 65 2 1 64, qa 66 1 61 63, qs 2 1 66 65]
def Xm109_52 : C := regL [1, 4, 5, 11, 14, 15, 16, 69, 70, 71] none [qf 67 0 5, qf 68 1 67, ql 69 24 1 68, qw 70 69, qo 71 (.mv (qi 0))]
def Xm109_56 : C := regL [1, 4, 5, 11, 14, 15, 16, 69, 70, 71, 72] none [qb 72 3 .lss 71 70]
def Xm109_58 : C := .cond (.tmp 72) .skip (.exit 4)
def Xm109_64 : C := regL [1, 4, 5, 11, 14, 15, 16, 18, 19, 69, 70, 71] none [qm 73 71, qa 74 12 69 71, qL 75 37 12 74, qo 19 (.alc 37 (.agg #[.int .i64 0, .int .i64 0, .int .i64 0, .int .i64 0, .int .i64 0, .int .i64 0, .int .i64 0, .int .i64 0, .int .i64 0, .int .i64 0, .int .i64 0, .int .i64 0])), qm 18 73, qs 37 12 19 75]
def Xm109_66 : C := regL [1, 4, 5, 11, 14, 15, 16, 19, 69, 70, 71, 102] none [qf 76 0 19, ql 77 3 1 76, qf 78 0 16, ql 79 3 1 78, qb 80 3 .eql 77 79, qm 81 80, qM 82 11 81 true, qh 83 1 19 81 true, qk 84 3 1 83 81 true, qg 85 (.ia 1 (qt 82) (qt 84)) 81 true, qk 86 2 1 85 81 true, qg 87 (.bin 2 .lss (qt 86) (qi 0)) 81 true, qq 88 81 87, qm 89 88, qM 90 4 89 true, qh 91 1 19 89 true, qk 92 3 1 91 89 true, qg 93 (.ia 1 (qt 90) (qt 92)) 89 true, qk 94 4 1 93 89 true, qg 95 (.un .not (qt 94)) 89 true, qq 96 89 95, qm 97 96, qg 98 (.ld 57 9 true (qt 5)) 97 true, qM 99 1 97 true, qM 100 18 97 true, qg 101 (.call 11 [qt 98, qt 99, qt 100]) 97 true, qq 102 97 101]
def Xm109_68 : C := regL [1, 4, 5, 11, 14, 15, 16, 69, 70, 71] (some [0, 0, 2, 0, 0, 16, 56, 126, 255]) [qm 103 14, qf 104 1 19, ql 105 3 1 104, qL 106 37 12 19, qf 107 1 16, ql 108 2 1 107, qo 109 (.call 12 [qt 106, qt 108]), qo 110 (.bld (.agg #[.int .i64 0, .int .i64 0]) [(0, 1, qt 105), (1, 1, qt 109)]), qo 111 (.callv (qt 103) [qt 110])]
def Xm109_67 : C := .cond (.tmp 102) Xm109_68 .skip
def Xm109_65 : C := .seq Xm109_66 Xm109_67
def Xm109_63 : C := .seq Xm109_64 Xm109_65
def Xm109_62 : C := .block 5 Xm109_63
def Xm109_70 : C := regL [1, 4, 5, 11, 14, 15, 16, 69, 70, 71] none [qc 112 3 .add 71 1, qm 71 112]
def Xm109_61 : C := seqL [1, 4, 5, 11, 14, 15, 16, 69, 70, 71] Xm109_62 Xm109_70
def Xm109_57 : C := seqL [1, 4, 5, 11, 14, 15, 16, 69, 70, 71] Xm109_58 Xm109_61
def Xm109_55 : C := .seq Xm109_56 Xm109_57
def Xm109_54 : C := loopL [1, 4, 5, 11, 14, 15, 16, 69, 70, 71] Xm109_55
def Xm109_53 : C := .block 4 Xm109_54
def Xm109_51 : C := .seq Xm109_52 Xm109_53
def Xm109_49 : C := .seq Xm109_50 Xm109_51
def Xm109_43 : C := seqL [1, 4, 5, 11, 14, 15, 16] Xm109_44 Xm109_49
def Xm109_42 : C := .block 3 Xm109_43
def Xm109_73 : C := regL [1, 4, 5, 11, 14, 15, 113] none [qL 113 89 2 16]
def Xm109_74 : C := regL [1, 4, 5, 11, 14, 15, 16] none [qo 16 (.alc 89 (.agg #[.int .i64 0, .int .i64 0])), qs 89 2 16 113]
def Xm109_72 : C := .seq Xm109_73 Xm109_74
def Xm109_75 : C := regL [1, 4, 5, 11, 14, 15, 16, 17] none [qm 51 15, qo 52 (.callv (qt 51) []), qm 50 52, qe 53 0 50, qe 54 1 50, qs 89 2 16 53, qm 17 54]
def Xm109_71 : C := seqL [1, 4, 5, 11, 14, 15, 16] Xm109_72 Xm109_75
def Xm109_41 : C := seqL [1, 4, 5, 11, 14, 15, 16] Xm109_42 Xm109_71
def Xm109_35 : C := seqL [1, 4, 5, 11, 14, 15, 16] Xm109_36 Xm109_41
def Xm109_34 : C := loopL [1, 4, 5, 11, 14, 15, 16, 17] Xm109_35
def Xm109_33 : C := .block 2 Xm109_34
def Xm109_31 : C := .seq Xm109_32 Xm109_33
def Xm109_77 : C := regL [10] none [qm 114 11, qm 10 114]
def Xm109_76 : C := .seq Xm109_77 .ret
def Xm109_30 : C := seqL [11] Xm109_31 Xm109_76
def Xm109_28 : C := seqL [1, 4, 5, 11, 14, 15] .skip Xm109_30
def Xm109_26 : C := .seq Xm109_27 Xm109_28
def Xm109_24 : C := .seq Xm109_25 Xm109_26
def Xm109_22 : C := .seq Xm109_23 Xm109_24
def Xm109_5 : C := seqL [1, 2, 3, 4, 5, 11] Xm109_6 Xm109_22
def Xm109_3 : C := .seq Xm109_4 Xm109_5
def Xm109_2 : C := .scp Xm109_3
def Xm109_0 : C := .seq Xm109_1 Xm109_2
theorem Xs109 : Text Tryz.prog 10 Xm109_0 115 5 [.t 10] := txA [5] Tryz.func10
structure LI where
  o : List Int
  l : List Vis
  v : Vis
  ok : Bool
  st : Nat
theorem w109 (m : Mp) (f : Nat → Int) (s : List Int) (fr t : Int) (sn : List Bool) (h : OkM m) (hs : Srt m.ws.length 0 s) (hf : 0 ≤ fr ∧ fr < m.n) (ht : 0 ≤ t ∧ t ≤ 2199023255552) (hl : (sn.length : Int) = m.n) : W Tryz.prog 115 Xm109_0 (init [aAt m f, uv (msk s), iv fr, iv t, .sl 1 false cB sn]) (FinO [.t 10] 2 1 0 cI (labT m f s (fun x => sn.getD x.toNat false) fr t)) := by
  have hn := h.n
  have hnr := h.nr
  obtain ⟨n, hnn⟩ : ∃ n : Nat, m.n = n := ⟨m.n.toNat, by omega⟩
  have hok := tes_ok h (goB m f s (fun x => sn.getD x.toNat false))
  have hgo : ∀ i, goB m f s (fun x => sn.getD x.toNat false) i = (usB m f s i && !sn.getD (gr m i).t.toNat false) := fun _ => rfl
  have hun : ∀ o, Tms (tes m (goB m f s (fun x => sn.getD x.toNat false)) m.rs.length) fr.toNat m.n.toNat t o → TFix (tes m (goB m f s (fun x => sn.getD x.toNat false)) m.rs.length) o → o = labT m f s (fun x => sn.getD x.toNat false) fr t := fun o h1 h2 => by
    obtain ⟨h3, h4⟩ := labT_ok h f s (fun x => sn.getD x.toNat false) hf ht.1
    exact tms_eq hok ht.1 h1 h2 h3 h4
  generalize labT m f s (fun x => sn.getD x.toNat false) fr t = LB at *
  generalize goB m f s (fun x => sn.getD x.toNat false) = p at *
  rw [hnn, Int.toNat_natCast] at hok hun
  (refine gof hnn ?_; try exact True.intro)
  refine ⟨rfl, ⟨by omega, by omega, by omega⟩, Int, 0, cI, 0, rfl, rfl, by omega, rfl, ?_⟩
  (refine syf Int.toNat_natCast ?_; try exact True.intro)
  repeat' (first | refine w1g ?_ | refine w1l ?_ | refine w1q ?_ | refine w1b ?_ | refine w1p ?_ | ((first | refine w1r ?_ | refine w1k ?_ | refine w1e ?_); simp (maxSteps := 400000) (disch := omega) only [push_cast, ↓reduceIte, reduceCtorEq, Nat.reduceAdd, Nat.reduceSub, Nat.reduceEqDiff, Nat.reduceLeDiff, Nat.reduceLT, Nat.reduceBEq, Nat.reduceDiv, Nat.reduceMod, Nat.reducePow, Nat.reduceMul, Int.reduceToNat, Int.reduceLT, Int.reduceLE, List.length_replicate]) | refine an2 ?_ | fail)
  refine W_loopU (fun j : Nat => [(26, iv j)]) (fun j => [(5, .row 0 2 1 0 cI (tbl n (upT (fun _ => -1) j)))]) (fun j => j ≤ n) (fun j => n - j) 0 (by omega) (by rfl) (by rw [upT_zero]; rfl) (fun j hj => ?_)
  have tl := tbl_len n (upT (fun _ => -1) j)
  (refine sy1 ?_; try exact True.intro)
  (refine gof hnn ?_; try exact True.intro)
  refine W_condD (by rfl) (fun h5 => ?_) (fun h5 => ?_)
  · have e3 := upT_set (fun _ => -1) (j := j) (n := n)
    (refine gof tl ?_; try exact True.intro)
    refine ⟨rfl, ⟨Nat.le_of_ble_eq_true rfl, rfl⟩, by omega, -1, rfl, rfl, ?_⟩
    rw [e3]
    (refine sy1 ?_; try exact True.intro)
    (refine go0 ?_; try exact True.intro)
    refine ⟨j + 1, by omega, by omega, by rfl, ?_⟩
    (refine syE ?_; try exact True.intro)
  have ei : tbl n (upT (fun _ => -1) j) = List.replicate n (-1) := by rw [show j = n by omega, upT_all, tbl_rep]
  rw [ei]
  clear tl ei h5 hj
  refine W_exit ?_
  (refine sy1 ?_; try exact True.intro)
  repeat (first | refine WK_go ?_ | refine W_seqL ?_ | refine W_seq ?_ | refine W_block ?_ | refine W_scp ?_)
  refine W_regL ?_
  (refine sy1 ?_; try exact True.intro)
  repeat (first | refine WK_go ?_ | refine W_seqL ?_ | refine W_seq ?_ | refine W_block ?_ | refine W_scp ?_)
  refine W_regL ?_
  (refine sy1 ?_; try exact True.intro)
  refine W_le (le_adoptC 12 0 89 2 dV cV (by omega) _ rfl rfl (by simp)) ?_
  (refine sy1 ?_; try exact True.intro)
  repeat (first | refine WK_go ?_ | refine W_seqL ?_ | refine W_seq ?_ | refine W_block ?_ | refine W_scp ?_)
  refine W_regL ?_
  (refine sy1 ?_; try exact True.intro)
  refine CallC.inl (Inl_of_W mixed Xt25 rfl (fun vs => ?_))
  (refine sy1 ?_; try exact True.intro)
  (refine go0 ?_; try exact True.intro)
  refine ⟨rfl, trivial, Vis, dV, cV, [⟨fr, t⟩], rfl, by omega, fun x _ => ⟨rfl, rfl⟩, rfl, ?_⟩
  (refine sy1 ?_; try exact True.intro)
  refine ⟨rfl, ⟨Nat.le_of_ble_eq_true rfl, rfl⟩, trivial, [(⟨fr, t⟩ : Vis)], rfl, by simp, by simp, ?_⟩
  (refine sy1 ?_; try exact True.intro)
  refine ⟨_, _, rfl, rfl, ?_⟩
  (refine sy1 ?_; try exact True.intro)
  have hq0 : gv [(⟨fr, t⟩ : Vis)] 0 = ⟨fr, t⟩ := rfl
  have hOk0 : OkV [(⟨fr, t⟩ : Vis)] := fun i => by
    rcases i with _ | i
    · show 0 ≤ t ∧ t ≤ _; omega
    · show (0 : Int) ≤ 0 ∧ (0 : Int) ≤ _; omega
  have c42 := fn42 [⟨fr, t⟩] hOk0 (by simp) (by simp)
  have hm0 : mv [(⟨fr, t⟩ : Vis)] [(⟨fr, t⟩ : Vis)].length = ⟨fr, t⟩ := mv_one _
  rw [hm0] at c42
  have c44 := fn44 [⟨fr, t⟩] ⟨fr, t⟩ 0 (by simp) rfl (by simp)
  have hi0 : ixV [(⟨fr, t⟩ : Vis)] ⟨fr, t⟩ = 0 := by
    have := (ixV_ok (l := [(⟨fr, t⟩ : Vis)]) (v := ⟨fr, t⟩) (j := 0) (by simp) rfl).1
    simp at this; exact this
  rw [hi0] at c44
  (refine go0 ?_; try exact True.intro)
  refine CallC.inl (Inl_of_W mixed Xt26 rfl (fun vs2 => ?_))
  (refine sy1 ?_; try exact True.intro)
  (refine go0 ?_; try exact True.intro)
  refine W_cond (by rfl) (fun h => by cases h) (fun _ => ?_)
  (refine go_gg c42 c44 ?_; try exact True.intro)
  refine CallC.inl (Inl_del (i := 0) rfl (by simp) ?_)
  simp (maxSteps := 400000) (disch := omega) only [push_cast, ↓reduceIte, reduceCtorEq, Nat.reduceAdd, Nat.reduceSub, Nat.reduceEqDiff, Nat.reduceLeDiff, Nat.reduceLT, Nat.reduceBEq, Nat.reduceDiv, Nat.reduceMod, Nat.reducePow, Nat.reduceMul, Int.reduceToNat, Int.reduceLT, Int.reduceLE, List.eraseIdx_cons_zero]
  (refine go0 ?_; try exact True.intro)
  refine W_ret ?_
  refine ⟨[_, _], _, ⟨⟨⟨trivial, Nat.le_of_eq rfl⟩, rfl⟩, rfl, rfl⟩, rfl, ?_⟩
  (refine syP ?_; try exact True.intro)
  have hsn : ∀ x : Int, sn.getD x.toNat false = sn.getD x.toNat false := fun _ => rfl
  have hfr : ((fr.toNat : Nat) : Int) = fr := by omega
  have hD0 : DJ (tes m p m.rs.length) fr.toNat n t (List.replicate n (-1)) [⟨fr, t⟩] := by
    have := dj_ini (es := tes m p m.rs.length) (s := fr.toNat) (n := n) (t0 := t) hok (by omega)
    rwa [hfr] at this
  have hun0 : uns n (List.replicate n (-1)) ≤ n := uns_le _ _
  have hQ0 : QB n t (List.replicate n (-1)) [⟨fr, t⟩] := ⟨by simp only [List.length_cons, List.length_nil]; omega, fun x hx => by rw [List.mem_singleton] at hx; subst hx; show 0 ≤ t ∧ t + _ ≤ _; omega⟩
  refine w1b ?_
  refine W_loopU (fun q : LI => [(17, bv q.ok)]) (fun q => [(5, .row 0 2 1 0 cI q.o), (20, .row q.st 89 2 dV cV q.l), (12, .cells [.row 20 q.st]), (82, .cells (cV q.v))])
    (fun q => (q.ok = true → ∃ l0 j, j < l0.length ∧ q.v = gv l0 j ∧ q.l = l0.eraseIdx j ∧ (∀ x ∈ l0, q.v.t ≤ x.t) ∧ DJ (tes m p m.rs.length) fr.toNat n t q.o l0 ∧ QB n t q.o l0) ∧ (q.ok = false → DJ (tes m p m.rs.length) fr.toNat n t q.o [] ∧ q.l = []))
    (fun q => 1000 * uns n q.o + 2 * q.l.length + (if q.ok = true then 1 else 0)) ⟨List.replicate n (-1), [], ⟨fr, t⟩, true, 2⟩
    ⟨fun _ => ⟨[⟨fr, t⟩], 0, by simp, rfl, rfl, fun x hx => by rw [List.mem_singleton] at hx; subst hx; exact Int.le_refl _, hD0, hQ0⟩, fun z => by cases z⟩ (by rfl) (by rfl) (fun q hq => ?_)
  obtain ⟨o, l, v, okb, st⟩ := q
  dsimp only at hq ⊢
  obtain ⟨hq1, hq2⟩ := hq
  (refine sy1 ?_; try exact True.intro)
  (refine go0 ?_; try exact True.intro)
  refine W_cond (by rfl) (fun hb => ?_) (fun hb => ?_)
  rotate_left
  · obtain ⟨hD, hl0⟩ := hq2 hb
    obtain ⟨e1, e2⟩ := dj_end hok hD
    have := hun o e1 e2
    subst this
    (refine go0 ?_; try exact True.intro)
    exact W_ret ⟨_, _, ⟨rfl, rfl⟩, rfl⟩
  subst hb
  obtain ⟨l0, j, hj, rfl, rfl, hmin, hD, hQ⟩ := hq1 rfl
  clear hq1 hq2
  refine W_skip ?_
  (refine sy1 ?_; try exact True.intro)
  refine WK_go ?_
  have hvm : gv l0 j ∈ l0 := by simp [gv, List.getD, hj]
  obtain ⟨v1, v2, v3⟩ := hD.q _ hvm
  have hge := v3.ge hok ht.1
  have hov := hQ.okV (by omega) ht.2 j
  have hlo := hD.len
  refine W_seqM (fun s2 => ∃ o1 l1 st1, (DJ (tes m p m.rs.length) fr.toNat n t o1 l1 ∧ QB n t o1 l1 ∧ 1000 * uns n o1 + 2 * l1.length < 1000 * uns n o + 2 * (l0.eraseIdx j).length + 1) ∧ s2 = ⟨[(1, uv (msk s)), (4, .sl 1 false cB sn), (5, .fp (cAt m f) 0), (11, .row 5 0), (14, .cq 25 [.own 12 0] []), (15, .cq 26 [.own 12 0] []), (16, .own 82 0)], [(20, .row st1 89 2 dV cV l1), (5, .row 0 2 1 0 cI o1), (12, .cells [.row 20 st1]), (33, .row 0 89 2 dV cV [⟨fr, t⟩]), (41, .cells (cV ⟨fr, t⟩)), (54, .cells (cV ⟨fr, t⟩)), (82, .cells (cV (gv l0 j)))], 85⟩) ?_ ?_
  · obtain ⟨⟨vp, vt⟩, hV⟩ : ∃ V, gv l0 j = V := ⟨_, rfl⟩
    have hset := dj_take hok ht.1 hD hj (fun x hx => hmin x hx) (nw := nwL m p (o.set (gv l0 j).p.toNat (gv l0 j).t) (gv l0 j) m.rs.length)
    have hskip := dj_skip hD hj
    have hQs := fun h1 => QB.settle (m := m) h hQ hvm hlo v2 h1 hj (p := p) (o2 := o.set (gv l0 j).p.toNat (gv l0 j).t) (Nat.le_refl m.rs.length)
    have hach := hD.ach (gv l0 j).p.toNat v2
    have hQe := hQ.erase hj
    have v1 := v1; have v2 := v2; have v3 := v3; have hge := hge; have hov := hov
    rw [hV] at v1 v2 v3 hge hov hset hskip hQs hach
    have v1 : 0 ≤ vp := v1
    have v2 : vp.toNat < n := v2
    have hge : t ≤ vt := hge
    have hov : 0 ≤ vt ∧ vt ≤ 4398046511104 := hov
    have hskip : 0 ≤ gi o vp.toNat → DJ (tes m p m.rs.length) fr.toNat n t o (l0.eraseIdx j) := hskip
    have hach : gi o vp.toNat = -1 ∨ TW (tes m p m.rs.length) fr.toNat t vp.toNat (gi o vp.toNat) := hach
    have hset : gi o vp.toNat = -1 → _ → _ → DJ (tes m p m.rs.length) fr.toNat n t (o.set vp.toNat vt) (l0.eraseIdx j ++ nwL m p (o.set vp.toNat vt) ⟨vp, vt⟩ m.rs.length) := hset
    have hQs : gi o vp.toNat = -1 → QB n t (o.set vp.toNat vt) (l0.eraseIdx j ++ nwL m p (o.set vp.toNat vt) ⟨vp, vt⟩ m.rs.length) := hQs
    rw [hV]
    have gI : ∀ (l : List Int) i, l.getD i 0 = gi l i := fun _ _ => rfl
    repeat' (first | refine w1g ?_ | refine w1l ?_ | refine w1q ?_ | refine w1b ?_ | refine w1p ?_ | ((first | refine w1r ?_ | refine w1k ?_ | refine w1e ?_); simp (maxSteps := 400000) (disch := omega) only [push_cast, ↓reduceIte, reduceCtorEq, Nat.reduceAdd, Nat.reduceSub, Nat.reduceEqDiff, Nat.reduceLeDiff, Nat.reduceLT, Nat.reduceBEq, Nat.reduceDiv, Nat.reduceMod, Nat.reducePow, Nat.reduceMul, Int.reduceToNat, Int.reduceLT, Int.reduceLE, gI, cV, hlo]) | refine an2 ?_ | fail)
    refine W_condD (by rfl) (fun h7 => ?_) (fun h7 => ?_)
    · refine w1e ?_
      (refine sy1 ?_; try exact True.intro)
      exact ⟨_, le_norm [1, 4, 5, 11, 14, 15, 16] [20, 5, 12, 33, 41, 54, 82] 85 (by rfl), o, _, st, ⟨hskip h7, hQe, by omega⟩, by rfl⟩
    have h8 : gi o vp.toNat = -1 := by
      rcases hach with z | z
      · exact z
      · exact absurd (Int.le_trans ht.1 (z.ge hok ht.1)) h7
    have hD2 := hset h8 (fun x hx => nw_one h (v := ⟨vp, vt⟩) v1 x hx) (fun e he h1 h2 => nw_two h (v := ⟨vp, vt⟩) v1 e he h1 h2)
    have hQ2 := hQs h8
    have hun2 := uns_set hlo v2 h8 (t := vt) (by omega)
    have hl2 := nwL_len m p (o.set vp.toNat vt) ⟨vp, vt⟩ m.rs.length
    have hlen0 := hQ.len
    have hle0 : (l0.eraseIdx j).length = l0.length - 1 := by rw [List.length_eraseIdx, if_pos hj]
    have hlo2 : (o.set vp.toNat vt).length = n := by rw [List.length_set]; exact hlo
    generalize l0.eraseIdx j = l1 at *
    (refine gof (ad2 gI hlo) ?_; try exact True.intro)
    refine ⟨rfl, ⟨Nat.le_of_ble_eq_true rfl, rfl⟩, by omega, vt, rfl, rfl, ?_⟩
    generalize o.set vp.toNat vt = o2 at *
    (refine sy1 ?_; try exact True.intro)
    (refine go0 ?_; try exact True.intro)
    refine W_loopU (fun i : Nat => [(71, iv i)]) (fun i => [(20, .row (st + (nwL m p o2 ⟨vp, vt⟩ i).length) 89 2 dV cV (l1 ++ nwL m p o2 ⟨vp, vt⟩ i)), (12, .cells [.row 20 (st + (nwL m p o2 ⟨vp, vt⟩ i).length)])]) (fun i => i ≤ m.rs.length) (fun i => m.rs.length - i) 0 (by omega) (by rfl) (by simp only [nwL, List.range_zero, List.filter_nil, List.map_nil, List.append_nil]; rfl) (fun i hi => ?_)
    have hns := nwL_succ m p o2 ⟨vp, vt⟩ i
    have hnl := nwL_len m p o2 ⟨vp, vt⟩ i
    have hll : (l1 ++ nwL m p o2 ⟨vp, vt⟩ i).length ≤ 100000 := by rw [List.length_append]; omega
    (refine sy1 ?_; try exact True.intro)
    (refine go0 ?_; try exact True.intro)
    refine W_condD (by rfl) (fun h9 => ?_) (fun h9 => ?_)
    rotate_left
    · have hir : i = m.rs.length := by omega
      subst hir
      refine w1e ?_
      (refine sy1 ?_; try exact True.intro)
      exact ⟨_, le_norm [1, 4, 5, 11, 14, 15, 16] [20, 5, 12, 33, 41, 54, 82] 85 (by rfl), o2, _, _, ⟨hD2, hQ2, by rw [List.length_append]; omega⟩, by rfl⟩
    have hlt : i < m.rs.length := by omega
    have ok := roadB_ok (h.r i hlt)
    have ofr := ok.f; have otr := ok.t
    have hgr : m.rs.getD i dR = gr m i := rfl
    have c11 := fn11 m f s (msk s) i h (setW_msk hs) hlt
    have c12 := fn12 m.n (gr m i) vt ok (by omega)
    have hnb : nwB m p o2 ⟨vp, vt⟩ i = ((gr m i).f == vp && decide (gi o2 (gr m i).t.toNat < 0) && p i) := rfl
    have hpi := hgo i
    have hnv : nwV m ⟨vp, vt⟩ i = ⟨(gr m i).t, lvT (gr m i) vt⟩ := rfl
    have hys : l1 ++ nwL m p o2 ⟨vp, vt⟩ (i + 1) = if nwB m p o2 ⟨vp, vt⟩ i = true then (l1 ++ nwL m p o2 ⟨vp, vt⟩ i) ++ [nwV m ⟨vp, vt⟩ i] else l1 ++ nwL m p o2 ⟨vp, vt⟩ i := by
      rw [hns]; split
      · rw [List.append_assoc]
      · rfl
    have hyn : (nwL m p o2 ⟨vp, vt⟩ (i + 1)).length = if nwB m p o2 ⟨vp, vt⟩ i = true then (nwL m p o2 ⟨vp, vt⟩ i).length + 1 else (nwL m p o2 ⟨vp, vt⟩ i).length := by
      rw [hns]; split
      · rw [List.length_append]; rfl
      · rfl
    rw [hnv] at hys
    generalize l1 ++ nwL m p o2 ⟨vp, vt⟩ i = Z at *
    generalize (nwL m p o2 ⟨vp, vt⟩ i).length = KL at *
    generalize lvT (gr m i) vt = TV at *
    generalize usB m f s i = U at *
    generalize hO : gi o2 (gr m i).t.toNat = OT at *
    have hO2 : o2.getD (gr m i).t.toNat 0 = OT := hO
    generalize hS : sn.getD (gr m i).t.toNat false = ST at *
    (refine gofg (ad5 hgr hO2 hlo2 hS hl) c11 ?_; try exact True.intro)
    have hnb2 : nwB m p o2 ⟨vp, vt⟩ i = ((gr m i).f == vp && decide (OT < 0) && !ST && U) := by
      rw [hnb, hpi]
      cases ((gr m i).f == vp) <;> cases decide (OT < 0) <;> cases ST <;> cases U <;> rfl
    refine W_cond (by rfl) (fun hc => ?_) (fun hc => ?_)
    · rw [hc] at hnb2
      rw [if_pos hnb2] at hys hyn
      repeat' (first | refine w1g ?_ | refine w1l ?_ | refine w1q ?_ | refine w1b ?_ | refine w1p ?_ | ((first | refine W_regS 8 (by decide) (by decide) ?_ | refine w1r ?_ | refine w1k ?_ | refine w1e ?_ | refine CallC.now (c12) ?_); (refine syf hgr ?_; try exact True.intro)) | refine an2 ?_ | (refine CallC.inl (Inl_of_W mixed Xt25 rfl (fun vs3 => ?_)); (refine syf hgr ?_; try exact True.intro)) | fail)
      refine ⟨rfl, trivial, Vis, dV, cV, [⟨(gr m i).t, TV⟩], rfl, by omega, fun x _ => ⟨rfl, rfl⟩, rfl, ?_⟩
      (refine sy1 ?_; try exact True.intro)
      refine ⟨rfl, ⟨Nat.le_of_ble_eq_true rfl, rfl⟩, trivial, [(⟨(gr m i).t, TV⟩ : Vis)], rfl, by first | omega | (simp; omega), by first | omega | (simp; omega), ?_⟩
      (refine sy1 ?_; try exact True.intro)
      refine ⟨_, _, rfl, rfl, ?_⟩
      (refine sy1 ?_; try exact True.intro)
      (refine go0 ?_; try exact True.intro)
      refine ⟨i + 1, by omega, by omega, by rfl, ?_⟩
      rw [hys, hyn]
      (refine eqf Nat.add_assoc ?_; try exact True.intro)
    · rw [hc] at hnb2
      rw [if_neg (by rw [hnb2]; simp)] at hys hyn
      (refine go0 ?_; try exact True.intro)
      refine ⟨i + 1, by omega, by omega, by rfl, ?_⟩
      rw [hys, hyn]
      (refine syE ?_; try exact True.intro)
  · rintro s2 ⟨o1, l1, st1, ⟨hD1, hQ1, hmu⟩, rfl⟩
    repeat (first | refine WK_go ?_ | refine W_seqL ?_ | refine W_seq ?_ | refine W_block ?_ | refine W_scp ?_)
    refine W_regL ?_
    (refine sy1 ?_; try exact True.intro)
    repeat (first | refine WK_go ?_ | refine W_seqL ?_ | refine W_seq ?_ | refine W_block ?_ | refine W_scp ?_)
    refine W_regL ?_
    (refine sy1 ?_; try exact True.intro)
    refine WK_go ?_
    refine W_le (le_moveE 16 82 86 [1, 4, 5, 11, 14, 15] [20, 5, 12, 33, 41, 54] 83 (cV (gv l0 j)) (by rfl) (by rfl) (by rfl) (by rfl) (by rfl) (by rfl) (by rfl) (by rfl) (by omega)) ?_
    simp (maxSteps := 400000) (disch := omega) only [push_cast, ↓reduceIte, reduceCtorEq, Nat.reduceAdd, Nat.reduceSub, Nat.reduceEqDiff, Nat.reduceLeDiff, Nat.reduceLT, Nat.reduceBEq, Nat.reduceDiv, Nat.reduceMod, Nat.reducePow, Nat.reduceMul, Int.reduceToNat, Int.reduceLT, Int.reduceLE, keepM, List.cons_append, List.nil_append]
    rcases Nat.eq_zero_or_pos l1.length with hl1 | hl1
    · have hle : l1 = [] := List.length_eq_zero_iff.1 hl1
      subst hle
      repeat' (first | refine w1g ?_ | refine w1l ?_ | refine w1q ?_ | refine w1b ?_ | refine w1p ?_ | ((first | refine w1r ?_ | refine w1k ?_ | refine w1e ?_); (refine sy1 ?_; try exact True.intro)) | refine an2 ?_ | (refine CallC.inl (Inl_of_W mixed Xt26 rfl (fun vs4 => ?_)); (refine sy1 ?_; try exact True.intro)) | fail)
      refine W_cond (by rfl) (fun _ => ?_) (fun h => by cases h)
      (refine go0 ?_; try exact True.intro)
      refine W_ret ?_
      refine ⟨[_, _], _, ⟨⟨⟨trivial, Nat.le_of_eq rfl⟩, rfl⟩, rfl, rfl⟩, rfl, ?_⟩
      (refine syP ?_; try exact True.intro)
      refine ⟨⟨o1, [], dV, false, st1⟩, ⟨fun z => (by cases z), fun _ => ⟨hD1, rfl⟩⟩, ?_, by rfl, ?_⟩
      · dsimp only
        simp only [List.length_nil, if_true, Bool.false_eq_true, if_false] at hmu ⊢
        omega
      · dsimp only
        (refine syE ?_; try exact True.intro)
        rfl
    · have hOk := hQ1.okV (by omega) ht.2
      have hq1 := hQ1.len
      have hu1 := uns_le n o1
      have c42 := fn42 l1 hOk hl1 (by omega)
      obtain ⟨j1, hj1, hm1⟩ := mv_mem l1 l1.length (Nat.le_refl _) hl1
      have c44 := fn44 l1 (mv l1 l1.length) j1 hj1 hm1 (by omega)
      obtain ⟨x1, x2, _⟩ := ixV_ok hj1 hm1
      have hmn := fun x hx => mv_min (l := l1) x hx
      generalize ixV l1 (mv l1 l1.length) = IX at *
      generalize mv l1 l1.length = MV at *
      have hel : (l1.eraseIdx IX).length = l1.length - 1 := by rw [List.length_eraseIdx, if_pos x1]
      have hne0 : ((l1.length : Int) == 0) = false := by rw [beq_eq_false_iff_ne]; omega
      repeat' (first | refine w1g ?_ | refine w1l ?_ | refine w1q ?_ | refine w1b ?_ | refine w1p ?_ | ((first | refine w1r ?_ | refine w1k ?_ | refine w1e ?_); (refine syf hne0 ?_; try exact True.intro)) | refine an2 ?_ | (refine CallC.inl (Inl_of_W mixed Xt26 rfl (fun vs4 => ?_)); (refine syf hne0 ?_; try exact True.intro)) | fail)
      refine W_cond (by rfl) (fun h => by cases h) (fun _ => ?_)
      (refine go_gg c42 c44 ?_; try exact True.intro)
      refine CallC.inl (Inl_del (i := IX) rfl x1 ?_)
      (refine sy1 ?_; try exact True.intro)
      (refine go0 ?_; try exact True.intro)
      refine W_ret ?_
      refine ⟨[_, _], _, ⟨⟨⟨trivial, Nat.le_of_eq rfl⟩, rfl⟩, rfl, rfl⟩, rfl, ?_⟩
      (refine syP ?_; try exact True.intro)
      refine ⟨⟨o1, l1.eraseIdx IX, MV, true, st1 + 1⟩, ⟨fun _ => ⟨l1, IX, x1, x2.symm, rfl, hmn, hD1, hQ1⟩, fun z => (by cases z)⟩, ?_, by rfl, ?_⟩
      · dsimp only
        rw [hel]
        simp only [if_true] at hmu ⊢
        omega
      · dsimp only
        try (refine syE ?_; try exact True.intro)
theorem fw10 (m : Mp) (f : Nat → Int) (s : List Int) (fr t : Int) (sn : List Bool) (h : OkM m) (hs : Srt m.ws.length 0 s) (hf : 0 ≤ fr ∧ fr < m.n) (ht : 0 ≤ t ∧ t ≤ 2199023255552) (hl : (sn.length : Int) = m.n) : FnN Tryz.prog 10 [aAt m f, uv (msk s), iv fr, iv t, .sl 1 false cB sn] (aI (labT m f s (fun x => sn.getD x.toNat false) fr t)) :=
  FnN_of_W mixed Xs109 rfl (W_mono' (w109 m f s fr t sn h hs hf ht hl) (finN_of_finO fun x _ => rfl))
def snL (n : Nat) (S : List Int) : List Bool := (List.range n).map fun y : Nat => inS S y
theorem snL_len (n : Nat) (S : List Int) : (snL n S).length = n := by simp [snL]
theorem snL_nil (n : Nat) : List.replicate n false = snL n [] := by
  apply List.ext_getElem (by simp [snL])
  intro i h1 h2
  simp [snL, inS]
theorem snL_get {n : Nat} {S : List Int} {x : Int} (hx : 0 ≤ x ∧ x < n) : (snL n S).getD x.toNat false = inS S x := by
  have h : x.toNat < n := by omega
  have e : ((x.toNat : Nat) : Int) = x := by omega
  simp [snL, List.getD, h, e]
theorem snL_set {n : Nat} {S : List Int} {a : Int} (ha : 0 ≤ a ∧ a < n) : (snL n S).set a.toNat true = snL n (S ++ [a]) := by
  apply List.ext_getElem (by simp [snL])
  intro i h1 h2
  rw [List.getElem_set]
  split
  · rename_i q
    simp only [snL, List.getElem_map, List.getElem_range, inS]
    rw [decide_eq_true]
    rw [show ((i : Nat) : Int) = a by omega]; simp
  · rename_i q
    have : ¬ ((i : Nat) : Int) = a := by omega
    simp [snL, inS, this]
theorem labT_sn {m : Mp} (h : OkM m) (f : Nat → Int) (s : List Int) {n : Nat} (hn : m.n = n) (S : List Int) (fr t : Int) : labT m f s (fun x => (snL n S).getD x.toNat false) fr t = labT m f s (inS S) fr t :=
  labT_congr (fun i hi => snL_get (by have := (roadB_ok (h.r i hi)).t; omega)) fr t
theorem labT_nil (m : Mp) (f : Nat → Int) (s : List Int) (fr t : Int) : labT m f s (inS []) fr t = labT m f s noP fr t := labT_congr (fun i _ => by simp [inS, noP]) fr t
def soU (m : Mp) (f : Nat → Int) (s : List Int) (fr to t : Int) : Int := gi (labT m f s noP fr t) to.toNat
def soE (m : Mp) (f : Nat → Int) (s : List Int) (fr to t : Int) : Int := if dpE m f s fr to t = 0 then (if soU m f s fr to t < 0 then 15 else 0) else dpE m f s fr to t
def soR (m : Mp) (f : Nat → Int) (s : List Int) (fr to t : Int) : List Int := if soE m f s fr to t = 0 then soW m f s to (soU m f s fr to t) (m.n.toNat + 1) [fr] fr t else []
def soT (m : Mp) (f : Nat → Int) (s : List Int) (fr to t : Int) : Int := if soE m f s fr to t = 0 then soU m f s fr to t else 0
structure SQ where
  k : Nat
  S : List Int
  a : Int
  t : Int
  o : List Int
structure SQok (m : Mp) (f : Nat → Int) (s : List Int) (fr to t0 e : Int) (R : List Int) (q : SQ) : Prop where
  i : SoI m f s to e t0 q.S q.a q.t
  u : unS m.n.toNat q.S < q.k
  w : q.o ++ soW m f s to e q.k q.S q.a q.t = R
  l : q.S.length + q.k ≤ 66
  n : q.o.length + q.k ≤ 66
theorem sq_ini {m : Mp} (h : OkM m) {f : Nat → Int} {s : List Int} {fr to t : Int} (hf : 0 ≤ fr ∧ fr < m.n) (ht : 0 ≤ t) : SQok m f s fr to t (soU m f s fr to t) (soW m f s to (soU m f s fr to t) (m.n.toNat + 1) [fr] fr t) ⟨m.n.toNat + 1, [fr], fr, t, []⟩ := by
  have hn := h.n
  refine ⟨so_first h hf ht, ?_, List.nil_append _, ?_, ?_⟩
  · have := List.countP_le_length (p := fun y : Nat => !inS [fr] y) (l := List.range m.n.toNat)
    rw [List.length_range] at this
    exact Nat.lt_succ_of_le this
  · show 1 + (m.n.toNat + 1) ≤ 66; omega
  · show 0 + (m.n.toNat + 1) ≤ 66; omega
theorem sq_end {m : Mp} {f : Nat → Int} {s : List Int} {fr to t0 e : Int} {R : List Int} {q : SQ} (h : SQok m f s fr to t0 e R q) (hat : q.a = to) : q.o = R := by
  have h1 := h.w
  have h2 := h.u
  obtain ⟨k', hk⟩ : ∃ k', q.k = k' + 1 := ⟨q.k - 1, by omega⟩
  clear h h2
  obtain ⟨k, S, a, t, o⟩ := q
  dsimp only at hk h1 hat ⊢
  subst hk
  simp only [soW] at h1
  rw [if_pos hat, List.append_nil] at h1
  exact h1
theorem sq_next {m : Mp} (h : OkM m) {f : Nat → Int} {s : List Int} {fr to t0 e : Int} {R : List Int} {q : SQ} (hto : 0 ≤ to ∧ to < m.n) (he : 0 ≤ e) (hq : SQok m f s fr to t0 e R q) (hne : q.a ≠ to) :
    ∃ x, x < m.rs.length ∧ soH m f s to e q.S q.a q.t x = true ∧ (∀ j, j < x → soH m f s to e q.S q.a q.t j = false) ∧ SQok m f s fr to t0 e R ⟨q.k - 1, q.S ++ [(gr m x).t], (gr m x).t, lvT (gr m x) q.t, q.o ++ [(x : Int)]⟩ := by
  obtain ⟨h1, h2, h3, h4, h5⟩ := so_next h hto he hq.i hne
  refine ⟨_, h1, h2, h3, h5, ?_, ?_, ?_, ?_⟩
  · have := hq.u
    exact Nat.lt_of_lt_of_le h4 (Nat.le_sub_one_of_lt this)
  · have hw := hq.w
    have hu := hq.u
    obtain ⟨k', hk⟩ : ∃ k', q.k = k' + 1 := ⟨q.k - 1, by omega⟩
    clear hu hq h1 h2 h3 h4 h5
    obtain ⟨k, S, a, t, o⟩ := q
    dsimp only at hk hw hne ⊢
    subst hk
    simp only [soW] at hw
    rw [if_neg hne] at hw
    rw [List.append_assoc, ← hw]
    rfl
  · have := hq.l; have := hq.u
    show (q.S ++ [_]).length + (q.k - 1) ≤ 66
    rw [List.length_append]; simp only [List.length_singleton]; omega
  · have := hq.n; have := hq.u
    show (q.o ++ [_]).length + (q.k - 1) ≤ 66
    rw [List.length_append]; simp only [List.length_singleton]; omega
theorem fst_at {p : Nat → Bool} {i x : Nat} (h1 : p x = true) (h2 : ∀ j, j < x → p j = false) (h3 : p i = true) (h4 : ∀ j, j < i → p j = false) : i = x := by
  rcases Nat.lt_trichotomy i x with q | q | q
  · rw [h2 i q] at h3; cases h3
  · exact q
  · rw [h4 x q] at h1; cases h1
end Go.Proofs.YtlahcoaofbpinaaGreat.R
