/- Part 4 of the proof of: ClaimNarrower: with narrower bands about a history that fits, or with one more reading of it, the statement about the verdicts holds, for every argument that the statement allows. -/
import Derived.Test.YtgijpimjfoabjaaP3
/- The spans of all minutes. -/
namespace Go.Proofs.Ytgijpimjfoabjaa
open Go Sy
set_option maxRecDepth 100000
set_option maxHeartbeats 4000000
set_option linter.unusedVariables false
set_option linter.unusedSimpArgs false
theorem fn74 (a : Option Addr) (k : Int) : Sy.Fn Try.prog 74 [.v (.pointer a), iv k] (.clo 84 [] [.fp [.v (.pointer a)] 0, .fp [iv k] 0]) := by
  refine Fn_of_W mixed Xt74 rfl ?_
  refine W_seq (W_regL ?_)
  simp (maxSteps := 400000) (disch := omega) only [push_cast, ↓reduceIte, reduceCtorEq, Nat.reduceAdd, Nat.reduceSub, Nat.reduceEqDiff, Nat.reduceLeDiff, Nat.reduceLT, Nat.reduceBEq, Nat.reduceDiv, Nat.reduceMod, Nat.reducePow, Nat.reduceMul, Int.reduceToNat, Int.reduceLT, Int.reduceLE]
  refine W_seq (W_regL ?_)
  simp (maxSteps := 400000) (disch := omega) only [push_cast, ↓reduceIte, reduceCtorEq, Nat.reduceAdd, Nat.reduceSub, Nat.reduceEqDiff, Nat.reduceLeDiff, Nat.reduceLT, Nat.reduceBEq, Nat.reduceDiv, Nat.reduceMod, Nat.reducePow, Nat.reduceMul, Int.reduceToNat, Int.reduceLT, Int.reduceLE]
  exact W_ret ⟨[_], ⟨rfl, rfl⟩, rfl⟩
theorem par74 (b : Nat) (k : Int) : Par Try.prog 74 [.own b 0, iv k] (.cq 84 [] [.fq [.own b 0] 0, .fp [iv k] 0]) := by
  intro E w ys h
  simp only [satT, sat] at h
  obtain ⟨y0, r0, rfl, ⟨b0, hb0, rfl⟩, y1, r1, rfl, rfl, rfl⟩ := h
  refine ⟨_, fn74 _ _, fun E' w' v h1 h2 => ?_⟩
  simp only [satT, sat] at h1
  obtain ⟨_, _, he, ⟨b1, hb1, he1⟩, _⟩ := h1
  obtain ⟨rfl, rfl⟩ := List.cons.inj he
  simp only [sat, fsat, fsatT] at h2
  obtain ⟨fv, cv, rfl, rfl, x1, s1, rfl, ⟨b2, o2, vs2, q1, q2, q3, q4⟩, x2, s2, rfl, ⟨b3, o3, vs3, q5, q6, q7, q8⟩, rfl⟩ := h2
  simp only [sat, satT, fsat]
  refine ⟨[], [x1, x2], rfl, rfl, x1, [x2], rfl, ⟨b2, o2, vs2, q1, q2, q3, ?_⟩, x2, [], rfl, ⟨b3, o3, vs3, q5, q6, q7, q8⟩, rfl⟩
  simp only [fsatL, fsat] at q4
  obtain ⟨x, xs, rfl, q9, rfl, rfl⟩ := q4
  simp only [satL, sat]
  exact ⟨_, [], rfl, q9, ⟨b1, hb1, he1⟩, rfl⟩
def okB (b : Nat → Band) (n : Nat) : Bool := (List.range n).all fun i => decide ((b i).lo ≤ (b i).hi)
def fillR (b : Nat → Band) (n : Nat) : AV := if okB b n then .tup [.sl 2 dB cBand ((List.range n).map b), bv true] else .tup [.v (.slice none 0 0), bv false]
theorem fill_set (b : Nat → Band) (n i : Nat) (h : i < n) : (((List.range i).map b ++ List.replicate (n - i) dB).set i (b i)) = (List.range (i + 1)).map b ++ List.replicate (n - (i + 1)) dB := by
  rw [show n - i = (n - (i + 1)) + 1 by omega, List.replicate_succ, List.set_append_right _ _ (by simp)]
  simp [List.range_succ]
theorem fn72 (l : Log) (st : Int) (X : List AV) (n : Nat) (gg : Nat) (fi ca : List AV) (b : Nat → Band) (hn : n ≤ 100000) (hst : 0 ≤ st ∧ st ≤ 1099511627776)
    (hg : ∀ i : Nat, i < n → Sy.Fn Try.prog gg (fi ++ [iv (st + i)] ++ ca) (.agg (cBand (b i)))) : FnN Try.prog 72 [.fp (cCrs l st X) 0, iv n, .clo gg fi ca] (fillR b n) := by
  refine FnN_of_W mixed Xt72 rfl ?_
  refine W_seq (W_regL ?_)
  simp (maxSteps := 400000) (disch := omega) only [push_cast, ↓reduceIte, reduceCtorEq, Nat.reduceAdd, Nat.reduceSub, Nat.reduceEqDiff, Nat.reduceLeDiff, Nat.reduceLT, Nat.reduceBEq, Nat.reduceDiv, Nat.reduceMod, Nat.reducePow, Nat.reduceMul, Int.reduceToNat, Int.reduceLT, Int.reduceLE]
  refine W_seq (W_regL ?_)
  simp (maxSteps := 400000) (disch := omega) only [push_cast, ↓reduceIte, reduceCtorEq, Nat.reduceAdd, Nat.reduceSub, Nat.reduceEqDiff, Nat.reduceLeDiff, Nat.reduceLT, Nat.reduceBEq, Nat.reduceDiv, Nat.reduceMod, Nat.reducePow, Nat.reduceMul, Int.reduceToNat, Int.reduceLT, Int.reduceLE]
  refine ⟨rfl, ⟨by omega, by omega, by omega⟩, Band, dB, cBand, dB, rfl, rfl, by omega, rfl, ?_⟩
  simp (maxSteps := 400000) (disch := omega) only [push_cast, ↓reduceIte, reduceCtorEq, Nat.reduceAdd, Nat.reduceSub, Nat.reduceEqDiff, Nat.reduceLeDiff, Nat.reduceLT, Nat.reduceBEq, Nat.reduceDiv, Nat.reduceMod, Nat.reducePow, Nat.reduceMul, Int.reduceToNat, Int.reduceLT, Int.reduceLE]
  refine W_seq (W_seq ?_)
  refine W_regL ?_
  simp (maxSteps := 400000) (disch := omega) only [push_cast, ↓reduceIte, reduceCtorEq, Nat.reduceAdd, Nat.reduceSub, Nat.reduceEqDiff, Nat.reduceLeDiff, Nat.reduceLT, Nat.reduceBEq, Nat.reduceDiv, Nat.reduceMod, Nat.reducePow, Nat.reduceMul, Int.reduceToNat, Int.reduceLT, Int.reduceLE]
  refine W_block ?_
  let L : Nat → List Band := fun i => (List.range i).map b ++ List.replicate (n - i) dB
  have hLl : ∀ i, i ≤ n → (L i).length = n := fun i hi => by simp [L]; omega
  refine W_loop (fun i : Nat => ⟨[(0, .fp (cCrs l st X) 0), (2, .clo gg fi ca), (8, .row 3 0), (12, iv n), (13, iv i)], [(3, .row 0 40 2 dB cBand (L i))], 10⟩) (fun i => i ≤ n ∧ ∀ j, j < i → decide ((b j).lo ≤ (b j).hi) = true) (fun i => n - i) 0 ⟨by omega, fun j hj => by omega⟩ (le_to [0, 2, 8, 12, 13] [3] 10 rfl (by simp only [norm_eq, L, List.range_zero, List.map_nil, List.nil_append, Nat.sub_zero]; rfl)) (fun i hi => ?_)
  obtain ⟨hi, hok⟩ := hi
  have hLi := hLl i hi
  refine W_seq ?_
  refine W_regL ?_
  simp (maxSteps := 400000) (disch := omega) only [push_cast, ↓reduceIte, reduceCtorEq, Nat.reduceAdd, Nat.reduceSub, Nat.reduceEqDiff, Nat.reduceLeDiff, Nat.reduceLT, Nat.reduceBEq, Nat.reduceDiv, Nat.reduceMod, Nat.reducePow, Nat.reduceMul, Int.reduceToNat, Int.reduceLT, Int.reduceLE]
  refine W_seq (W_cond (by rfl) (fun h => ?_) (fun h => ?_))
  · have h := of_decide_eq_true h
    have hlt : i < n := by omega
    refine W_skip ?_
    simp (maxSteps := 400000) (disch := omega) only [push_cast, ↓reduceIte, reduceCtorEq, Nat.reduceAdd, Nat.reduceSub, Nat.reduceEqDiff, Nat.reduceLeDiff, Nat.reduceLT, Nat.reduceBEq, Nat.reduceDiv, Nat.reduceMod, Nat.reducePow, Nat.reduceMul, Int.reduceToNat, Int.reduceLT, Int.reduceLE]
    refine W_seq (W_block (W_seq ?_))
    refine W_regL ?_
    simp (maxSteps := 400000) (disch := omega) only [push_cast, ↓reduceIte, reduceCtorEq, Nat.reduceAdd, Nat.reduceSub, Nat.reduceEqDiff, Nat.reduceLeDiff, Nat.reduceLT, Nat.reduceBEq, Nat.reduceDiv, Nat.reduceMod, Nat.reducePow, Nat.reduceMul, Int.reduceToNat, Int.reduceLT, Int.reduceLE]
    refine W_seq ?_
    refine W_regL ?_
    simp (maxSteps := 400000) (disch := omega) only [push_cast, ↓reduceIte, reduceCtorEq, Nat.reduceAdd, Nat.reduceSub, Nat.reduceEqDiff, Nat.reduceLeDiff, Nat.reduceLT, Nat.reduceBEq, Nat.reduceDiv, Nat.reduceMod, Nat.reducePow, Nat.reduceMul, Int.reduceToNat, Int.reduceLT, Int.reduceLE]
    refine CallC.now (hg i hlt) ?_
    simp (maxSteps := 400000) (disch := omega) only [push_cast, ↓reduceIte, reduceCtorEq, Nat.reduceAdd, Nat.reduceSub, Nat.reduceEqDiff, Nat.reduceLeDiff, Nat.reduceLT, Nat.reduceBEq, Nat.reduceDiv, Nat.reduceMod, Nat.reducePow, Nat.reduceMul, Int.reduceToNat, Int.reduceLT, Int.reduceLE]
    refine ⟨⟨by omega, by rw [hLi]; omega⟩, rfl, ⟨(by show (3 : Nat) < 24; omega), rfl⟩, by rw [hLi]; exact hlt, b i, rfl, rfl, ?_⟩
    simp (maxSteps := 400000) (disch := omega) only [push_cast, ↓reduceIte, reduceCtorEq, Nat.reduceAdd, Nat.reduceSub, Nat.reduceEqDiff, Nat.reduceLeDiff, Nat.reduceLT, Nat.reduceBEq, Nat.reduceDiv, Nat.reduceMod, Nat.reducePow, Nat.reduceMul, Int.reduceToNat, Int.reduceLT, Int.reduceLE]
    have hM : (L i).set i (b i) = L (i + 1) := fill_set b n i hlt
    have hMl := hLl (i + 1) hlt
    rw [hM]
    have hget : (L (i + 1)).getD i dB = b i := by rw [← hM]; simp [hLi, hlt]
    refine W_seq ?_
    refine W_regL ?_
    simp (maxSteps := 400000) (disch := omega) only [push_cast, ↓reduceIte, reduceCtorEq, Nat.reduceAdd, Nat.reduceSub, Nat.reduceEqDiff, Nat.reduceLeDiff, Nat.reduceLT, Nat.reduceBEq, Nat.reduceDiv, Nat.reduceMod, Nat.reducePow, Nat.reduceMul, Int.reduceToNat, Int.reduceLT, Int.reduceLE]
    rw [hMl, hget]
    refine ⟨by omega, by omega, by omega, by omega, ?_⟩
    refine W_cond (by rfl) (fun hb => ?_) (fun hb => ?_)
    · have hb := of_decide_eq_true hb
      refine W_seq (W_regL ?_)
      simp (maxSteps := 400000) (disch := omega) only [push_cast, ↓reduceIte, reduceCtorEq, Nat.reduceAdd, Nat.reduceSub, Nat.reduceEqDiff, Nat.reduceLeDiff, Nat.reduceLT, Nat.reduceBEq, Nat.reduceDiv, Nat.reduceMod, Nat.reducePow, Nat.reduceMul, Int.reduceToNat, Int.reduceLT, Int.reduceLE]
      refine W_ret ⟨[_, _], ⟨rfl, rfl, rfl⟩, ?_, ?_⟩
      · unfold fillR
        rw [if_neg (by unfold okB; rw [not_all_range hlt (decide_eq_false (by omega))]; simp)]
        rfl
      · exact ⟨⟨rfl, rfl⟩, ⟨rfl, rfl⟩, trivial⟩
    have hb := of_decide_eq_false hb
    refine W_skip ?_
    simp (maxSteps := 400000) (disch := omega) only [push_cast, ↓reduceIte, reduceCtorEq, Nat.reduceAdd, Nat.reduceSub, Nat.reduceEqDiff, Nat.reduceLeDiff, Nat.reduceLT, Nat.reduceBEq, Nat.reduceDiv, Nat.reduceMod, Nat.reducePow, Nat.reduceMul, Int.reduceToNat, Int.reduceLT, Int.reduceLE]
    refine W_regL ?_
    simp (maxSteps := 400000) (disch := omega) only [push_cast, ↓reduceIte, reduceCtorEq, Nat.reduceAdd, Nat.reduceSub, Nat.reduceEqDiff, Nat.reduceLeDiff, Nat.reduceLT, Nat.reduceBEq, Nat.reduceDiv, Nat.reduceMod, Nat.reducePow, Nat.reduceMul, Int.reduceToNat, Int.reduceLT, Int.reduceLE]
    refine ⟨i + 1, ⟨by omega, fun j hj => ?_⟩, by omega, le_to [0, 2, 8, 12, 13] [3] 10 rfl ?_⟩
    · rcases Nat.lt_succ_iff_lt_or_eq.1 hj with hj | rfl
      · exact hok j hj
      · exact decide_eq_true (by omega)
    · simp (maxSteps := 400000) (disch := omega) only [push_cast, ↓reduceIte, reduceCtorEq, Nat.reduceAdd, Nat.reduceSub, Nat.reduceEqDiff, Nat.reduceLeDiff, Nat.reduceLT, Nat.reduceBEq, Nat.reduceDiv, Nat.reduceMod, Nat.reducePow, Nat.reduceMul, Int.reduceToNat, Int.reduceLT, Int.reduceLE, S.mk.injEq, List.cons.injEq, Prod.mk.injEq, AV.v.injEq, Value.int.injEq, Value.bool.injEq, Blk.cells.injEq]
      all_goals omega
  · have h := of_decide_eq_false h
    refine W_exit ?_
    simp (maxSteps := 400000) (disch := omega) only [push_cast, ↓reduceIte, reduceCtorEq, Nat.reduceAdd, Nat.reduceSub, Nat.reduceEqDiff, Nat.reduceLeDiff, Nat.reduceLT, Nat.reduceBEq, Nat.reduceDiv, Nat.reduceMod, Nat.reducePow, Nat.reduceMul, Int.reduceToNat, Int.reduceLT, Int.reduceLE]
    have e : i = n := by omega
    subst e
    refine W_seq (W_regL ?_)
    simp (maxSteps := 400000) (disch := omega) only [push_cast, ↓reduceIte, reduceCtorEq, Nat.reduceAdd, Nat.reduceSub, Nat.reduceEqDiff, Nat.reduceLeDiff, Nat.reduceLT, Nat.reduceBEq, Nat.reduceDiv, Nat.reduceMod, Nat.reducePow, Nat.reduceMul, Int.reduceToNat, Int.reduceLT, Int.reduceLE]
    refine W_ret ⟨[_, _], ⟨rfl, rfl, rfl⟩, ?_, ?_⟩
    · unfold fillR
      rw [if_pos (by unfold okB; exact all_range.2 hok)]
      simp only [L, Nat.sub_self, List.replicate_zero, List.append_nil]
      rfl
    · exact ⟨fun x _ => rfl, ⟨rfl, rfl⟩, trivial⟩
end Go.Proofs.Ytgijpimjfoabjaa

/- open: the check of a log by the program. -/
namespace Go.Proofs.Ytgijpimjfoabjaa
open Go Sy
set_option maxRecDepth 100000
set_option maxHeartbeats 4000000
set_option linter.unusedVariables false
set_option linter.unusedSimpArgs false
theorem dL (l : Log) : List.take 4 (List.drop 1 (cLog l)) = [iv l.d0, iv l.d1, iv l.d2, iv l.d3] := rfl
theorem dV (r : Reading) : List.take 8 (List.drop 3 (cR r)) = [iv r.v0.lo, iv r.v0.hi, iv r.v1.lo, iv r.v1.hi, iv r.v2.lo, iv r.v2.hi, iv r.v3.lo, iv r.v3.hi] := rfl
attribute [push_cast] dL dV
def driftsOf (l : Log) : List Int := [l.d0, l.d1, l.d2, l.d3]
def valsOf (r : Reading) : List Band := [r.v0, r.v1, r.v2, r.v3]
def badD (x : Int) : Bool := !(decide (0 ≤ x) && decide (x ≤ 1048576))
theorem c68 (l : Log) : Sy.Fn Try.prog 68 [.sl 1 0 cI (driftsOf l), .clo 69 [] []] (bv ((driftsOf l).any badD)) :=
  fn68 _ (by simp [driftsOf]) 69 [] [] badD (fun x _ => fn69 x)
theorem c70 (r : Reading) : Sy.Fn Try.prog 70 [.sl 2 dB cBand (valsOf r), .clo 71 [] []] (bv ((valsOf r).any fun b => !okBand b)) :=
  fn70 _ (by simp [valsOf]) 71 [] [] _ (fun x _ => fn71 x)
theorem drifts_any (l : Log) : (driftsOf l).any badD = !okD4 l := by
  simp only [driftsOf, okD4, List.any_cons, List.any_nil, badD]
  rw [show List.range 4 = [0, 1, 2, 3] from rfl]
  simp only [List.all_cons, List.all_nil, drift]
  generalize (decide (0 ≤ l.d0) && decide (l.d0 ≤ 1048576)) = a
  generalize (decide (0 ≤ l.d1) && decide (l.d1 ≤ 1048576)) = b
  generalize (decide (0 ≤ l.d2) && decide (l.d2 ≤ 1048576)) = c
  generalize (decide (0 ≤ l.d3) && decide (l.d3 ≤ 1048576)) = d
  cases a <;> cases b <;> cases c <;> cases d <;> rfl
theorem vals_any (r : Reading) : ((valsOf r).any fun b => !okBand b) = !((List.range 4).all fun k => okBand (vals r k)) := by
  rw [show List.range 4 = [0, 1, 2, 3] from rfl]
  simp only [valsOf, List.any_cons, List.any_nil, List.all_cons, List.all_nil, vals]
  cases okBand r.v0 <;> cases okBand r.v1 <;> cases okBand r.v2 <;> cases okBand r.v3 <;> rfl
def places (l : Log) (n : Nat) : List Band := (List.range n).map fun i : Nat => cplace l (t0 l + i)
def values (l : Log) (k n : Nat) : List Band := (List.range n).map fun i : Nat => cvalue l k (t0 l + i)
def mins (l : Log) : Nat := (tn l - t0 l + 1).toNat
def cchk (l : Log) : Int :=
  if 64 < l.rs.length then 6 else if l.rs.length < 2 then 2
  else if okD4 l = false then 2
  else if ((List.range l.rs.length).all (okR l)) = false then 2
  else if tn l - t0 l > 2000 then 2
  else if okB (fun i => cplace l (t0 l + i)) (mins l) = false then 16
  else if ((List.range 4).all fun k => okB (fun i => cvalue l k (t0 l + i)) (mins l)) = false then 16 else 0
def aB (l : List Band) : AV := .sl 2 dB cBand l
def crsX (l : Log) : List AV := aB (places l (mins l)) :: (List.range 4).map fun k => aB (values l k (mins l))
def cres (l : Log) : AV := if cchk l = 0 then .tup [.fp (cCrs l (t0 l) (crsX l)) 0, iv 0] else .tup [.v (.pointer none), iv (cchk l)]
theorem cres_bad {l : Log} {e : Int} (h : cchk l = e) (he : e ≠ 0) : cres l = .tup [.v (.pointer none), iv e] := by
  unfold cres; rw [if_neg (by omega), h]
def nilS : AV := .v (.slice none 0 0)
def nils : List AV := [nilS, nilS, nilS, nilS, nilS]
def crsK (l : Log) (n j : Nat) : List AV := aB (places l n) :: (List.range 4).map fun k => if k < j then aB (values l k n) else nilS
theorem crsK_len (l : Log) (n j : Nat) : (crsK l n j).length = 5 := rfl
theorem crsK_set (l : Log) (st : Int) (n k : Nat) (h : k < 4) : List.take (7 + k * 1) (cCrs l st (crsK l n k)) ++ [aB (values l k n)] ++ List.drop (7 + k * 1 + 1) (cCrs l st (crsK l n k)) = cCrs l st (crsK l n (k + 1)) := by
  rcases k with _ | _ | _ | _ | k <;> first | rfl | omega
theorem crsK_frz (l : Log) (st : Int) (n k : Nat) : frzAll (cCrs l st (crsK l n k)) = true := by
  have : ∀ j, frzB (if j < k then aB (values l j n) else nilS) = true := fun j => by split <;> rfl
  rw [frC]
  simp only [crsK, show List.range 4 = [0, 1, 2, 3] from rfl, List.map_cons, List.map_nil, frzAll, this, Bool.and_true]
  rfl
theorem crsK_only (bs : List Nat) (l : Log) (st : Int) (n k : Nat) : onlyL bs (cCrs l st (crsK l n k)) = true := onlyL_frz1 bs _ (crsK_frz l st n k)
theorem iK {m : Nat → Option Blk} {i : Nat} (l : Log) (st : Int) (n k : Nat) : List.flatMap (ids m i) (cCrs l st (crsK l n k)) = [] := flat_frz i _ (crsK_frz l st n k)
theorem fn46 (l : Log) (h3 : l.rs.length ≤ 1000000) : Sy.Fn Try.prog 46 [aLog l] (cres l) := by
  refine Fn_of_W mixed Xt46 rfl ?_
  refine W_seq (W_regL ?_)
  simp (maxSteps := 400000) (disch := omega) only [push_cast, ↓reduceIte, reduceCtorEq, Nat.reduceAdd, Nat.reduceSub, Nat.reduceEqDiff, Nat.reduceLeDiff, Nat.reduceLT, Nat.reduceBEq, Nat.reduceDiv, Nat.reduceMod, Nat.reducePow, Nat.reduceMul, Int.reduceToNat, Int.reduceLT, Int.reduceLE]
  refine W_seq (W_seq ?_)
  refine W_regL ?_
  simp (maxSteps := 400000) (disch := omega) only [push_cast, ↓reduceIte, reduceCtorEq, Nat.reduceAdd, Nat.reduceSub, Nat.reduceEqDiff, Nat.reduceLeDiff, Nat.reduceLT, Nat.reduceBEq, Nat.reduceDiv, Nat.reduceMod, Nat.reducePow, Nat.reduceMul, Int.reduceToNat, Int.reduceLT, Int.reduceLE]
  refine W_cond (by rfl) (fun h => ?_) (fun h => ?_)
  · have h := of_decide_eq_true h
    refine W_seq (W_regL ?_)
    simp (maxSteps := 400000) (disch := omega) only [push_cast, ↓reduceIte, reduceCtorEq, Nat.reduceAdd, Nat.reduceSub, Nat.reduceEqDiff, Nat.reduceLeDiff, Nat.reduceLT, Nat.reduceBEq, Nat.reduceDiv, Nat.reduceMod, Nat.reducePow, Nat.reduceMul, Int.reduceToNat, Int.reduceLT, Int.reduceLE]
    exact W_ret ⟨[_, _], ⟨rfl, rfl, rfl⟩, by rw [cres_bad (e := 6) (by unfold cchk; rw [if_pos (by omega)]) (by omega)]; rfl⟩
  have hn64 := of_decide_eq_false h
  refine W_skip ?_
  simp (maxSteps := 400000) (disch := omega) only [push_cast, ↓reduceIte, reduceCtorEq, Nat.reduceAdd, Nat.reduceSub, Nat.reduceEqDiff, Nat.reduceLeDiff, Nat.reduceLT, Nat.reduceBEq, Nat.reduceDiv, Nat.reduceMod, Nat.reducePow, Nat.reduceMul, Int.reduceToNat, Int.reduceLT, Int.reduceLE]
  refine W_seq (W_seq ?_)
  refine W_regL ?_
  simp (maxSteps := 400000) (disch := omega) only [push_cast, ↓reduceIte, reduceCtorEq, Nat.reduceAdd, Nat.reduceSub, Nat.reduceEqDiff, Nat.reduceLeDiff, Nat.reduceLT, Nat.reduceBEq, Nat.reduceDiv, Nat.reduceMod, Nat.reducePow, Nat.reduceMul, Int.reduceToNat, Int.reduceLT, Int.reduceLE]
  refine ⟨Int, 0, cI, driftsOf l, fun _ => ⟨trivial, rfl, by omega, fun x _ => rfl, rfl⟩, ?_⟩
  simp (maxSteps := 400000) (disch := omega) only [push_cast, ↓reduceIte, reduceCtorEq, Nat.reduceAdd, Nat.reduceSub, Nat.reduceEqDiff, Nat.reduceLeDiff, Nat.reduceLT, Nat.reduceBEq, Nat.reduceDiv, Nat.reduceMod, Nat.reducePow, Nat.reduceMul, Int.reduceToNat, Int.reduceLT, Int.reduceLE]
  refine CallC.go _ (fun _ => ⟨trivial, c68 l⟩) rfl ?_
  simp (maxSteps := 400000) (disch := omega) only [push_cast, ↓reduceIte, reduceCtorEq, Nat.reduceAdd, Nat.reduceSub, Nat.reduceEqDiff, Nat.reduceLeDiff, Nat.reduceLT, Nat.reduceBEq, Nat.reduceDiv, Nat.reduceMod, Nat.reducePow, Nat.reduceMul, Int.reduceToNat, Int.reduceLT, Int.reduceLE, drifts_any]
  refine W_cond (by rfl) (fun h => ?_) (fun h => ?_)
  · refine W_seq (W_regL ?_)
    simp (maxSteps := 400000) (disch := omega) only [push_cast, ↓reduceIte, reduceCtorEq, Nat.reduceAdd, Nat.reduceSub, Nat.reduceEqDiff, Nat.reduceLeDiff, Nat.reduceLT, Nat.reduceBEq, Nat.reduceDiv, Nat.reduceMod, Nat.reducePow, Nat.reduceMul, Int.reduceToNat, Int.reduceLT, Int.reduceLE]
    have hc : cchk l = 2 := by
      unfold cchk
      rw [if_neg (by omega)]
      by_cases h2 : l.rs.length < 2
      · rw [if_pos h2]
      · rw [if_neg h2]
        rw [decide_eq_false (by omega), Bool.false_or, Bool.not_eq_true'] at h
        rw [if_pos h]
    exact W_ret ⟨[_, _], ⟨rfl, rfl, rfl⟩, by rw [cres_bad hc (by omega)]; rfl⟩
  rw [Bool.or_eq_false_iff, decide_eq_false_iff_not, Bool.not_eq_false'] at h
  obtain ⟨hn2, hD⟩ := h
  refine W_skip ?_
  simp (maxSteps := 400000) (disch := omega) only [push_cast, ↓reduceIte, reduceCtorEq, Nat.reduceAdd, Nat.reduceSub, Nat.reduceEqDiff, Nat.reduceLeDiff, Nat.reduceLT, Nat.reduceBEq, Nat.reduceDiv, Nat.reduceMod, Nat.reducePow, Nat.reduceMul, Int.reduceToNat, Int.reduceLT, Int.reduceLE]
  have hbadR : ∀ i, i < l.rs.length → okR l i = false → cchk l = 2 := fun i hi hf => by
    unfold cchk
    rw [if_neg (by omega), if_neg (by omega), if_neg (by rw [hD]; simp), if_pos (not_all_range hi hf)]
  refine W_seq_fact ⟨[(1, .fp (cLog l) 0)], [], 10⟩ (∀ j, j < l.rs.length → okR l j = true) (W_seq ?_) (fun hR => ?_)
  · refine W_regL ?_
    simp (maxSteps := 400000) (disch := omega) only [push_cast, ↓reduceIte, reduceCtorEq, Nat.reduceAdd, Nat.reduceSub, Nat.reduceEqDiff, Nat.reduceLeDiff, Nat.reduceLT, Nat.reduceBEq, Nat.reduceDiv, Nat.reduceMod, Nat.reducePow, Nat.reduceMul, Int.reduceToNat, Int.reduceLT, Int.reduceLE]
    refine W_block ?_
    refine W_loop (fun i : Nat => ⟨[(1, .fp (cLog l) 0), (25, .sl 11 dR cR l.rs), (26, iv l.rs.length), (27, iv i)], [], 10⟩) (fun i => i ≤ l.rs.length ∧ ∀ j, j < i → okR l j = true) (fun i => l.rs.length - i) 0 ⟨by omega, fun j hj => by omega⟩ (le_to [1, 25, 26, 27] [] 10 rfl rfl) (fun i hi => ?_)
    obtain ⟨hi, hok⟩ := hi
    refine W_seq ?_
    refine W_regL ?_
    simp (maxSteps := 400000) (disch := omega) only [push_cast, ↓reduceIte, reduceCtorEq, Nat.reduceAdd, Nat.reduceSub, Nat.reduceEqDiff, Nat.reduceLeDiff, Nat.reduceLT, Nat.reduceBEq, Nat.reduceDiv, Nat.reduceMod, Nat.reducePow, Nat.reduceMul, Int.reduceToNat, Int.reduceLT, Int.reduceLE]
    refine W_seq (W_cond (by rfl) (fun h => ?_) (fun h => ?_))
    · have h := of_decide_eq_true h
      have hlt : i < l.rs.length := by omega
      refine W_skip ?_
      simp (maxSteps := 400000) (disch := omega) only [push_cast, ↓reduceIte, reduceCtorEq, Nat.reduceAdd, Nat.reduceSub, Nat.reduceEqDiff, Nat.reduceLeDiff, Nat.reduceLT, Nat.reduceBEq, Nat.reduceDiv, Nat.reduceMod, Nat.reducePow, Nat.reduceMul, Int.reduceToNat, Int.reduceLT, Int.reduceLE]
      refine W_seq (W_block (W_seq ?_))
      refine W_regL ?_
      simp (maxSteps := 400000) (disch := omega) only [push_cast, ↓reduceIte, reduceCtorEq, Nat.reduceAdd, Nat.reduceSub, Nat.reduceEqDiff, Nat.reduceLeDiff, Nat.reduceLT, Nat.reduceBEq, Nat.reduceDiv, Nat.reduceMod, Nat.reducePow, Nat.reduceMul, Int.reduceToNat, Int.reduceLT, Int.reduceLE]
      refine ⟨by omega, ?_⟩
      have hr : l.rs.getD i dR = rd l i := rfl
      rw [hr]
      refine W_le (le_frz 5 [1, 4, 25, 26, 27] [] 20 14 0 (cR (rd l i)) rfl rfl (frR _) rfl rfl) ?_
      simp (maxSteps := 400000) (disch := omega) only [push_cast, ↓reduceIte, reduceCtorEq, Nat.reduceAdd, Nat.reduceSub, Nat.reduceEqDiff, Nat.reduceLeDiff, Nat.reduceLT, Nat.reduceBEq, Nat.reduceDiv, Nat.reduceMod, Nat.reducePow, Nat.reduceMul, Int.reduceToNat, Int.reduceLT, Int.reduceLE]
      have e1 : l.rs.getD ((i : Int) - 1).toNat dR = rd l (i - 1) := by rw [show ((i : Int) - 1).toNat = i - 1 by omega]; rfl
      have e2 : decide (0 < (i : Int)) = decide (0 < i) := by simp
      refine W_seq ?_
      refine W_regL ?_
      simp (maxSteps := 400000) (disch := omega) only [push_cast, ↓reduceIte, reduceCtorEq, Nat.reduceAdd, Nat.reduceSub, Nat.reduceEqDiff, Nat.reduceLeDiff, Nat.reduceLT, Nat.reduceBEq, Nat.reduceDiv, Nat.reduceMod, Nat.reducePow, Nat.reduceMul, Int.reduceToNat, Int.reduceLT, Int.reduceLE, e1, e2]
      refine CallC.now (fn49 _ _ _) ?_
      simp (maxSteps := 400000) (disch := omega) only [push_cast, ↓reduceIte, reduceCtorEq, Nat.reduceAdd, Nat.reduceSub, Nat.reduceEqDiff, Nat.reduceLeDiff, Nat.reduceLT, Nat.reduceBEq, Nat.reduceDiv, Nat.reduceMod, Nat.reducePow, Nat.reduceMul, Int.reduceToNat, Int.reduceLT, Int.reduceLE, e1, e2]
      refine CallC.go _ (fun _ => ⟨trivial, fn61 _⟩) rfl ?_
      simp (maxSteps := 400000) (disch := omega) only [push_cast, ↓reduceIte, reduceCtorEq, Nat.reduceAdd, Nat.reduceSub, Nat.reduceEqDiff, Nat.reduceLeDiff, Nat.reduceLT, Nat.reduceBEq, Nat.reduceDiv, Nat.reduceMod, Nat.reducePow, Nat.reduceMul, Int.reduceToNat, Int.reduceLT, Int.reduceLE, e1, e2]
      refine ⟨fun h => by have := of_decide_eq_true h.1; omega, ?_⟩
      refine W_seq ?_
      refine W_regL ?_
      simp (maxSteps := 400000) (disch := omega) only [push_cast, ↓reduceIte, reduceCtorEq, Nat.reduceAdd, Nat.reduceSub, Nat.reduceEqDiff, Nat.reduceLeDiff, Nat.reduceLT, Nat.reduceBEq, Nat.reduceDiv, Nat.reduceMod, Nat.reducePow, Nat.reduceMul, Int.reduceToNat, Int.reduceLT, Int.reduceLE]
      refine ⟨Band, dB, cBand, valsOf (rd l i), fun _ => ⟨(by first | trivial | omega), rfl, by omega, fun x _ => rfl, rfl⟩, ?_⟩
      simp (maxSteps := 400000) (disch := omega) only [push_cast, ↓reduceIte, reduceCtorEq, Nat.reduceAdd, Nat.reduceSub, Nat.reduceEqDiff, Nat.reduceLeDiff, Nat.reduceLT, Nat.reduceBEq, Nat.reduceDiv, Nat.reduceMod, Nat.reducePow, Nat.reduceMul, Int.reduceToNat, Int.reduceLT, Int.reduceLE]
      refine CallC.go _ (fun _ => ⟨trivial, c70 _⟩) rfl ?_
      simp (maxSteps := 400000) (disch := omega) only [push_cast, ↓reduceIte, reduceCtorEq, Nat.reduceAdd, Nat.reduceSub, Nat.reduceEqDiff, Nat.reduceLeDiff, Nat.reduceLT, Nat.reduceBEq, Nat.reduceDiv, Nat.reduceMod, Nat.reducePow, Nat.reduceMul, Int.reduceToNat, Int.reduceLT, Int.reduceLE, vals_any]
      have key : okR l i = !((!(decide (0 ≤ (rd l i).at_) && decide ((rd l i).at_ ≤ 1099511627776)) || !okBand (rd l i).place || decide (0 < i) && decide ((rd l i).at_ ≤ (rd l (i - 1)).at_)) || !((List.range 4).all fun k => okBand (vals (rd l i) k))) := by
        unfold okR
        generalize (decide (0 ≤ (rd l i).at_) && decide ((rd l i).at_ ≤ 1099511627776)) = x1
        generalize (decide (0 < i) && decide ((rd l i).at_ ≤ (rd l (i - 1)).at_)) = x2
        generalize okBand (rd l i).place = x3
        generalize ((List.range 4).all fun k => okBand (vals (rd l i) k)) = x4
        cases x1 <;> cases x2 <;> cases x3 <;> cases x4 <;> rfl
      refine W_cond (by rfl) (fun hb => ?_) (fun hb => ?_)
      · refine W_seq (W_regL ?_)
        simp (maxSteps := 400000) (disch := omega) only [push_cast, ↓reduceIte, reduceCtorEq, Nat.reduceAdd, Nat.reduceSub, Nat.reduceEqDiff, Nat.reduceLeDiff, Nat.reduceLT, Nat.reduceBEq, Nat.reduceDiv, Nat.reduceMod, Nat.reducePow, Nat.reduceMul, Int.reduceToNat, Int.reduceLT, Int.reduceLE]
        have hbad : okR l i = false := by rw [key, hb]; rfl
        exact W_ret ⟨[_, _], ⟨rfl, rfl, rfl⟩, by rw [cres_bad (hbadR i hlt hbad) (by omega)]; rfl⟩
      refine W_skip ?_
      simp (maxSteps := 400000) (disch := omega) only [push_cast, ↓reduceIte, reduceCtorEq, Nat.reduceAdd, Nat.reduceSub, Nat.reduceEqDiff, Nat.reduceLeDiff, Nat.reduceLT, Nat.reduceBEq, Nat.reduceDiv, Nat.reduceMod, Nat.reducePow, Nat.reduceMul, Int.reduceToNat, Int.reduceLT, Int.reduceLE]
      refine W_regL ?_
      simp (maxSteps := 400000) (disch := omega) only [push_cast, ↓reduceIte, reduceCtorEq, Nat.reduceAdd, Nat.reduceSub, Nat.reduceEqDiff, Nat.reduceLeDiff, Nat.reduceLT, Nat.reduceBEq, Nat.reduceDiv, Nat.reduceMod, Nat.reducePow, Nat.reduceMul, Int.reduceToNat, Int.reduceLT, Int.reduceLE]
      refine ⟨i + 1, ⟨by omega, fun j hj => ?_⟩, by omega, le_to [1, 25, 26, 27] [] 10 rfl ?_⟩
      · rcases Nat.lt_succ_iff_lt_or_eq.1 hj with hj | rfl
        · exact hok j hj
        · rw [key, hb]; rfl
      · simp (maxSteps := 400000) (disch := omega) only [push_cast, ↓reduceIte, reduceCtorEq, Nat.reduceAdd, Nat.reduceSub, Nat.reduceEqDiff, Nat.reduceLeDiff, Nat.reduceLT, Nat.reduceBEq, Nat.reduceDiv, Nat.reduceMod, Nat.reducePow, Nat.reduceMul, Int.reduceToNat, Int.reduceLT, Int.reduceLE, S.mk.injEq, List.cons.injEq, Prod.mk.injEq, AV.v.injEq, Value.int.injEq, Value.bool.injEq, Blk.cells.injEq]
        all_goals omega
    · have h := of_decide_eq_false h
      refine W_exit ?_
      simp (maxSteps := 400000) (disch := omega) only [push_cast, ↓reduceIte, reduceCtorEq, Nat.reduceAdd, Nat.reduceSub, Nat.reduceEqDiff, Nat.reduceLeDiff, Nat.reduceLT, Nat.reduceBEq, Nat.reduceDiv, Nat.reduceMod, Nat.reducePow, Nat.reduceMul, Int.reduceToNat, Int.reduceLT, Int.reduceLE]
      exact ⟨fun j hj => hok j (by omega), le_to [1] [] 10 rfl rfl⟩
  have hat : ∀ j, j < l.rs.length → 0 ≤ (rd l j).at_ ∧ (rd l j).at_ ≤ 1099511627776 := fun j hj => by
    have := hR j hj
    simp only [okR, Bool.and_eq_true, decide_eq_true_eq] at this
    exact this.1.1.1
  have htn : l.rs.getD (l.rs.length - 1) dR = rd l (l.rs.length - 1) := rfl
  have ht0 : l.rs.getD 0 dR = rd l 0 := rfl
  have e1 : ((l.rs.length : Int) - 1).toNat = l.rs.length - 1 := by omega
  have b1 := hat (l.rs.length - 1) (by omega)
  have b2 := hat 0 (by omega)
  refine W_seq ?_
  refine W_regL ?_
  simp (maxSteps := 400000) (disch := omega) only [push_cast, ↓reduceIte, reduceCtorEq, Nat.reduceAdd, Nat.reduceSub, Nat.reduceEqDiff, Nat.reduceLeDiff, Nat.reduceLT, Nat.reduceBEq, Nat.reduceDiv, Nat.reduceMod, Nat.reducePow, Nat.reduceMul, Int.reduceToNat, Int.reduceLT, Int.reduceLE]
  refine ⟨by omega, ?_⟩
  change W Try.prog 125 Xn46_45 ⟨[(1, .fp (cLog l) 0), (7, .own 17 0)], [(17, .cells (cCrs l (t0 l) nils))], 19⟩ _
  have hnl : nils.length = 5 := rfl
  have hspan1 : tn l = (rd l (l.rs.length - 1)).at_ := rfl
  have hspan0 : t0 l = (rd l 0).at_ := rfl
  refine W_seq ?_
  refine W_regL ?_
  simp (maxSteps := 400000) (disch := omega) only [push_cast, ↓reduceIte, reduceCtorEq, Nat.reduceAdd, Nat.reduceSub, Nat.reduceEqDiff, Nat.reduceLeDiff, Nat.reduceLT, Nat.reduceBEq, Nat.reduceDiv, Nat.reduceMod, Nat.reducePow, Nat.reduceMul, Int.reduceToNat, Int.reduceLT, Int.reduceLE, e1, htn]
  refine ⟨by omega, ?_⟩
  refine W_seq (W_seq ?_)
  refine W_regL ?_
  simp (maxSteps := 400000) (disch := omega) only [push_cast, ↓reduceIte, reduceCtorEq, Nat.reduceAdd, Nat.reduceSub, Nat.reduceEqDiff, Nat.reduceLeDiff, Nat.reduceLT, Nat.reduceBEq, Nat.reduceDiv, Nat.reduceMod, Nat.reducePow, Nat.reduceMul, Int.reduceToNat, Int.reduceLT, Int.reduceLE]
  refine W_cond (by rfl) (fun h => ?_) (fun h => ?_)
  · have h := of_decide_eq_true h
    refine W_seq (W_regL ?_)
    simp (maxSteps := 400000) (disch := omega) only [push_cast, ↓reduceIte, reduceCtorEq, Nat.reduceAdd, Nat.reduceSub, Nat.reduceEqDiff, Nat.reduceLeDiff, Nat.reduceLT, Nat.reduceBEq, Nat.reduceDiv, Nat.reduceMod, Nat.reducePow, Nat.reduceMul, Int.reduceToNat, Int.reduceLT, Int.reduceLE]
    have hc : cchk l = 2 := by
      unfold cchk
      rw [if_neg (by omega), if_neg (by omega), if_neg (by rw [hD]; simp), if_neg (by rw [all_range.2 hR]; simp), if_pos (by omega)]
    exact W_ret ⟨[_, _], ⟨rfl, rfl, rfl⟩, by rw [cres_bad hc (by omega)]; rfl⟩
  have hspan := of_decide_eq_false h
  have hg : Good l := {
    n2 := by omega
    n64 := by omega
    at0 := hat
    inc := fun i hi => by
      have := hR (i + 1) hi
      simp only [okR, Bool.and_eq_true, Bool.not_eq_true', Bool.and_eq_false_iff, decide_eq_false_iff_not, Nat.add_sub_cancel] at this
      have := this.1.1.2
      omega
    pl := fun i hi => by
      have := hR i hi
      simp only [okR, Bool.and_eq_true] at this
      exact this.1.2
    vl := fun i k hi hk => by
      have := hR i hi
      simp only [okR, Bool.and_eq_true] at this
      exact all_range.1 this.2 k hk
    span := by omega
    dr := fun k hk => by
      have := all_range.1 hD k hk
      simpa using this }
  have htt : t0 l ≤ tn l := by
    have := (hg.tI (i := 0) (by omega))
    omega
  obtain ⟨L, hL⟩ : ∃ L : Nat, tn l - t0 l = L := ⟨(tn l - t0 l).toNat, by omega⟩
  have hLn : mins l = L + 1 := by unfold mins; omega
  refine W_skip ?_
  simp (maxSteps := 400000) (disch := omega) only [push_cast, ↓reduceIte, reduceCtorEq, Nat.reduceAdd, Nat.reduceSub, Nat.reduceEqDiff, Nat.reduceLeDiff, Nat.reduceLT, Nat.reduceBEq, Nat.reduceDiv, Nat.reduceMod, Nat.reducePow, Nat.reduceMul, Int.reduceToNat, Int.reduceLT, Int.reduceLE]
  rw [← hspan1]
  refine W_seq ?_
  refine W_regL ?_
  simp (maxSteps := 400000) (disch := omega) only [push_cast, ↓reduceIte, reduceCtorEq, Nat.reduceAdd, Nat.reduceSub, Nat.reduceEqDiff, Nat.reduceLeDiff, Nat.reduceLT, Nat.reduceBEq, Nat.reduceDiv, Nat.reduceMod, Nat.reducePow, Nat.reduceMul, Int.reduceToNat, Int.reduceLT, Int.reduceLE]
  rw [hL]
  have c72 := fn72 l (t0 l) nils (L + 1) 73 [.fp (cCrs l (t0 l) nils) 0] [] (fun i => cplace l (t0 l + i)) (by omega) (by omega) (fun i hi => fn73 l (t0 l) (t0 l + i) nils h3)
  refine W_seq (W_seq ?_)
  refine W_regL ?_
  simp (maxSteps := 400000) (disch := omega) only [push_cast, ↓reduceIte, reduceCtorEq, Nat.reduceAdd, Nat.reduceSub, Nat.reduceEqDiff, Nat.reduceLeDiff, Nat.reduceLT, Nat.reduceBEq, Nat.reduceDiv, Nat.reduceMod, Nat.reducePow, Nat.reduceMul, Int.reduceToNat, Int.reduceLT, Int.reduceLE]
  have hf : frzAll (cCrs l (t0 l) nils) = true := rfl
  have hc1 : ((L + 1 : Nat) : Int) = (L : Int) + 1 := by omega
  rw [hc1] at c72
  rw [viewL_frz 3 _ hf, viewL_frz 2 _ hf]
  refine CallC.new _ (fun _ => ⟨trivial, c72⟩) ?_
  by_cases hP : okB (fun i => cplace l (t0 l + i)) (L + 1) = true
  · unfold fillR
    rw [if_pos hP]
    simp (maxSteps := 400000) (disch := omega) only [push_cast, ↓reduceIte, reduceCtorEq, Nat.reduceAdd, Nat.reduceSub, Nat.reduceEqDiff, Nat.reduceLeDiff, Nat.reduceLT, Nat.reduceBEq, Nat.reduceDiv, Nat.reduceMod, Nat.reducePow, Nat.reduceMul, Int.reduceToNat, Int.reduceLT, Int.reduceLE]
    refine ⟨by omega, ?_⟩
    change W Try.prog 125 Xn46_60 ⟨[(7, .own 17 0), (8, iv L), (9, bv true)], [(17, .cells (cCrs l (t0 l) (crsK l (L + 1) 0)))], 51⟩ _
    refine W_seq ?_
    refine W_regL ?_
    simp (maxSteps := 400000) (disch := omega) only [push_cast, ↓reduceIte, reduceCtorEq, Nat.reduceAdd, Nat.reduceSub, Nat.reduceEqDiff, Nat.reduceLeDiff, Nat.reduceLT, Nat.reduceBEq, Nat.reduceDiv, Nat.reduceMod, Nat.reducePow, Nat.reduceMul, Int.reduceToNat, Int.reduceLT, Int.reduceLE]
    refine W_cond (by rfl) (fun h => by cases h) (fun _ => ?_)
    refine W_skip ?_
    simp (maxSteps := 400000) (disch := omega) only [push_cast, ↓reduceIte, reduceCtorEq, Nat.reduceAdd, Nat.reduceSub, Nat.reduceEqDiff, Nat.reduceLeDiff, Nat.reduceLT, Nat.reduceBEq, Nat.reduceDiv, Nat.reduceMod, Nat.reducePow, Nat.reduceMul, Int.reduceToNat, Int.reduceLT, Int.reduceLE]
    refine W_seq_fact ⟨[(7, .own 17 0), (8, iv L)], [(17, .cells (cCrs l (t0 l) (crsK l (L + 1) 4)))], 51⟩ (∀ k, k < 4 → okB (fun i => cvalue l k (t0 l + i)) (L + 1) = true) (W_seq ?_) (fun hV => ?_)
    · refine W_regL ?_
      simp (maxSteps := 400000) (disch := omega) only [push_cast, ↓reduceIte, reduceCtorEq, Nat.reduceAdd, Nat.reduceSub, Nat.reduceEqDiff, Nat.reduceLeDiff, Nat.reduceLT, Nat.reduceBEq, Nat.reduceDiv, Nat.reduceMod, Nat.reducePow, Nat.reduceMul, Int.reduceToNat, Int.reduceLT, Int.reduceLE]
      refine W_block ?_
      refine W_loop (fun k : Nat => ⟨[(7, .own 17 0), (8, iv L), (103, iv k)], [(17, .cells (cCrs l (t0 l) (crsK l (L + 1) k)))], 51⟩) (fun k => k ≤ 4 ∧ ∀ j, j < k → okB (fun i => cvalue l j (t0 l + i)) (L + 1) = true) (fun k => 4 - k) 0 ⟨by omega, fun j hj => by omega⟩ (le_to [7, 8, 103] [17] 51 rfl rfl) (fun k hk => ?_)
      obtain ⟨hk, hokk⟩ := hk
      refine W_seq ?_
      refine W_regL ?_
      simp (maxSteps := 400000) (disch := omega) only [push_cast, ↓reduceIte, reduceCtorEq, Nat.reduceAdd, Nat.reduceSub, Nat.reduceEqDiff, Nat.reduceLeDiff, Nat.reduceLT, Nat.reduceBEq, Nat.reduceDiv, Nat.reduceMod, Nat.reducePow, Nat.reduceMul, Int.reduceToNat, Int.reduceLT, Int.reduceLE]
      refine W_seq (W_cond (by rfl) (fun h => ?_) (fun h => ?_))
      · have h := of_decide_eq_true h
        have hk4 : k < 4 := by omega
        refine W_skip ?_
        simp (maxSteps := 400000) (disch := omega) only [push_cast, ↓reduceIte, reduceCtorEq, Nat.reduceAdd, Nat.reduceSub, Nat.reduceEqDiff, Nat.reduceLeDiff, Nat.reduceLT, Nat.reduceBEq, Nat.reduceDiv, Nat.reduceMod, Nat.reducePow, Nat.reduceMul, Int.reduceToNat, Int.reduceLT, Int.reduceLE]
        refine W_seq (W_block (W_seq ?_))
        refine W_regL ?_
        simp (maxSteps := 400000) (disch := omega) only [push_cast, ↓reduceIte, reduceCtorEq, Nat.reduceAdd, Nat.reduceSub, Nat.reduceEqDiff, Nat.reduceLeDiff, Nat.reduceLT, Nat.reduceBEq, Nat.reduceDiv, Nat.reduceMod, Nat.reducePow, Nat.reduceMul, Int.reduceToNat, Int.reduceLT, Int.reduceLE]
        refine W_seq ?_
        refine W_regL ?_
        simp (maxSteps := 400000) (disch := omega) only [push_cast, ↓reduceIte, reduceCtorEq, Nat.reduceAdd, Nat.reduceSub, Nat.reduceEqDiff, Nat.reduceLeDiff, Nat.reduceLT, Nat.reduceBEq, Nat.reduceDiv, Nat.reduceMod, Nat.reducePow, Nat.reduceMul, Int.reduceToNat, Int.reduceLT, Int.reduceLE, iK]
        refine CallC.par _ (fun _ => ⟨trivial, par74 17 k⟩) ?_
        simp (maxSteps := 400000) (disch := omega) only [push_cast, ↓reduceIte, reduceCtorEq, Nat.reduceAdd, Nat.reduceSub, Nat.reduceEqDiff, Nat.reduceLeDiff, Nat.reduceLT, Nat.reduceBEq, Nat.reduceDiv, Nat.reduceMod, Nat.reducePow, Nat.reduceMul, Int.reduceToNat, Int.reduceLT, Int.reduceLE, iK]
        have hfk := crsK_frz l (t0 l) (L + 1) k
        have c72k := fn72 l (t0 l) (crsK l (L + 1) k) (L + 1) 84 [] [.fp [.fp (cCrs l (t0 l) (crsK l (L + 1) k)) 0] 0, .fp [iv k] 0] (fun i => cvalue l k (t0 l + i)) (by omega) (by omega) (fun i hi => fn84 l (t0 l) (t0 l + i) (crsK l (L + 1) k) k hk4 hg (by omega))
        rw [hc1] at c72k
        rw [viewL_frz 3 _ hfk, viewL_frz 1 _ hfk]
        refine CallC.new _ (fun _ => ⟨trivial, c72k⟩) ?_
        by_cases hPk : okB (fun i => cvalue l k (t0 l + i)) (L + 1) = true
        · unfold fillR
          rw [if_pos hPk]
          simp (maxSteps := 400000) (disch := omega) only [push_cast, ↓reduceIte, reduceCtorEq, Nat.reduceAdd, Nat.reduceSub, Nat.reduceEqDiff, Nat.reduceLeDiff, Nat.reduceLT, Nat.reduceBEq, Nat.reduceDiv, Nat.reduceMod, Nat.reducePow, Nat.reduceMul, Int.reduceToNat, Int.reduceLT, Int.reduceLE, iK]
          have hcl := crsK_len l (L + 1) k
          refine ⟨by omega, by omega, ?_⟩
          rw [show (AV.sl 2 dB cBand (List.map (fun i : Nat => cvalue l k (t0 l + i)) (List.range (L + 1)))) = aB (values l k (L + 1)) from rfl, crsK_set l (t0 l) (L + 1) k hk4]
          refine W_seq ?_
          refine W_regL ?_
          simp (maxSteps := 400000) (disch := omega) only [push_cast, ↓reduceIte, reduceCtorEq, Nat.reduceAdd, Nat.reduceSub, Nat.reduceEqDiff, Nat.reduceLeDiff, Nat.reduceLT, Nat.reduceBEq, Nat.reduceDiv, Nat.reduceMod, Nat.reducePow, Nat.reduceMul, Int.reduceToNat, Int.reduceLT, Int.reduceLE]
          refine W_cond (by rfl) (fun h => by cases h) (fun _ => ?_)
          refine W_skip ?_
          simp (maxSteps := 400000) (disch := omega) only [push_cast, ↓reduceIte, reduceCtorEq, Nat.reduceAdd, Nat.reduceSub, Nat.reduceEqDiff, Nat.reduceLeDiff, Nat.reduceLT, Nat.reduceBEq, Nat.reduceDiv, Nat.reduceMod, Nat.reducePow, Nat.reduceMul, Int.reduceToNat, Int.reduceLT, Int.reduceLE]
          refine W_regL ?_
          simp (maxSteps := 400000) (disch := omega) only [push_cast, ↓reduceIte, reduceCtorEq, Nat.reduceAdd, Nat.reduceSub, Nat.reduceEqDiff, Nat.reduceLeDiff, Nat.reduceLT, Nat.reduceBEq, Nat.reduceDiv, Nat.reduceMod, Nat.reducePow, Nat.reduceMul, Int.reduceToNat, Int.reduceLT, Int.reduceLE]
          refine ⟨k + 1, ⟨by omega, fun j hj => ?_⟩, by omega, le_to [7, 8, 103] [17] 51 (by simp [normOK, okTm, okMem, okBlk, onlyB, has, allLt, crsK_only, lk]) ?_⟩
          · rcases Nat.lt_succ_iff_lt_or_eq.1 hj with hj | rfl
            · exact hokk j hj
            · exact hPk
          · simp (maxSteps := 400000) (disch := omega) only [push_cast, ↓reduceIte, reduceCtorEq, Nat.reduceAdd, Nat.reduceSub, Nat.reduceEqDiff, Nat.reduceLeDiff, Nat.reduceLT, Nat.reduceBEq, Nat.reduceDiv, Nat.reduceMod, Nat.reducePow, Nat.reduceMul, Int.reduceToNat, Int.reduceLT, Int.reduceLE, S.mk.injEq, List.cons.injEq, Prod.mk.injEq, AV.v.injEq, Value.int.injEq, Value.bool.injEq, Blk.cells.injEq]
            all_goals omega
        · unfold fillR
          rw [if_neg hPk]
          simp (maxSteps := 400000) (disch := omega) only [push_cast, ↓reduceIte, reduceCtorEq, Nat.reduceAdd, Nat.reduceSub, Nat.reduceEqDiff, Nat.reduceLeDiff, Nat.reduceLT, Nat.reduceBEq, Nat.reduceDiv, Nat.reduceMod, Nat.reducePow, Nat.reduceMul, Int.reduceToNat, Int.reduceLT, Int.reduceLE, iK]
          have hcl := crsK_len l (L + 1) k
          refine ⟨by omega, by omega, ?_⟩
          refine W_seq ?_
          refine W_regL ?_
          simp (maxSteps := 400000) (disch := omega) only [push_cast, ↓reduceIte, reduceCtorEq, Nat.reduceAdd, Nat.reduceSub, Nat.reduceEqDiff, Nat.reduceLeDiff, Nat.reduceLT, Nat.reduceBEq, Nat.reduceDiv, Nat.reduceMod, Nat.reducePow, Nat.reduceMul, Int.reduceToNat, Int.reduceLT, Int.reduceLE]
          refine W_cond (by rfl) (fun _ => ?_) (fun h => by cases h)
          refine W_seq (W_regL ?_)
          simp (maxSteps := 400000) (disch := omega) only [push_cast, ↓reduceIte, reduceCtorEq, Nat.reduceAdd, Nat.reduceSub, Nat.reduceEqDiff, Nat.reduceLeDiff, Nat.reduceLT, Nat.reduceBEq, Nat.reduceDiv, Nat.reduceMod, Nat.reducePow, Nat.reduceMul, Int.reduceToNat, Int.reduceLT, Int.reduceLE]
          have hc : cchk l = 16 := by
            unfold cchk
            rw [if_neg (by omega), if_neg (by omega), if_neg (by rw [hD]; simp), if_neg (by rw [all_range.2 hR]; simp), if_neg (by omega), hLn, if_neg (by rw [hP]; simp), if_pos (not_all_range hk4 (by simpa using hPk))]
          exact W_ret ⟨[_, _], ⟨rfl, rfl, rfl⟩, by rw [cres_bad hc (by omega)]; rfl⟩
      · have h := of_decide_eq_false h
        refine W_exit ?_
        simp (maxSteps := 400000) (disch := omega) only [push_cast, ↓reduceIte, reduceCtorEq, Nat.reduceAdd, Nat.reduceSub, Nat.reduceEqDiff, Nat.reduceLeDiff, Nat.reduceLT, Nat.reduceBEq, Nat.reduceDiv, Nat.reduceMod, Nat.reducePow, Nat.reduceMul, Int.reduceToNat, Int.reduceLT, Int.reduceLE]
        have e : k = 4 := by omega
        subst e
        exact ⟨hokk, le_to [7, 8] [17] 51 rfl rfl⟩
    refine W_seq (W_regL ?_)
    simp (maxSteps := 400000) (disch := omega) only [push_cast, ↓reduceIte, reduceCtorEq, Nat.reduceAdd, Nat.reduceSub, Nat.reduceEqDiff, Nat.reduceLeDiff, Nat.reduceLT, Nat.reduceBEq, Nat.reduceDiv, Nat.reduceMod, Nat.reducePow, Nat.reduceMul, Int.reduceToNat, Int.reduceLT, Int.reduceLE]
    have hc : cchk l = 0 := by
      unfold cchk
      rw [if_neg (by omega), if_neg (by omega), if_neg (by rw [hD]; simp), if_neg (by rw [all_range.2 hR]; simp), if_neg (by omega), hLn, if_neg (by rw [hP]; simp), if_neg (by rw [all_range.2 hV]; simp)]
    have hX : crsX l = crsK l (L + 1) 4 := by unfold crsX; rw [hLn]; rfl
    refine W_ret ⟨[_, _], ⟨rfl, rfl, rfl⟩, ?_⟩
    unfold cres
    rw [if_pos hc, hX]
    show AV.tup [.fp ((cCrs l (t0 l) (crsK l (L + 1) 4)).map (view _ 3)) 0, iv 0] = _
    rw [viewL_frz 3 _ (crsK_frz l (t0 l) (L + 1) 4)]
  · unfold fillR
    rw [if_neg hP]
    simp (maxSteps := 400000) (disch := omega) only [push_cast, ↓reduceIte, reduceCtorEq, Nat.reduceAdd, Nat.reduceSub, Nat.reduceEqDiff, Nat.reduceLeDiff, Nat.reduceLT, Nat.reduceBEq, Nat.reduceDiv, Nat.reduceMod, Nat.reducePow, Nat.reduceMul, Int.reduceToNat, Int.reduceLT, Int.reduceLE]
    refine ⟨by omega, ?_⟩
    refine W_seq ?_
    refine W_regL ?_
    simp (maxSteps := 400000) (disch := omega) only [push_cast, ↓reduceIte, reduceCtorEq, Nat.reduceAdd, Nat.reduceSub, Nat.reduceEqDiff, Nat.reduceLeDiff, Nat.reduceLT, Nat.reduceBEq, Nat.reduceDiv, Nat.reduceMod, Nat.reducePow, Nat.reduceMul, Int.reduceToNat, Int.reduceLT, Int.reduceLE]
    refine W_cond (by rfl) (fun _ => ?_) (fun h => by cases h)
    refine W_seq (W_regL ?_)
    simp (maxSteps := 400000) (disch := omega) only [push_cast, ↓reduceIte, reduceCtorEq, Nat.reduceAdd, Nat.reduceSub, Nat.reduceEqDiff, Nat.reduceLeDiff, Nat.reduceLT, Nat.reduceBEq, Nat.reduceDiv, Nat.reduceMod, Nat.reducePow, Nat.reduceMul, Int.reduceToNat, Int.reduceLT, Int.reduceLE]
    have hc : cchk l = 16 := by
      unfold cchk
      rw [if_neg (by omega), if_neg (by omega), if_neg (by rw [hD]; simp), if_neg (by rw [all_range.2 hR]; simp), if_neg (by omega), hLn, if_pos (by simpa using hP)]
    exact W_ret ⟨[_, _], ⟨rfl, rfl, rfl⟩, by rw [cres_bad hc (by omega)]; rfl⟩
end Go.Proofs.Ytgijpimjfoabjaa

/- The check of a claim. -/
namespace Go.Proofs.Ytgijpimjfoabjaa
open Go Sy
set_option maxRecDepth 100000
set_option maxHeartbeats 4000000
set_option linter.unusedVariables false
set_option linter.unusedSimpArgs false
structure Clm where
  frm : Int
  to : Int
  kind : Int
  limit : Int
  begn : Int
  en : Int
  amount : Int
def cC (c : Clm) : List AV := [iv c.frm, iv c.to, iv c.kind, iv c.limit, iv c.begn, iv c.en, iv c.amount]
abbrev aC (c : Clm) : AV := .agg (cC c)
theorem nc0 (c : Clm) : nth (cC c) 0 = iv c.frm := rfl
theorem nc1 (c : Clm) : nth (cC c) 1 = iv c.to := rfl
theorem nc2 (c : Clm) : nth (cC c) 2 = iv c.kind := rfl
theorem nc3 (c : Clm) : nth (cC c) 3 = iv c.limit := rfl
theorem nc4 (c : Clm) : nth (cC c) 4 = iv c.begn := rfl
theorem nc5 (c : Clm) : nth (cC c) 5 = iv c.en := rfl
theorem nc6 (c : Clm) : nth (cC c) 6 = iv c.amount := rfl
theorem lc (c : Clm) : (cC c).length = 7 := rfl
theorem tc (c : Clm) : List.take 7 (cC c) = cC c := rfl
theorem frc (c : Clm) : frzAll (cC c) = true := rfl
theorem ic {m : Nat → Option Blk} {n : Nat} (c : Clm) : List.flatMap (ids m n) (cC c) = [] := flat_frz n _ (frc c)
attribute [push_cast] nc0 nc1 nc2 nc3 nc4 nc5 nc6 lc tc frc ic
structure OkC (c : Clm) : Prop where
  ft : c.frm ≤ c.to
  f : -1073741824 ≤ c.frm
  t : c.to ≤ 1073741824
  l : -1073741824 ≤ c.limit ∧ c.limit ≤ 1073741824
  k : 0 ≤ c.kind ∧ c.kind < 4
  be : 0 ≤ c.begn ∧ c.begn ≤ c.en ∧ c.en ≤ 1099511627776
  a : 0 ≤ c.amount ∧ c.amount ≤ 67108864
open Classical in
noncomputable def chkC (c : Clm) : Int := if OkC c then 0 else 2
theorem fn32 (c : Clm) : Sy.Fn Try.prog 32 [aC c] (iv (chkC c)) := by
  refine Fn_of_W mixed Xt32 rfl ?_
  refine W_seq (W_regL ?_)
  simp (maxSteps := 400000) (disch := omega) only [push_cast, ↓reduceIte, reduceCtorEq, Nat.reduceAdd, Nat.reduceSub, Nat.reduceEqDiff, Nat.reduceLeDiff, Nat.reduceLT, Nat.reduceBEq, Nat.reduceDiv, Nat.reduceMod, Nat.reducePow, Nat.reduceMul, Int.reduceToNat, Int.reduceLT, Int.reduceLE]
  refine W_seq (W_regL ?_)
  simp (maxSteps := 400000) (disch := omega) only [push_cast, ↓reduceIte, reduceCtorEq, Nat.reduceAdd, Nat.reduceSub, Nat.reduceEqDiff, Nat.reduceLeDiff, Nat.reduceLT, Nat.reduceBEq, Nat.reduceDiv, Nat.reduceMod, Nat.reducePow, Nat.reduceMul, Int.reduceToNat, Int.reduceLT, Int.reduceLE]
  refine CallC.now (fn61 ⟨c.frm, c.to⟩) ?_
  simp (maxSteps := 400000) (disch := omega) only [push_cast, ↓reduceIte, reduceCtorEq, Nat.reduceAdd, Nat.reduceSub, Nat.reduceEqDiff, Nat.reduceLeDiff, Nat.reduceLT, Nat.reduceBEq, Nat.reduceDiv, Nat.reduceMod, Nat.reducePow, Nat.reduceMul, Int.reduceToNat, Int.reduceLT, Int.reduceLE]
  refine CallC.go _ (fun _ => ⟨trivial, fn49 _ _ _⟩) rfl ?_
  simp (maxSteps := 400000) (disch := omega) only [push_cast, ↓reduceIte, reduceCtorEq, Nat.reduceAdd, Nat.reduceSub, Nat.reduceEqDiff, Nat.reduceLeDiff, Nat.reduceLT, Nat.reduceBEq, Nat.reduceDiv, Nat.reduceMod, Nat.reducePow, Nat.reduceMul, Int.reduceToNat, Int.reduceLT, Int.reduceLE]
  refine W_seq (W_seq ?_)
  refine W_regL ?_
  simp (maxSteps := 400000) (disch := omega) only [push_cast, ↓reduceIte, reduceCtorEq, Nat.reduceAdd, Nat.reduceSub, Nat.reduceEqDiff, Nat.reduceLeDiff, Nat.reduceLT, Nat.reduceBEq, Nat.reduceDiv, Nat.reduceMod, Nat.reducePow, Nat.reduceMul, Int.reduceToNat, Int.reduceLT, Int.reduceLE]
  refine CallC.go _ (fun _ => ⟨trivial, fn49 _ _ _⟩) rfl ?_
  simp (maxSteps := 400000) (disch := omega) only [push_cast, ↓reduceIte, reduceCtorEq, Nat.reduceAdd, Nat.reduceSub, Nat.reduceEqDiff, Nat.reduceLeDiff, Nat.reduceLT, Nat.reduceBEq, Nat.reduceDiv, Nat.reduceMod, Nat.reducePow, Nat.reduceMul, Int.reduceToNat, Int.reduceLT, Int.reduceLE]
  refine CallC.go _ (fun _ => ⟨trivial, fn49 _ _ _⟩) rfl ?_
  simp (maxSteps := 400000) (disch := omega) only [push_cast, ↓reduceIte, reduceCtorEq, Nat.reduceAdd, Nat.reduceSub, Nat.reduceEqDiff, Nat.reduceLeDiff, Nat.reduceLT, Nat.reduceBEq, Nat.reduceDiv, Nat.reduceMod, Nat.reducePow, Nat.reduceMul, Int.reduceToNat, Int.reduceLT, Int.reduceLE]
  refine W_cond (by rfl) (fun h => ?_) (fun h => ?_)
  · refine W_seq (W_regL ?_)
    simp (maxSteps := 400000) (disch := omega) only [push_cast, ↓reduceIte, reduceCtorEq, Nat.reduceAdd, Nat.reduceSub, Nat.reduceEqDiff, Nat.reduceLeDiff, Nat.reduceLT, Nat.reduceBEq, Nat.reduceDiv, Nat.reduceMod, Nat.reducePow, Nat.reduceMul, Int.reduceToNat, Int.reduceLT, Int.reduceLE]
    have hn : ¬ OkC c := fun ho => by
      have := ho.ft; have := ho.f; have := ho.t; have := ho.l; have := ho.k; have := ho.be; have := ho.a
      simp [okBand] at h
      omega
    exact W_ret ⟨[_], ⟨rfl, rfl⟩, by unfold chkC; rw [if_neg hn]; rfl⟩
  · refine W_skip ?_
    simp (maxSteps := 400000) (disch := omega) only [push_cast, ↓reduceIte, reduceCtorEq, Nat.reduceAdd, Nat.reduceSub, Nat.reduceEqDiff, Nat.reduceLeDiff, Nat.reduceLT, Nat.reduceBEq, Nat.reduceDiv, Nat.reduceMod, Nat.reducePow, Nat.reduceMul, Int.reduceToNat, Int.reduceLT, Int.reduceLE]
    refine W_seq (W_regL ?_)
    simp (maxSteps := 400000) (disch := omega) only [push_cast, ↓reduceIte, reduceCtorEq, Nat.reduceAdd, Nat.reduceSub, Nat.reduceEqDiff, Nat.reduceLeDiff, Nat.reduceLT, Nat.reduceBEq, Nat.reduceDiv, Nat.reduceMod, Nat.reducePow, Nat.reduceMul, Int.reduceToNat, Int.reduceLT, Int.reduceLE]
    have hn : OkC c := by
      simp [okBand] at h
      constructor <;> omega
    exact W_ret ⟨[_], ⟨rfl, rfl⟩, by unfold chkC; rw [if_pos hn]; rfl⟩
noncomputable def cabout (l : Log) (c : Clm) : AV := if cchk l = 0 then .tup [.fp (cCrs l (t0 l) (crsX l)) 0, iv (chkC c)] else .tup [.v (.pointer none), iv (cchk l)]
theorem fn43 (l : Log) (c : Clm) (h3 : l.rs.length ≤ 1000000) : Sy.Fn Try.prog 43 [aLog l, aC c] (cabout l c) := by
  refine Fn_of_W mixed Xt43 rfl ?_
  refine W_seq (W_regL ?_)
  simp (maxSteps := 400000) (disch := omega) only [push_cast, ↓reduceIte, reduceCtorEq, Nat.reduceAdd, Nat.reduceSub, Nat.reduceEqDiff, Nat.reduceLeDiff, Nat.reduceLT, Nat.reduceBEq, Nat.reduceDiv, Nat.reduceMod, Nat.reducePow, Nat.reduceMul, Int.reduceToNat, Int.reduceLT, Int.reduceLE]
  refine W_seq ?_
  refine W_regL ?_
  simp (maxSteps := 400000) (disch := omega) only [push_cast, ↓reduceIte, reduceCtorEq, Nat.reduceAdd, Nat.reduceSub, Nat.reduceEqDiff, Nat.reduceLeDiff, Nat.reduceLT, Nat.reduceBEq, Nat.reduceDiv, Nat.reduceMod, Nat.reducePow, Nat.reduceMul, Int.reduceToNat, Int.reduceLT, Int.reduceLE]
  refine CallC.now (fn46 l h3) ?_
  by_cases hc : cchk l = 0
  · unfold cres cabout
    rw [if_pos hc, if_pos hc]
    simp (maxSteps := 400000) (disch := omega) only [push_cast, ↓reduceIte, reduceCtorEq, Nat.reduceAdd, Nat.reduceSub, Nat.reduceEqDiff, Nat.reduceLeDiff, Nat.reduceLT, Nat.reduceBEq, Nat.reduceDiv, Nat.reduceMod, Nat.reducePow, Nat.reduceMul, Int.reduceToNat, Int.reduceLT, Int.reduceLE]
    refine W_seq (W_seq ?_)
    refine W_regL ?_
    simp (maxSteps := 400000) (disch := omega) only [push_cast, ↓reduceIte, reduceCtorEq, Nat.reduceAdd, Nat.reduceSub, Nat.reduceEqDiff, Nat.reduceLeDiff, Nat.reduceLT, Nat.reduceBEq, Nat.reduceDiv, Nat.reduceMod, Nat.reducePow, Nat.reduceMul, Int.reduceToNat, Int.reduceLT, Int.reduceLE]
    refine W_cond (by rfl) (fun h => by cases h) (fun _ => ?_)
    refine W_skip ?_
    simp (maxSteps := 400000) (disch := omega) only [push_cast, ↓reduceIte, reduceCtorEq, Nat.reduceAdd, Nat.reduceSub, Nat.reduceEqDiff, Nat.reduceLeDiff, Nat.reduceLT, Nat.reduceBEq, Nat.reduceDiv, Nat.reduceMod, Nat.reducePow, Nat.reduceMul, Int.reduceToNat, Int.reduceLT, Int.reduceLE]
    refine W_seq (W_regL ?_)
    simp (maxSteps := 400000) (disch := omega) only [push_cast, ↓reduceIte, reduceCtorEq, Nat.reduceAdd, Nat.reduceSub, Nat.reduceEqDiff, Nat.reduceLeDiff, Nat.reduceLT, Nat.reduceBEq, Nat.reduceDiv, Nat.reduceMod, Nat.reducePow, Nat.reduceMul, Int.reduceToNat, Int.reduceLT, Int.reduceLE]
    refine CallC.now (fn32 c) ?_
    simp (maxSteps := 400000) (disch := omega) only [push_cast, ↓reduceIte, reduceCtorEq, Nat.reduceAdd, Nat.reduceSub, Nat.reduceEqDiff, Nat.reduceLeDiff, Nat.reduceLT, Nat.reduceBEq, Nat.reduceDiv, Nat.reduceMod, Nat.reducePow, Nat.reduceMul, Int.reduceToNat, Int.reduceLT, Int.reduceLE]
    exact W_ret ⟨[_, _], ⟨rfl, rfl, rfl⟩, rfl⟩
  · unfold cres cabout
    rw [if_neg hc, if_neg hc]
    simp (maxSteps := 400000) (disch := omega) only [push_cast, ↓reduceIte, reduceCtorEq, Nat.reduceAdd, Nat.reduceSub, Nat.reduceEqDiff, Nat.reduceLeDiff, Nat.reduceLT, Nat.reduceBEq, Nat.reduceDiv, Nat.reduceMod, Nat.reducePow, Nat.reduceMul, Int.reduceToNat, Int.reduceLT, Int.reduceLE]
    refine W_seq (W_seq ?_)
    refine W_regL ?_
    simp (maxSteps := 400000) (disch := omega) only [push_cast, ↓reduceIte, reduceCtorEq, Nat.reduceAdd, Nat.reduceSub, Nat.reduceEqDiff, Nat.reduceLeDiff, Nat.reduceLT, Nat.reduceBEq, Nat.reduceDiv, Nat.reduceMod, Nat.reducePow, Nat.reduceMul, Int.reduceToNat, Int.reduceLT, Int.reduceLE]
    refine W_cond (by rfl) (fun h => ?_) (fun h => ?_)
    · refine W_seq (W_regL ?_)
      simp (maxSteps := 400000) (disch := omega) only [push_cast, ↓reduceIte, reduceCtorEq, Nat.reduceAdd, Nat.reduceSub, Nat.reduceEqDiff, Nat.reduceLeDiff, Nat.reduceLT, Nat.reduceBEq, Nat.reduceDiv, Nat.reduceMod, Nat.reducePow, Nat.reduceMul, Int.reduceToNat, Int.reduceLT, Int.reduceLE]
      exact W_ret ⟨[_, _], ⟨rfl, rfl, rfl⟩, rfl⟩
    · simp at h
      exact absurd h hc
theorem nC6 (l : Log) (st : Int) (a : AV) (X : List AV) : nth (cCrs l st (a :: X)) 6 = a := rfl
theorem fn86 (l : Log) (st : Int) (ps : List Band) (X : List AV) (hp : 1 ≤ ps.length) (hp2 : ps.length ≤ 1000000) : Sy.Fn Try.prog 86 [.fp (cCrs l st (aB ps :: X)) 0] (iv (ps.length - 1)) := by
  refine Fn_of_W mixed Xt86 rfl ?_
  refine W_seq (W_regL ?_)
  simp (maxSteps := 400000) (disch := omega) only [push_cast, ↓reduceIte, reduceCtorEq, Nat.reduceAdd, Nat.reduceSub, Nat.reduceEqDiff, Nat.reduceLeDiff, Nat.reduceLT, Nat.reduceBEq, Nat.reduceDiv, Nat.reduceMod, Nat.reducePow, Nat.reduceMul, Int.reduceToNat, Int.reduceLT, Int.reduceLE]
  refine W_seq (W_regL ?_)
  simp (maxSteps := 400000) (disch := omega) only [push_cast, ↓reduceIte, reduceCtorEq, Nat.reduceAdd, Nat.reduceSub, Nat.reduceEqDiff, Nat.reduceLeDiff, Nat.reduceLT, Nat.reduceBEq, Nat.reduceDiv, Nat.reduceMod, Nat.reducePow, Nat.reduceMul, Int.reduceToNat, Int.reduceLT, Int.reduceLE, nC6, lC, aB]
  exact W_ret ⟨[_], ⟨rfl, rfl⟩, rfl⟩
end Go.Proofs.Ytgijpimjfoabjaa

/- The way past. -/
namespace Go.Proofs.Ytgijpimjfoabjaa
open Go Sy
set_option maxRecDepth 100000
set_option maxHeartbeats 4000000
set_option linter.unusedVariables false
set_option linter.unusedSimpArgs false
attribute [push_cast] nC6 aB
def ahead (ps : List Band) (c : Clm) (ss : List Int) (i : Nat) : Bool := (i : Int) == 0 || decide ((ps.getD (ss.getD (i - 1) 0 + 1).toNat dB).lo < c.frm)
def behind (ps : List Band) (c : Clm) (ss : List Int) (i : Nat) : Bool := (i : Int) == ss.length || decide (c.to < (ps.getD (ss.getD i 0).toNat dB).hi)
def apart (ss : List Int) (i : Nat) : Bool := ((i : Int) == 0 || (i : Int) == ss.length) || decide (ss.getD (i - 1) 0 + 1 < ss.getD i 0)
def okAt (ps : List Band) (c : Clm) (ss : List Int) (i : Nat) : Bool := ahead ps c ss i && behind ps c ss i && apart ss i
def pastF (ps : List Band) (c : Clm) (ss : List Int) : Int := idxF (okAt ps c ss) (List.range (ss.length + 1)) 0
theorem fn58 (l : Log) (st : Int) (ps : List Band) (X : List AV) (c : Clm) (ss : List Int) (hp2 : ps.length ≤ 1000000) (hs : ss.length ≤ 1000000) (hss : ∀ i, i < ss.length → 0 ≤ ss.getD i 0 ∧ ss.getD i 0 + 1 < ps.length) :
    Sy.Fn Try.prog 58 [.fp (cCrs l st (aB ps :: X)) 0, aC c, .sl 1 0 cI ss] (iv (pastF ps c ss)) := by
  refine Fn_of_W mixed Xt58 rfl ?_
  refine W_seq (W_regL ?_)
  simp (maxSteps := 400000) (disch := omega) only [push_cast, ↓reduceIte, reduceCtorEq, Nat.reduceAdd, Nat.reduceSub, Nat.reduceEqDiff, Nat.reduceLeDiff, Nat.reduceLT, Nat.reduceBEq, Nat.reduceDiv, Nat.reduceMod, Nat.reducePow, Nat.reduceMul, Int.reduceToNat, Int.reduceLT, Int.reduceLE]
  refine W_seq (W_seq ?_)
  refine W_regL ?_
  simp (maxSteps := 400000) (disch := omega) only [push_cast, ↓reduceIte, reduceCtorEq, Nat.reduceAdd, Nat.reduceSub, Nat.reduceEqDiff, Nat.reduceLeDiff, Nat.reduceLT, Nat.reduceBEq, Nat.reduceDiv, Nat.reduceMod, Nat.reducePow, Nat.reduceMul, Int.reduceToNat, Int.reduceLT, Int.reduceLE]
  refine W_block ?_
  refine W_loop (fun i : Nat => ⟨[(0, .fp (cCrs l st (aB ps :: X)) 0), (2, .sl 1 0 cI ss), (4, .fp (cC c) 0), (13, iv (ss.length + 1)), (14, iv i)], [], 6⟩) (fun i => i ≤ ss.length + 1 ∧ ∀ j, j < i → okAt ps c ss j = false) (fun i => ss.length + 1 - i) 0 ⟨by omega, fun j hj => by omega⟩ (le_to [0, 2, 4, 13, 14] [] 6 rfl rfl) (fun i hi => ?_)
  obtain ⟨hi, hno⟩ := hi
  refine W_seq ?_
  refine W_regL ?_
  simp (maxSteps := 400000) (disch := omega) only [push_cast, ↓reduceIte, reduceCtorEq, Nat.reduceAdd, Nat.reduceSub, Nat.reduceEqDiff, Nat.reduceLeDiff, Nat.reduceLT, Nat.reduceBEq, Nat.reduceDiv, Nat.reduceMod, Nat.reducePow, Nat.reduceMul, Int.reduceToNat, Int.reduceLT, Int.reduceLE]
  refine W_seq (W_cond (by rfl) (fun h => ?_) (fun h => ?_))
  · have h := of_decide_eq_true h
    have hlt : i < ss.length + 1 := by omega
    have e1 : ((i : Int) - 1).toNat = i - 1 := by omega
    have hall : ∀ j, 0 ≤ ss.getD j 0 ∧ ss.getD j 0 ≤ 1000000 := fun j => by
      by_cases hj : j < ss.length
      · have := hss j hj; omega
      · have e : ss.getD j 0 = 0 := by simp [List.getD, List.getElem?_eq_none (by omega : ss.length ≤ j)]
        omega
    have hb1 := hall (i - 1)
    have hb2 := hall i
    refine W_skip ?_
    simp (maxSteps := 400000) (disch := omega) only [push_cast, ↓reduceIte, reduceCtorEq, Nat.reduceAdd, Nat.reduceSub, Nat.reduceEqDiff, Nat.reduceLeDiff, Nat.reduceLT, Nat.reduceBEq, Nat.reduceDiv, Nat.reduceMod, Nat.reducePow, Nat.reduceMul, Int.reduceToNat, Int.reduceLT, Int.reduceLE]
    refine W_seq (W_block (W_seq ?_))
    refine W_regL ?_
    simp (maxSteps := 400000) (disch := omega) only [push_cast, ↓reduceIte, reduceCtorEq, Nat.reduceAdd, Nat.reduceSub, Nat.reduceEqDiff, Nat.reduceLeDiff, Nat.reduceLT, Nat.reduceBEq, Nat.reduceDiv, Nat.reduceMod, Nat.reducePow, Nat.reduceMul, Int.reduceToNat, Int.reduceLT, Int.reduceLE]
    refine W_seq ?_
    refine W_regL ?_
    simp (maxSteps := 400000) (disch := omega) only [push_cast, ↓reduceIte, reduceCtorEq, Nat.reduceAdd, Nat.reduceSub, Nat.reduceEqDiff, Nat.reduceLeDiff, Nat.reduceLT, Nat.reduceBEq, Nat.reduceDiv, Nat.reduceMod, Nat.reducePow, Nat.reduceMul, Int.reduceToNat, Int.reduceLT, Int.reduceLE, e1]
    have hz : ((i : Int) == 0) = false → i ≠ 0 := fun h => by simpa using h
    have hm : ((i : Int) == ss.length) = false → i ≠ ss.length := fun h => by
      have := (beq_eq_false_iff_ne.1 h); omega
    refine ⟨fun h => by have := hz h; omega, fun h => by have := hz h; have := hss (i - 1) (by omega); omega, ?_⟩
    refine W_seq ?_
    refine W_regL ?_
    simp (maxSteps := 400000) (disch := omega) only [push_cast, ↓reduceIte, reduceCtorEq, Nat.reduceAdd, Nat.reduceSub, Nat.reduceEqDiff, Nat.reduceLeDiff, Nat.reduceLT, Nat.reduceBEq, Nat.reduceDiv, Nat.reduceMod, Nat.reducePow, Nat.reduceMul, Int.reduceToNat, Int.reduceLT, Int.reduceLE, e1]
    refine ⟨fun h => by have := hm h; omega, fun h => by have := hm h; have := hss i (by omega); omega, ?_⟩
    refine W_seq ?_
    refine W_regL ?_
    simp (maxSteps := 400000) (disch := omega) only [push_cast, ↓reduceIte, reduceCtorEq, Nat.reduceAdd, Nat.reduceSub, Nat.reduceEqDiff, Nat.reduceLeDiff, Nat.reduceLT, Nat.reduceBEq, Nat.reduceDiv, Nat.reduceMod, Nat.reducePow, Nat.reduceMul, Int.reduceToNat, Int.reduceLT, Int.reduceLE, e1]
    have hzm : ((i : Int) == 0 || (i : Int) == ss.length) = false → i ≠ 0 ∧ i ≠ ss.length := fun h => by
      rw [Bool.or_eq_false_iff] at h
      exact ⟨hz h.1, hm h.2⟩
    refine ⟨fun h => by have := hzm h; omega, fun h => by have := hzm h; omega, ?_⟩
    refine W_seq ?_
    refine W_regL ?_
    simp (maxSteps := 400000) (disch := omega) only [push_cast, ↓reduceIte, reduceCtorEq, Nat.reduceAdd, Nat.reduceSub, Nat.reduceEqDiff, Nat.reduceLeDiff, Nat.reduceLT, Nat.reduceBEq, Nat.reduceDiv, Nat.reduceMod, Nat.reducePow, Nat.reduceMul, Int.reduceToNat, Int.reduceLT, Int.reduceLE]
    have key : okAt ps c ss i = (((i : Int) == 0 || decide ((ps.getD (ss.getD (i - 1) 0 + 1).toNat dB).lo < c.frm)) && ((i : Int) == ss.length || decide (c.to < (ps.getD (ss.getD i 0).toNat dB).hi)) && ((i : Int) == 0 || (i : Int) == ss.length || decide (ss.getD (i - 1) 0 + 1 < ss.getD i 0))) := rfl
    have hidx : ∀ (n i : Nat), i < n → (List.range n).getD i 0 = i := fun n i h => by simp [List.getD, h]
    refine W_cond (by rfl) (fun hb => ?_) (fun hb => ?_)
    · refine W_seq (W_regL ?_)
      simp (maxSteps := 400000) (disch := omega) only [push_cast, ↓reduceIte, reduceCtorEq, Nat.reduceAdd, Nat.reduceSub, Nat.reduceEqDiff, Nat.reduceLeDiff, Nat.reduceLT, Nat.reduceBEq, Nat.reduceDiv, Nat.reduceMod, Nat.reducePow, Nat.reduceMul, Int.reduceToNat, Int.reduceLT, Int.reduceLE]
      have hp : pastF ps c ss = i := by
        unfold pastF
        rw [idxF_at (okAt ps c ss) 0 (List.range (ss.length + 1)) i 0 (by simp; omega) (fun j hj => by rw [hidx _ _ (by omega)]; exact hno j hj) (by rw [hidx _ _ hlt, key]; exact hb)]
        omega
      exact W_ret ⟨[_], ⟨rfl, rfl⟩, by rw [hp]; rfl⟩
    refine W_skip ?_
    simp (maxSteps := 400000) (disch := omega) only [push_cast, ↓reduceIte, reduceCtorEq, Nat.reduceAdd, Nat.reduceSub, Nat.reduceEqDiff, Nat.reduceLeDiff, Nat.reduceLT, Nat.reduceBEq, Nat.reduceDiv, Nat.reduceMod, Nat.reducePow, Nat.reduceMul, Int.reduceToNat, Int.reduceLT, Int.reduceLE]
    refine W_regL ?_
    simp (maxSteps := 400000) (disch := omega) only [push_cast, ↓reduceIte, reduceCtorEq, Nat.reduceAdd, Nat.reduceSub, Nat.reduceEqDiff, Nat.reduceLeDiff, Nat.reduceLT, Nat.reduceBEq, Nat.reduceDiv, Nat.reduceMod, Nat.reducePow, Nat.reduceMul, Int.reduceToNat, Int.reduceLT, Int.reduceLE]
    refine ⟨i + 1, ⟨by omega, fun j hj => ?_⟩, by omega, le_to [0, 2, 4, 13, 14] [] 6 rfl ?_⟩
    · rcases Nat.lt_succ_iff_lt_or_eq.1 hj with hj | rfl
      · exact hno j hj
      · rw [key]; exact hb
    · simp (maxSteps := 400000) (disch := omega) only [push_cast, ↓reduceIte, reduceCtorEq, Nat.reduceAdd, Nat.reduceSub, Nat.reduceEqDiff, Nat.reduceLeDiff, Nat.reduceLT, Nat.reduceBEq, Nat.reduceDiv, Nat.reduceMod, Nat.reducePow, Nat.reduceMul, Int.reduceToNat, Int.reduceLT, Int.reduceLE, S.mk.injEq, List.cons.injEq, Prod.mk.injEq, AV.v.injEq, Value.int.injEq, Value.bool.injEq, Blk.cells.injEq]
      all_goals omega
  · have h := of_decide_eq_false h
    refine W_exit ?_
    simp (maxSteps := 400000) (disch := omega) only [push_cast, ↓reduceIte, reduceCtorEq, Nat.reduceAdd, Nat.reduceSub, Nat.reduceEqDiff, Nat.reduceLeDiff, Nat.reduceLT, Nat.reduceBEq, Nat.reduceDiv, Nat.reduceMod, Nat.reducePow, Nat.reduceMul, Int.reduceToNat, Int.reduceLT, Int.reduceLE]
    refine W_seq (W_regL ?_)
    simp (maxSteps := 400000) (disch := omega) only [push_cast, ↓reduceIte, reduceCtorEq, Nat.reduceAdd, Nat.reduceSub, Nat.reduceEqDiff, Nat.reduceLeDiff, Nat.reduceLT, Nat.reduceBEq, Nat.reduceDiv, Nat.reduceMod, Nat.reducePow, Nat.reduceMul, Int.reduceToNat, Int.reduceLT, Int.reduceLE]
    have hp : pastF ps c ss = -1 := by
      unfold pastF
      refine idxF_none (okAt ps c ss) 0 _ 0 (fun j hj => ?_)
      have hj' : j < ss.length + 1 := by simpa using hj
      rw [show (List.range (ss.length + 1)).getD j 0 = j by simp [List.getD, hj']]
      exact hno j (by omega)
    exact W_ret ⟨[_], ⟨rfl, rfl⟩, by rw [hp]; rfl⟩
end Go.Proofs.Ytgijpimjfoabjaa

/- Loops over the steps within a claim. -/
namespace Go.Proofs.Ytgijpimjfoabjaa
open Go Sy
set_option maxRecDepth 100000
set_option maxHeartbeats 4000000
set_option linter.unusedVariables false
set_option linter.unusedSimpArgs false
attribute [push_cast] nC6 aB
theorem fn77 (l : Log) (st : Int) (X : List AV) (c : Clm) (hX : frzAll (cCrs l st X) = true) : Sy.Fn Try.prog 77 [.fp (cCrs l st X) 0, aC c] (.clo 85 [] [.fp [.fp (cCrs l st X) 0] 0, .fp (cC c) 0]) := by
  refine Fn_of_W mixed Xt77 rfl ?_
  repeat' (first | refine WK_go ?_ | refine W_seqL ?_ | refine W_seq ?_ | (refine W_regL ?_; simp (maxSteps := 400000) (disch := omega) only [push_cast, ↓reduceIte, reduceCtorEq, Nat.reduceAdd, Nat.reduceSub, Nat.reduceEqDiff, Nat.reduceLeDiff, Nat.reduceLT, Nat.reduceBEq, Nat.reduceDiv, Nat.reduceMod, Nat.reducePow, Nat.reduceMul, Int.reduceToNat, Int.reduceLT, Int.reduceLE]) | refine W_block ?_ | (refine W_skip ?_; simp (maxSteps := 400000) (disch := omega) only [push_cast, ↓reduceIte, reduceCtorEq, Nat.reduceAdd, Nat.reduceSub, Nat.reduceEqDiff, Nat.reduceLeDiff, Nat.reduceLT, Nat.reduceBEq, Nat.reduceDiv, Nat.reduceMod, Nat.reducePow, Nat.reduceMul, Int.reduceToNat, Int.reduceLT, Int.reduceLE]) | (refine W_exit ?_; simp (maxSteps := 400000) (disch := omega) only [push_cast, ↓reduceIte, reduceCtorEq, Nat.reduceAdd, Nat.reduceSub, Nat.reduceEqDiff, Nat.reduceLeDiff, Nat.reduceLT, Nat.reduceBEq, Nat.reduceDiv, Nat.reduceMod, Nat.reducePow, Nat.reduceMul, Int.reduceToNat, Int.reduceLT, Int.reduceLE]) | refine And.intro (by omega) ?_ | refine And.intro (by intro hq; (try simp only [Bool.and_eq_true, Bool.or_eq_true, Bool.and_eq_false_iff, Bool.or_eq_false_iff, decide_eq_true_eq, decide_eq_false_iff_not, Bool.not_eq_true', Bool.not_eq_false', beq_iff_eq, beq_eq_false_iff_ne, ne_eq] at hq); omega) ?_ | fail)
  exact W_ret ⟨[_], ⟨rfl, rfl⟩, rfl⟩
/-- a course: places, and the spans of the four values -/
def cCo (l : Log) (st : Int) (ps : List Band) (v : Nat → List Band) : List AV := cCrs l st [aB ps, aB (v 0), aB (v 1), aB (v 2), aB (v 3)]
theorem nCo0 (l : Log) (st : Int) (ps : List Band) (v : Nat → List Band) : nth (cCo l st ps v) 5 = iv st := rfl
theorem nCo6 (l : Log) (st : Int) (ps : List Band) (v : Nat → List Band) : nth (cCo l st ps v) 6 = aB ps := rfl
theorem nCov (l : Log) (st : Int) (ps : List Band) (v : Nat → List Band) (k : Nat) (h : k < 4) : nth (cCo l st ps v) (7 + k * 1) = aB (v k) := by
  rcases k with _ | _ | _ | _ | k <;> first | rfl | omega
theorem lCo (l : Log) (st : Int) (ps : List Band) (v : Nat → List Band) : (cCo l st ps v).length = 11 := rfl
theorem frCo (l : Log) (st : Int) (ps : List Band) (v : Nat → List Band) : frzAll (cCo l st ps v) = true := rfl
theorem iCo {m : Nat → Option Blk} {n : Nat} (l : Log) (st : Int) (ps : List Band) (v : Nat → List Band) : List.flatMap (ids m n) (cCo l st ps v) = [] := flat_frz n _ (frCo l st ps v)
attribute [push_cast] nCo0 nCo6 nCov lCo frCo iCo
theorem c77 (l : Log) (st : Int) (ps : List Band) (v : Nat → List Band) (c : Clm) : Sy.Fn Try.prog 77 [.fp (cCo l st ps v) 0, aC c] (.clo 85 [] [.fp [.fp (cCo l st ps v) 0] 0, .fp (cC c) 0]) := fn77 l st _ c rfl
theorem c86 (l : Log) (st : Int) (ps : List Band) (v : Nat → List Band) (hp : 1 ≤ ps.length) (hp2 : ps.length ≤ 1000000) : Sy.Fn Try.prog 86 [.fp (cCo l st ps v) 0] (iv (ps.length - 1)) := fn86 l st ps _ hp hp2
def inC (st : Int) (c : Clm) (k : Nat) : Bool := decide (c.begn ≤ st + k) && decide (st + k + 1 ≤ c.en)
def mustB (st : Int) (c : Clm) (v : List Band) (k : Nat) : Bool := inC st c k && decide (c.limit < max (v.getD k dB).lo (v.getD (k + 1) dB).lo)
def mustL (st : Int) (c : Clm) (v : List Band) (n : Nat) : List Int := ((List.range n).filter (mustB st c v)).map Int.ofNat
theorem mustL_succ (st : Int) (c : Clm) (v : List Band) (n : Nat) : mustL st c v (n + 1) = mustL st c v n ++ (if mustB st c v n then [(n : Int)] else []) := by
  unfold mustL
  rw [List.range_succ, List.filter_append, List.map_append]
  congr 1
  by_cases h : mustB st c v n = true <;> simp [h]
theorem mustL_len (st : Int) (c : Clm) (v : List Band) (n : Nat) : (mustL st c v n).length ≤ n := by
  unfold mustL
  rw [List.length_map]
  exact Nat.le_trans (List.length_filter_le _ _) (by simp)
theorem fn56 (l : Log) (st : Int) (ps : List Band) (v : Nat → List Band) (c : Clm) (kd : Nat) (hk : c.kind = kd) (hk4 : kd < 4) (hp : 1 ≤ ps.length) (hp2 : ps.length ≤ 1000000) (hv : ∀ k, k < 4 → (v k).length = ps.length) (hst : 0 ≤ st ∧ st ≤ 1099511627776) :
    FnN Try.prog 56 [.fp (cCo l st ps v) 0, aC c] (.sl 1 0 cI (mustL st c (v kd) (ps.length - 1))) := by
  refine FnN_of_W mixed Xt56 rfl ?_
  repeat' (first | refine WK_go ?_ | refine W_seqL ?_ | refine W_seq ?_ | (refine W_regL ?_; simp (maxSteps := 400000) (disch := omega) only [push_cast, ↓reduceIte, reduceCtorEq, Nat.reduceAdd, Nat.reduceSub, Nat.reduceEqDiff, Nat.reduceLeDiff, Nat.reduceLT, Nat.reduceBEq, Nat.reduceDiv, Nat.reduceMod, Nat.reducePow, Nat.reduceMul, Int.reduceToNat, Int.reduceLT, Int.reduceLE, hk]) | refine W_block ?_ | (refine W_skip ?_; simp (maxSteps := 400000) (disch := omega) only [push_cast, ↓reduceIte, reduceCtorEq, Nat.reduceAdd, Nat.reduceSub, Nat.reduceEqDiff, Nat.reduceLeDiff, Nat.reduceLT, Nat.reduceBEq, Nat.reduceDiv, Nat.reduceMod, Nat.reducePow, Nat.reduceMul, Int.reduceToNat, Int.reduceLT, Int.reduceLE, hk]) | (refine W_exit ?_; simp (maxSteps := 400000) (disch := omega) only [push_cast, ↓reduceIte, reduceCtorEq, Nat.reduceAdd, Nat.reduceSub, Nat.reduceEqDiff, Nat.reduceLeDiff, Nat.reduceLT, Nat.reduceBEq, Nat.reduceDiv, Nat.reduceMod, Nat.reducePow, Nat.reduceMul, Int.reduceToNat, Int.reduceLT, Int.reduceLE, hk]) | refine And.intro (by omega) ?_ | refine And.intro (by intro hq; (try simp only [Bool.and_eq_true, Bool.or_eq_true, Bool.and_eq_false_iff, Bool.or_eq_false_iff, decide_eq_true_eq, decide_eq_false_iff_not, Bool.not_eq_true', Bool.not_eq_false', beq_iff_eq, beq_eq_false_iff_ne, ne_eq] at hq); omega) ?_ | (refine CallC.now (c77 _ _ _ _ _) ?_; simp (maxSteps := 400000) (disch := omega) only [push_cast, ↓reduceIte, reduceCtorEq, Nat.reduceAdd, Nat.reduceSub, Nat.reduceEqDiff, Nat.reduceLeDiff, Nat.reduceLT, Nat.reduceBEq, Nat.reduceDiv, Nat.reduceMod, Nat.reducePow, Nat.reduceMul, Int.reduceToNat, Int.reduceLT, Int.reduceLE, hk]) | fail)
  refine W_rfn (.inl rfl) (fun lp R hR => Inl_of_W mixed Xt85 rfl (fun vs => ?_))
  simp (maxSteps := 400000) (disch := omega) only [push_cast, ↓reduceIte, reduceCtorEq, Nat.reduceAdd, Nat.reduceSub, Nat.reduceEqDiff, Nat.reduceLeDiff, Nat.reduceLT, Nat.reduceBEq, Nat.reduceDiv, Nat.reduceMod, Nat.reducePow, Nat.reduceMul, Int.reduceToNat, Int.reduceLT, Int.reduceLE]
  repeat' (first | refine WK_go ?_ | refine W_seqL ?_ | refine W_seq ?_ | (refine W_regL ?_; simp (maxSteps := 400000) (disch := omega) only [push_cast, ↓reduceIte, reduceCtorEq, Nat.reduceAdd, Nat.reduceSub, Nat.reduceEqDiff, Nat.reduceLeDiff, Nat.reduceLT, Nat.reduceBEq, Nat.reduceDiv, Nat.reduceMod, Nat.reducePow, Nat.reduceMul, Int.reduceToNat, Int.reduceLT, Int.reduceLE]) | refine W_block ?_ | (refine W_skip ?_; simp (maxSteps := 400000) (disch := omega) only [push_cast, ↓reduceIte, reduceCtorEq, Nat.reduceAdd, Nat.reduceSub, Nat.reduceEqDiff, Nat.reduceLeDiff, Nat.reduceLT, Nat.reduceBEq, Nat.reduceDiv, Nat.reduceMod, Nat.reducePow, Nat.reduceMul, Int.reduceToNat, Int.reduceLT, Int.reduceLE]) | (refine W_exit ?_; simp (maxSteps := 400000) (disch := omega) only [push_cast, ↓reduceIte, reduceCtorEq, Nat.reduceAdd, Nat.reduceSub, Nat.reduceEqDiff, Nat.reduceLeDiff, Nat.reduceLT, Nat.reduceBEq, Nat.reduceDiv, Nat.reduceMod, Nat.reducePow, Nat.reduceMul, Int.reduceToNat, Int.reduceLT, Int.reduceLE]) | refine And.intro (by omega) ?_ | refine And.intro (by intro hq; (try simp only [Bool.and_eq_true, Bool.or_eq_true, Bool.and_eq_false_iff, Bool.or_eq_false_iff, decide_eq_true_eq, decide_eq_false_iff_not, Bool.not_eq_true', Bool.not_eq_false', beq_iff_eq, beq_eq_false_iff_ne, ne_eq] at hq); omega) ?_ | (refine CallC.now (c86 _ _ _ _ hp hp2) ?_; simp (maxSteps := 400000) (disch := omega) only [push_cast, ↓reduceIte, reduceCtorEq, Nat.reduceAdd, Nat.reduceSub, Nat.reduceEqDiff, Nat.reduceLeDiff, Nat.reduceLT, Nat.reduceBEq, Nat.reduceDiv, Nat.reduceMod, Nat.reducePow, Nat.reduceMul, Int.reduceToNat, Int.reduceLT, Int.reduceLE]) | fail)
  refine W_le (le_adoptC 2 0 3 1 (0 : Int) cI (by omega) _ rfl rfl (by simp)) ?_
  simp (maxSteps := 400000) (disch := omega) only [push_cast, ↓reduceIte, reduceCtorEq, Nat.reduceAdd, Nat.reduceSub, Nat.reduceEqDiff, Nat.reduceLeDiff, Nat.reduceLT, Nat.reduceBEq, Nat.reduceDiv, Nat.reduceMod, Nat.reducePow, Nat.reduceMul, Int.reduceToNat, Int.reduceLT, Int.reduceLE]
  refine W_loopU (fun i : Nat => [(8, iv i)]) (fun i => [(2, .cells [.row 20 (mustL st c (v kd) i).length]), (20, .row (mustL st c (v kd) i).length 3 1 0 cI (mustL st c (v kd) i))]) (fun i => i ≤ ps.length - 1) (fun i => ps.length - 1 - i) 0 (by omega) (by rfl) (by rfl) (fun i hi => ?_)
  simp (maxSteps := 400000) (disch := omega) only [push_cast, ↓reduceIte, reduceCtorEq, Nat.reduceAdd, Nat.reduceSub, Nat.reduceEqDiff, Nat.reduceLeDiff, Nat.reduceLT, Nat.reduceBEq, Nat.reduceDiv, Nat.reduceMod, Nat.reducePow, Nat.reduceMul, Int.reduceToNat, Int.reduceLT, Int.reduceLE]
  repeat' (first | refine WK_go ?_ | refine W_seqL ?_ | refine W_seq ?_ | (refine W_regL ?_; simp (maxSteps := 400000) (disch := omega) only [push_cast, ↓reduceIte, reduceCtorEq, Nat.reduceAdd, Nat.reduceSub, Nat.reduceEqDiff, Nat.reduceLeDiff, Nat.reduceLT, Nat.reduceBEq, Nat.reduceDiv, Nat.reduceMod, Nat.reducePow, Nat.reduceMul, Int.reduceToNat, Int.reduceLT, Int.reduceLE]) | refine W_block ?_ | (refine W_skip ?_; simp (maxSteps := 400000) (disch := omega) only [push_cast, ↓reduceIte, reduceCtorEq, Nat.reduceAdd, Nat.reduceSub, Nat.reduceEqDiff, Nat.reduceLeDiff, Nat.reduceLT, Nat.reduceBEq, Nat.reduceDiv, Nat.reduceMod, Nat.reducePow, Nat.reduceMul, Int.reduceToNat, Int.reduceLT, Int.reduceLE]) | (refine W_exit ?_; simp (maxSteps := 400000) (disch := omega) only [push_cast, ↓reduceIte, reduceCtorEq, Nat.reduceAdd, Nat.reduceSub, Nat.reduceEqDiff, Nat.reduceLeDiff, Nat.reduceLT, Nat.reduceBEq, Nat.reduceDiv, Nat.reduceMod, Nat.reducePow, Nat.reduceMul, Int.reduceToNat, Int.reduceLT, Int.reduceLE]) | refine And.intro (by omega) ?_ | refine And.intro (by intro hq; (try simp only [Bool.and_eq_true, Bool.or_eq_true, Bool.and_eq_false_iff, Bool.or_eq_false_iff, decide_eq_true_eq, decide_eq_false_iff_not, Bool.not_eq_true', Bool.not_eq_false', beq_iff_eq, beq_eq_false_iff_ne, ne_eq] at hq); omega) ?_ | fail)
  refine W_condD (by rfl) (fun h => ?_) (fun h => ?_)
  · have hlt : i < ps.length - 1 := by omega
    repeat' (first | refine WK_go ?_ | refine W_seqL ?_ | refine W_seq ?_ | (refine W_regL ?_; simp (maxSteps := 400000) (disch := omega) only [push_cast, ↓reduceIte, reduceCtorEq, Nat.reduceAdd, Nat.reduceSub, Nat.reduceEqDiff, Nat.reduceLeDiff, Nat.reduceLT, Nat.reduceBEq, Nat.reduceDiv, Nat.reduceMod, Nat.reducePow, Nat.reduceMul, Int.reduceToNat, Int.reduceLT, Int.reduceLE, nCo0]) | refine W_block ?_ | (refine W_skip ?_; simp (maxSteps := 400000) (disch := omega) only [push_cast, ↓reduceIte, reduceCtorEq, Nat.reduceAdd, Nat.reduceSub, Nat.reduceEqDiff, Nat.reduceLeDiff, Nat.reduceLT, Nat.reduceBEq, Nat.reduceDiv, Nat.reduceMod, Nat.reducePow, Nat.reduceMul, Int.reduceToNat, Int.reduceLT, Int.reduceLE, nCo0]) | (refine W_exit ?_; simp (maxSteps := 400000) (disch := omega) only [push_cast, ↓reduceIte, reduceCtorEq, Nat.reduceAdd, Nat.reduceSub, Nat.reduceEqDiff, Nat.reduceLeDiff, Nat.reduceLT, Nat.reduceBEq, Nat.reduceDiv, Nat.reduceMod, Nat.reducePow, Nat.reduceMul, Int.reduceToNat, Int.reduceLT, Int.reduceLE, nCo0]) | refine And.intro (by omega) ?_ | refine And.intro (by intro hq; (try simp only [Bool.and_eq_true, Bool.or_eq_true, Bool.and_eq_false_iff, Bool.or_eq_false_iff, decide_eq_true_eq, decide_eq_false_iff_not, Bool.not_eq_true', Bool.not_eq_false', beq_iff_eq, beq_eq_false_iff_ne, ne_eq] at hq); omega) ?_ | fail)
    refine StopC.yld (fun hpc => ⟨trivial, Yl_of_W (k := 15) mixed hR rfl rfl rfl (fun vs2 => ?_)⟩) (fun hpc => ?_)
    · have hin : inC st c i = true := by unfold inC; simpa [pc] using hpc
      have hvl := hv kd hk4
      simp (maxSteps := 400000) (disch := omega) only [push_cast, ↓reduceIte, reduceCtorEq, Nat.reduceAdd, Nat.reduceSub, Nat.reduceEqDiff, Nat.reduceLeDiff, Nat.reduceLT, Nat.reduceBEq, Nat.reduceDiv, Nat.reduceMod, Nat.reducePow, Nat.reduceMul, Int.reduceToNat, Int.reduceLT, Int.reduceLE]
      repeat' (first | refine WK_go ?_ | refine W_seqL ?_ | refine W_seq ?_ | (refine W_regL ?_; simp (maxSteps := 400000) (disch := omega) only [push_cast, ↓reduceIte, reduceCtorEq, Nat.reduceAdd, Nat.reduceSub, Nat.reduceEqDiff, Nat.reduceLeDiff, Nat.reduceLT, Nat.reduceBEq, Nat.reduceDiv, Nat.reduceMod, Nat.reducePow, Nat.reduceMul, Int.reduceToNat, Int.reduceLT, Int.reduceLE]) | refine W_block ?_ | (refine W_skip ?_; simp (maxSteps := 400000) (disch := omega) only [push_cast, ↓reduceIte, reduceCtorEq, Nat.reduceAdd, Nat.reduceSub, Nat.reduceEqDiff, Nat.reduceLeDiff, Nat.reduceLT, Nat.reduceBEq, Nat.reduceDiv, Nat.reduceMod, Nat.reducePow, Nat.reduceMul, Int.reduceToNat, Int.reduceLT, Int.reduceLE]) | (refine W_exit ?_; simp (maxSteps := 400000) (disch := omega) only [push_cast, ↓reduceIte, reduceCtorEq, Nat.reduceAdd, Nat.reduceSub, Nat.reduceEqDiff, Nat.reduceLeDiff, Nat.reduceLT, Nat.reduceBEq, Nat.reduceDiv, Nat.reduceMod, Nat.reducePow, Nat.reduceMul, Int.reduceToNat, Int.reduceLT, Int.reduceLE]) | refine And.intro (by omega) ?_ | refine And.intro (by intro hq; (try simp only [Bool.and_eq_true, Bool.or_eq_true, Bool.and_eq_false_iff, Bool.or_eq_false_iff, decide_eq_true_eq, decide_eq_false_iff_not, Bool.not_eq_true', Bool.not_eq_false', beq_iff_eq, beq_eq_false_iff_ne, ne_eq] at hq); omega) ?_ | fail)
      refine ⟨_, rfl, ?_⟩
      simp (maxSteps := 400000) (disch := omega) only [push_cast, ↓reduceIte, reduceCtorEq, Nat.reduceAdd, Nat.reduceSub, Nat.reduceEqDiff, Nat.reduceLeDiff, Nat.reduceLT, Nat.reduceBEq, Nat.reduceDiv, Nat.reduceMod, Nat.reducePow, Nat.reduceMul, Int.reduceToNat, Int.reduceLT, Int.reduceLE]
      repeat' (first | refine WK_go ?_ | refine W_seqL ?_ | refine W_seq ?_ | (refine W_regL ?_; simp (maxSteps := 400000) (disch := omega) only [push_cast, ↓reduceIte, reduceCtorEq, Nat.reduceAdd, Nat.reduceSub, Nat.reduceEqDiff, Nat.reduceLeDiff, Nat.reduceLT, Nat.reduceBEq, Nat.reduceDiv, Nat.reduceMod, Nat.reducePow, Nat.reduceMul, Int.reduceToNat, Int.reduceLT, Int.reduceLE]) | refine W_block ?_ | (refine W_skip ?_; simp (maxSteps := 400000) (disch := omega) only [push_cast, ↓reduceIte, reduceCtorEq, Nat.reduceAdd, Nat.reduceSub, Nat.reduceEqDiff, Nat.reduceLeDiff, Nat.reduceLT, Nat.reduceBEq, Nat.reduceDiv, Nat.reduceMod, Nat.reducePow, Nat.reduceMul, Int.reduceToNat, Int.reduceLT, Int.reduceLE]) | (refine W_exit ?_; simp (maxSteps := 400000) (disch := omega) only [push_cast, ↓reduceIte, reduceCtorEq, Nat.reduceAdd, Nat.reduceSub, Nat.reduceEqDiff, Nat.reduceLeDiff, Nat.reduceLT, Nat.reduceBEq, Nat.reduceDiv, Nat.reduceMod, Nat.reducePow, Nat.reduceMul, Int.reduceToNat, Int.reduceLT, Int.reduceLE]) | refine And.intro (by omega) ?_ | refine And.intro (by intro hq; (try simp only [Bool.and_eq_true, Bool.or_eq_true, Bool.and_eq_false_iff, Bool.or_eq_false_iff, decide_eq_true_eq, decide_eq_false_iff_not, Bool.not_eq_true', Bool.not_eq_false', beq_iff_eq, beq_eq_false_iff_ne, ne_eq] at hq); omega) ?_ | fail)
      have e1 : ((i : Int) + 1).toNat = i + 1 := by omega
      rw [e1]
      have hlen : (mustL st c (v kd) i).length ≤ i := mustL_len st c (v kd) i
      refine W_condD (by rfl) (fun hm => ?_) (fun hm => ?_)
      · have hmu : mustB st c (v kd) i = true := by unfold mustB; rw [hin]; simpa using hm
        repeat' (first | refine WK_go ?_ | refine W_seqL ?_ | refine W_seq ?_ | (refine W_regL ?_; simp (maxSteps := 400000) (disch := omega) only [push_cast, ↓reduceIte, reduceCtorEq, Nat.reduceAdd, Nat.reduceSub, Nat.reduceEqDiff, Nat.reduceLeDiff, Nat.reduceLT, Nat.reduceBEq, Nat.reduceDiv, Nat.reduceMod, Nat.reducePow, Nat.reduceMul, Int.reduceToNat, Int.reduceLT, Int.reduceLE]) | refine W_block ?_ | (refine W_skip ?_; simp (maxSteps := 400000) (disch := omega) only [push_cast, ↓reduceIte, reduceCtorEq, Nat.reduceAdd, Nat.reduceSub, Nat.reduceEqDiff, Nat.reduceLeDiff, Nat.reduceLT, Nat.reduceBEq, Nat.reduceDiv, Nat.reduceMod, Nat.reducePow, Nat.reduceMul, Int.reduceToNat, Int.reduceLT, Int.reduceLE]) | (refine W_exit ?_; simp (maxSteps := 400000) (disch := omega) only [push_cast, ↓reduceIte, reduceCtorEq, Nat.reduceAdd, Nat.reduceSub, Nat.reduceEqDiff, Nat.reduceLeDiff, Nat.reduceLT, Nat.reduceBEq, Nat.reduceDiv, Nat.reduceMod, Nat.reducePow, Nat.reduceMul, Int.reduceToNat, Int.reduceLT, Int.reduceLE]) | refine And.intro (by omega) ?_ | refine And.intro (by intro hq; (try simp only [Bool.and_eq_true, Bool.or_eq_true, Bool.and_eq_false_iff, Bool.or_eq_false_iff, decide_eq_true_eq, decide_eq_false_iff_not, Bool.not_eq_true', Bool.not_eq_false', beq_iff_eq, beq_eq_false_iff_ne, ne_eq] at hq); omega) ?_ | fail)
        refine ⟨rfl, trivial, Int, 0, cI, [(i : Int)], rfl, by omega, fun x _ => ⟨rfl, rfl⟩, rfl, ?_⟩
        simp (maxSteps := 400000) (disch := omega) only [push_cast, ↓reduceIte, reduceCtorEq, Nat.reduceAdd, Nat.reduceSub, Nat.reduceEqDiff, Nat.reduceLeDiff, Nat.reduceLT, Nat.reduceBEq, Nat.reduceDiv, Nat.reduceMod, Nat.reducePow, Nat.reduceMul, Int.reduceToNat, Int.reduceLT, Int.reduceLE]
        refine ⟨rfl, ⟨Nat.le_of_ble_eq_true rfl, rfl⟩, trivial, [(i : Int)], rfl, by first | omega | (simp; omega), by first | omega | (simp; omega), ?_⟩
        simp (maxSteps := 400000) (disch := omega) only [push_cast, ↓reduceIte, reduceCtorEq, Nat.reduceAdd, Nat.reduceSub, Nat.reduceEqDiff, Nat.reduceLeDiff, Nat.reduceLT, Nat.reduceBEq, Nat.reduceDiv, Nat.reduceMod, Nat.reducePow, Nat.reduceMul, Int.reduceToNat, Int.reduceLT, Int.reduceLE]
        refine ⟨_, _, rfl, rfl, ?_⟩
        simp (maxSteps := 400000) (disch := omega) only [push_cast, ↓reduceIte, reduceCtorEq, Nat.reduceAdd, Nat.reduceSub, Nat.reduceEqDiff, Nat.reduceLeDiff, Nat.reduceLT, Nat.reduceBEq, Nat.reduceDiv, Nat.reduceMod, Nat.reducePow, Nat.reduceMul, Int.reduceToNat, Int.reduceLT, Int.reduceLE]
        refine W_cond (by rfl) (fun h1 => by cases h1) (fun _ => ?_)
        repeat' (first | refine WK_go ?_ | refine W_seqL ?_ | refine W_seq ?_ | (refine W_regL ?_; simp (maxSteps := 400000) (disch := omega) only [push_cast, ↓reduceIte, reduceCtorEq, Nat.reduceAdd, Nat.reduceSub, Nat.reduceEqDiff, Nat.reduceLeDiff, Nat.reduceLT, Nat.reduceBEq, Nat.reduceDiv, Nat.reduceMod, Nat.reducePow, Nat.reduceMul, Int.reduceToNat, Int.reduceLT, Int.reduceLE]) | refine W_block ?_ | (refine W_skip ?_; simp (maxSteps := 400000) (disch := omega) only [push_cast, ↓reduceIte, reduceCtorEq, Nat.reduceAdd, Nat.reduceSub, Nat.reduceEqDiff, Nat.reduceLeDiff, Nat.reduceLT, Nat.reduceBEq, Nat.reduceDiv, Nat.reduceMod, Nat.reducePow, Nat.reduceMul, Int.reduceToNat, Int.reduceLT, Int.reduceLE]) | (refine W_exit ?_; simp (maxSteps := 400000) (disch := omega) only [push_cast, ↓reduceIte, reduceCtorEq, Nat.reduceAdd, Nat.reduceSub, Nat.reduceEqDiff, Nat.reduceLeDiff, Nat.reduceLT, Nat.reduceBEq, Nat.reduceDiv, Nat.reduceMod, Nat.reducePow, Nat.reduceMul, Int.reduceToNat, Int.reduceLT, Int.reduceLE]) | refine And.intro (by omega) ?_ | refine And.intro (by intro hq; (try simp only [Bool.and_eq_true, Bool.or_eq_true, Bool.and_eq_false_iff, Bool.or_eq_false_iff, decide_eq_true_eq, decide_eq_false_iff_not, Bool.not_eq_true', Bool.not_eq_false', beq_iff_eq, beq_eq_false_iff_ne, ne_eq] at hq); omega) ?_ | fail)
        refine ⟨i + 1, by omega, by omega, by rfl, ?_⟩
        rw [mustL_succ, hmu, if_pos rfl, List.length_append]
        simp (maxSteps := 400000) (disch := omega) only [push_cast, ↓reduceIte, reduceCtorEq, Nat.reduceAdd, Nat.reduceSub, Nat.reduceEqDiff, Nat.reduceLeDiff, Nat.reduceLT, Nat.reduceBEq, Nat.reduceDiv, Nat.reduceMod, Nat.reducePow, Nat.reduceMul, Int.reduceToNat, Int.reduceLT, Int.reduceLE, S.mk.injEq, List.cons.injEq, Prod.mk.injEq, AV.v.injEq, Value.int.injEq, Value.bool.injEq, Blk.cells.injEq]
      · have hmu : mustB st c (v kd) i = false := by unfold mustB; rw [hin]; simpa using hm
        repeat' (first | refine WK_go ?_ | refine W_seqL ?_ | refine W_seq ?_ | (refine W_regL ?_; simp (maxSteps := 400000) (disch := omega) only [push_cast, ↓reduceIte, reduceCtorEq, Nat.reduceAdd, Nat.reduceSub, Nat.reduceEqDiff, Nat.reduceLeDiff, Nat.reduceLT, Nat.reduceBEq, Nat.reduceDiv, Nat.reduceMod, Nat.reducePow, Nat.reduceMul, Int.reduceToNat, Int.reduceLT, Int.reduceLE]) | refine W_block ?_ | (refine W_skip ?_; simp (maxSteps := 400000) (disch := omega) only [push_cast, ↓reduceIte, reduceCtorEq, Nat.reduceAdd, Nat.reduceSub, Nat.reduceEqDiff, Nat.reduceLeDiff, Nat.reduceLT, Nat.reduceBEq, Nat.reduceDiv, Nat.reduceMod, Nat.reducePow, Nat.reduceMul, Int.reduceToNat, Int.reduceLT, Int.reduceLE]) | (refine W_exit ?_; simp (maxSteps := 400000) (disch := omega) only [push_cast, ↓reduceIte, reduceCtorEq, Nat.reduceAdd, Nat.reduceSub, Nat.reduceEqDiff, Nat.reduceLeDiff, Nat.reduceLT, Nat.reduceBEq, Nat.reduceDiv, Nat.reduceMod, Nat.reducePow, Nat.reduceMul, Int.reduceToNat, Int.reduceLT, Int.reduceLE]) | refine And.intro (by omega) ?_ | refine And.intro (by intro hq; (try simp only [Bool.and_eq_true, Bool.or_eq_true, Bool.and_eq_false_iff, Bool.or_eq_false_iff, decide_eq_true_eq, decide_eq_false_iff_not, Bool.not_eq_true', Bool.not_eq_false', beq_iff_eq, beq_eq_false_iff_ne, ne_eq] at hq); omega) ?_ | fail)
        refine ⟨_, _, rfl, rfl, ?_⟩
        simp (maxSteps := 400000) (disch := omega) only [push_cast, ↓reduceIte, reduceCtorEq, Nat.reduceAdd, Nat.reduceSub, Nat.reduceEqDiff, Nat.reduceLeDiff, Nat.reduceLT, Nat.reduceBEq, Nat.reduceDiv, Nat.reduceMod, Nat.reducePow, Nat.reduceMul, Int.reduceToNat, Int.reduceLT, Int.reduceLE]
        refine W_cond (by rfl) (fun h1 => by cases h1) (fun _ => ?_)
        repeat' (first | refine WK_go ?_ | refine W_seqL ?_ | refine W_seq ?_ | (refine W_regL ?_; simp (maxSteps := 400000) (disch := omega) only [push_cast, ↓reduceIte, reduceCtorEq, Nat.reduceAdd, Nat.reduceSub, Nat.reduceEqDiff, Nat.reduceLeDiff, Nat.reduceLT, Nat.reduceBEq, Nat.reduceDiv, Nat.reduceMod, Nat.reducePow, Nat.reduceMul, Int.reduceToNat, Int.reduceLT, Int.reduceLE]) | refine W_block ?_ | (refine W_skip ?_; simp (maxSteps := 400000) (disch := omega) only [push_cast, ↓reduceIte, reduceCtorEq, Nat.reduceAdd, Nat.reduceSub, Nat.reduceEqDiff, Nat.reduceLeDiff, Nat.reduceLT, Nat.reduceBEq, Nat.reduceDiv, Nat.reduceMod, Nat.reducePow, Nat.reduceMul, Int.reduceToNat, Int.reduceLT, Int.reduceLE]) | (refine W_exit ?_; simp (maxSteps := 400000) (disch := omega) only [push_cast, ↓reduceIte, reduceCtorEq, Nat.reduceAdd, Nat.reduceSub, Nat.reduceEqDiff, Nat.reduceLeDiff, Nat.reduceLT, Nat.reduceBEq, Nat.reduceDiv, Nat.reduceMod, Nat.reducePow, Nat.reduceMul, Int.reduceToNat, Int.reduceLT, Int.reduceLE]) | refine And.intro (by omega) ?_ | refine And.intro (by intro hq; (try simp only [Bool.and_eq_true, Bool.or_eq_true, Bool.and_eq_false_iff, Bool.or_eq_false_iff, decide_eq_true_eq, decide_eq_false_iff_not, Bool.not_eq_true', Bool.not_eq_false', beq_iff_eq, beq_eq_false_iff_ne, ne_eq] at hq); omega) ?_ | fail)
        refine ⟨i + 1, by omega, by omega, by rfl, ?_⟩
        rw [mustL_succ, hmu]
        simp (maxSteps := 400000) (disch := omega) only [push_cast, ↓reduceIte, reduceCtorEq, Nat.reduceAdd, Nat.reduceSub, Nat.reduceEqDiff, Nat.reduceLeDiff, Nat.reduceLT, Nat.reduceBEq, Nat.reduceDiv, Nat.reduceMod, Nat.reducePow, Nat.reduceMul, Int.reduceToNat, Int.reduceLT, Int.reduceLE, S.mk.injEq, List.cons.injEq, Prod.mk.injEq, AV.v.injEq, Value.int.injEq, Value.bool.injEq, Blk.cells.injEq]
    · have hin : inC st c i = false := by unfold inC; simpa [pc] using hpc
      have hmu : mustB st c (v kd) i = false := by unfold mustB; rw [hin]; rfl
      simp (maxSteps := 400000) (disch := omega) only [push_cast, ↓reduceIte, reduceCtorEq, Nat.reduceAdd, Nat.reduceSub, Nat.reduceEqDiff, Nat.reduceLeDiff, Nat.reduceLT, Nat.reduceBEq, Nat.reduceDiv, Nat.reduceMod, Nat.reducePow, Nat.reduceMul, Int.reduceToNat, Int.reduceLT, Int.reduceLE]
      refine W_cond (by rfl) (fun h1 => ?_) (fun _ => ?_)
      · unfold inC at hin; rw [hin] at h1; cases h1
      repeat' (first | refine WK_go ?_ | refine W_seqL ?_ | refine W_seq ?_ | (refine W_regL ?_; simp (maxSteps := 400000) (disch := omega) only [push_cast, ↓reduceIte, reduceCtorEq, Nat.reduceAdd, Nat.reduceSub, Nat.reduceEqDiff, Nat.reduceLeDiff, Nat.reduceLT, Nat.reduceBEq, Nat.reduceDiv, Nat.reduceMod, Nat.reducePow, Nat.reduceMul, Int.reduceToNat, Int.reduceLT, Int.reduceLE]) | refine W_block ?_ | (refine W_skip ?_; simp (maxSteps := 400000) (disch := omega) only [push_cast, ↓reduceIte, reduceCtorEq, Nat.reduceAdd, Nat.reduceSub, Nat.reduceEqDiff, Nat.reduceLeDiff, Nat.reduceLT, Nat.reduceBEq, Nat.reduceDiv, Nat.reduceMod, Nat.reducePow, Nat.reduceMul, Int.reduceToNat, Int.reduceLT, Int.reduceLE]) | (refine W_exit ?_; simp (maxSteps := 400000) (disch := omega) only [push_cast, ↓reduceIte, reduceCtorEq, Nat.reduceAdd, Nat.reduceSub, Nat.reduceEqDiff, Nat.reduceLeDiff, Nat.reduceLT, Nat.reduceBEq, Nat.reduceDiv, Nat.reduceMod, Nat.reducePow, Nat.reduceMul, Int.reduceToNat, Int.reduceLT, Int.reduceLE]) | refine And.intro (by omega) ?_ | refine And.intro (by intro hq; (try simp only [Bool.and_eq_true, Bool.or_eq_true, Bool.and_eq_false_iff, Bool.or_eq_false_iff, decide_eq_true_eq, decide_eq_false_iff_not, Bool.not_eq_true', Bool.not_eq_false', beq_iff_eq, beq_eq_false_iff_ne, ne_eq] at hq); omega) ?_ | fail)
      refine ⟨i + 1, by omega, by omega, by rfl, ?_⟩
      rw [mustL_succ, hmu]
      simp (maxSteps := 400000) (disch := omega) only [push_cast, ↓reduceIte, reduceCtorEq, Nat.reduceAdd, Nat.reduceSub, Nat.reduceEqDiff, Nat.reduceLeDiff, Nat.reduceLT, Nat.reduceBEq, Nat.reduceDiv, Nat.reduceMod, Nat.reducePow, Nat.reduceMul, Int.reduceToNat, Int.reduceLT, Int.reduceLE, S.mk.injEq, List.cons.injEq, Prod.mk.injEq, AV.v.injEq, Value.int.injEq, Value.bool.injEq, Blk.cells.injEq]
  · have e : i = ps.length - 1 := by omega
    repeat' (first | refine WK_go ?_ | refine W_seqL ?_ | refine W_seq ?_ | (refine W_regL ?_; simp (maxSteps := 400000) (disch := omega) only [push_cast, ↓reduceIte, reduceCtorEq, Nat.reduceAdd, Nat.reduceSub, Nat.reduceEqDiff, Nat.reduceLeDiff, Nat.reduceLT, Nat.reduceBEq, Nat.reduceDiv, Nat.reduceMod, Nat.reducePow, Nat.reduceMul, Int.reduceToNat, Int.reduceLT, Int.reduceLE]) | refine W_block ?_ | (refine W_skip ?_; simp (maxSteps := 400000) (disch := omega) only [push_cast, ↓reduceIte, reduceCtorEq, Nat.reduceAdd, Nat.reduceSub, Nat.reduceEqDiff, Nat.reduceLeDiff, Nat.reduceLT, Nat.reduceBEq, Nat.reduceDiv, Nat.reduceMod, Nat.reducePow, Nat.reduceMul, Int.reduceToNat, Int.reduceLT, Int.reduceLE]) | (refine W_exit ?_; simp (maxSteps := 400000) (disch := omega) only [push_cast, ↓reduceIte, reduceCtorEq, Nat.reduceAdd, Nat.reduceSub, Nat.reduceEqDiff, Nat.reduceLeDiff, Nat.reduceLT, Nat.reduceBEq, Nat.reduceDiv, Nat.reduceMod, Nat.reducePow, Nat.reduceMul, Int.reduceToNat, Int.reduceLT, Int.reduceLE]) | refine And.intro (by omega) ?_ | refine And.intro (by intro hq; (try simp only [Bool.and_eq_true, Bool.or_eq_true, Bool.and_eq_false_iff, Bool.or_eq_false_iff, decide_eq_true_eq, decide_eq_false_iff_not, Bool.not_eq_true', Bool.not_eq_false', beq_iff_eq, beq_eq_false_iff_ne, ne_eq] at hq); omega) ?_ | fail)
    refine ⟨_, _, rfl, rfl, ⟨_, _, rfl, by rw [hR.st]; simp, ?_⟩⟩
    rw [hR.pe]
    simp (maxSteps := 400000) (disch := omega) only [push_cast, ↓reduceIte, reduceCtorEq, Nat.reduceAdd, Nat.reduceSub, Nat.reduceEqDiff, Nat.reduceLeDiff, Nat.reduceLT, Nat.reduceBEq, Nat.reduceDiv, Nat.reduceMod, Nat.reducePow, Nat.reduceMul, Int.reduceToNat, Int.reduceLT, Int.reduceLE, EndP]
    repeat' (first | refine WK_go ?_ | refine W_seqL ?_ | refine W_seq ?_ | (refine W_regL ?_; simp (maxSteps := 400000) (disch := omega) only [push_cast, ↓reduceIte, reduceCtorEq, Nat.reduceAdd, Nat.reduceSub, Nat.reduceEqDiff, Nat.reduceLeDiff, Nat.reduceLT, Nat.reduceBEq, Nat.reduceDiv, Nat.reduceMod, Nat.reducePow, Nat.reduceMul, Int.reduceToNat, Int.reduceLT, Int.reduceLE]) | refine W_block ?_ | (refine W_skip ?_; simp (maxSteps := 400000) (disch := omega) only [push_cast, ↓reduceIte, reduceCtorEq, Nat.reduceAdd, Nat.reduceSub, Nat.reduceEqDiff, Nat.reduceLeDiff, Nat.reduceLT, Nat.reduceBEq, Nat.reduceDiv, Nat.reduceMod, Nat.reducePow, Nat.reduceMul, Int.reduceToNat, Int.reduceLT, Int.reduceLE]) | (refine W_exit ?_; simp (maxSteps := 400000) (disch := omega) only [push_cast, ↓reduceIte, reduceCtorEq, Nat.reduceAdd, Nat.reduceSub, Nat.reduceEqDiff, Nat.reduceLeDiff, Nat.reduceLT, Nat.reduceBEq, Nat.reduceDiv, Nat.reduceMod, Nat.reducePow, Nat.reduceMul, Int.reduceToNat, Int.reduceLT, Int.reduceLE]) | refine And.intro (by omega) ?_ | refine And.intro (by intro hq; (try simp only [Bool.and_eq_true, Bool.or_eq_true, Bool.and_eq_false_iff, Bool.or_eq_false_iff, decide_eq_true_eq, decide_eq_false_iff_not, Bool.not_eq_true', Bool.not_eq_false', beq_iff_eq, beq_eq_false_iff_ne, ne_eq] at hq); omega) ?_ | fail)
    rw [e]
    refine W_ret ⟨[_], ⟨rfl, rfl⟩, ?_, fun x _ => rfl, trivial⟩
    simp (maxSteps := 400000) (disch := omega) only [push_cast, ↓reduceIte, reduceCtorEq, Nat.reduceAdd, Nat.reduceSub, Nat.reduceEqDiff, Nat.reduceLeDiff, Nat.reduceLT, Nat.reduceBEq, Nat.reduceDiv, Nat.reduceMod, Nat.reducePow, Nat.reduceMul, Int.reduceToNat, Int.reduceLT, Int.reduceLE, pack]
end Go.Proofs.Ytgijpimjfoabjaa

/- The first step in which a damage is possible; a damage. -/
namespace Go.Proofs.Ytgijpimjfoabjaa
open Go Sy
set_option maxRecDepth 100000
set_option maxHeartbeats 4000000
set_option linter.unusedVariables false
set_option linter.unusedSimpArgs false

def canB (st : Int) (c : Clm) (ps v : List Band) (k : Nat) : Bool := inC st c k && (decide (c.limit < max (v.getD k dB).hi (v.getD (k + 1) dB).hi) && decide ((ps.getD k dB).lo ≤ c.to) && decide (c.frm ≤ (ps.getD (k + 1) dB).hi))
def canF (st : Int) (c : Clm) (ps v : List Band) : Int := idxF (canB st c ps v) (List.range (ps.length - 1)) 0
theorem range_getD (n i : Nat) (h : i < n) : (List.range n).getD i 0 = i := by simp [List.getD, h]
theorem idxF_range {p : Nat → Bool} {n i : Nat} (hi : i < n) (h : ∀ j, j < i → p j = false) (hp : p i = true) : idxF p (List.range n) 0 = i := by
  rw [idxF_at p 0 (List.range n) i 0 (by simpa using hi) (fun j hj => by rw [range_getD _ _ (by omega)]; exact h j hj) (by rw [range_getD _ _ hi]; exact hp)]
  omega
theorem idxF_range_no {p : Nat → Bool} {n : Nat} (h : ∀ j, j < n → p j = false) : idxF p (List.range n) 0 = -1 :=
  idxF_none p 0 _ 0 (fun j hj => by rw [range_getD _ _ (by simpa using hj)]; exact h j (by simpa using hj))
theorem fn65 (l : Log) (st : Int) (ps : List Band) (v : Nat → List Band) (c : Clm) (kd : Nat) (hk : c.kind = kd) (hk4 : kd < 4) (hp : 1 ≤ ps.length) (hp2 : ps.length ≤ 1000000) (hv : ∀ k, k < 4 → (v k).length = ps.length) (hst : 0 ≤ st ∧ st ≤ 1099511627776) :
    Sy.Fn Try.prog 65 [.fp (cCo l st ps v) 0, aC c] (iv (canF st c ps (v kd))) := by
  refine Fn_of_W mixed Xt65 rfl ?_
  repeat' (first | refine WK_go ?_ | refine W_seqL ?_ | refine W_seq ?_ | (refine W_regL ?_; simp (maxSteps := 400000) (disch := omega) only [push_cast, ↓reduceIte, reduceCtorEq, Nat.reduceAdd, Nat.reduceSub, Nat.reduceEqDiff, Nat.reduceLeDiff, Nat.reduceLT, Nat.reduceBEq, Nat.reduceDiv, Nat.reduceMod, Nat.reducePow, Nat.reduceMul, Int.reduceToNat, Int.reduceLT, Int.reduceLE, hk]) | refine W_block ?_ | (refine W_skip ?_; simp (maxSteps := 400000) (disch := omega) only [push_cast, ↓reduceIte, reduceCtorEq, Nat.reduceAdd, Nat.reduceSub, Nat.reduceEqDiff, Nat.reduceLeDiff, Nat.reduceLT, Nat.reduceBEq, Nat.reduceDiv, Nat.reduceMod, Nat.reducePow, Nat.reduceMul, Int.reduceToNat, Int.reduceLT, Int.reduceLE, hk]) | (refine W_exit ?_; simp (maxSteps := 400000) (disch := omega) only [push_cast, ↓reduceIte, reduceCtorEq, Nat.reduceAdd, Nat.reduceSub, Nat.reduceEqDiff, Nat.reduceLeDiff, Nat.reduceLT, Nat.reduceBEq, Nat.reduceDiv, Nat.reduceMod, Nat.reducePow, Nat.reduceMul, Int.reduceToNat, Int.reduceLT, Int.reduceLE, hk]) | refine And.intro (by omega) ?_ | refine And.intro (by intro hq; (try simp only [Bool.and_eq_true, Bool.or_eq_true, Bool.and_eq_false_iff, Bool.or_eq_false_iff, decide_eq_true_eq, decide_eq_false_iff_not, Bool.not_eq_true', Bool.not_eq_false', beq_iff_eq, beq_eq_false_iff_ne, ne_eq] at hq); omega) ?_ | (refine CallC.now (c77 _ _ _ _ _) ?_; simp (maxSteps := 400000) (disch := omega) only [push_cast, ↓reduceIte, reduceCtorEq, Nat.reduceAdd, Nat.reduceSub, Nat.reduceEqDiff, Nat.reduceLeDiff, Nat.reduceLT, Nat.reduceBEq, Nat.reduceDiv, Nat.reduceMod, Nat.reducePow, Nat.reduceMul, Int.reduceToNat, Int.reduceLT, Int.reduceLE, hk]) | fail)
  refine W_rfn (.inl rfl) (fun lp R hR => Inl_of_W mixed Xt85 rfl (fun vs => ?_))
  simp (maxSteps := 400000) (disch := omega) only [push_cast, ↓reduceIte, reduceCtorEq, Nat.reduceAdd, Nat.reduceSub, Nat.reduceEqDiff, Nat.reduceLeDiff, Nat.reduceLT, Nat.reduceBEq, Nat.reduceDiv, Nat.reduceMod, Nat.reducePow, Nat.reduceMul, Int.reduceToNat, Int.reduceLT, Int.reduceLE]
  repeat' (first | refine WK_go ?_ | refine W_seqL ?_ | refine W_seq ?_ | (refine W_regL ?_; simp (maxSteps := 400000) (disch := omega) only [push_cast, ↓reduceIte, reduceCtorEq, Nat.reduceAdd, Nat.reduceSub, Nat.reduceEqDiff, Nat.reduceLeDiff, Nat.reduceLT, Nat.reduceBEq, Nat.reduceDiv, Nat.reduceMod, Nat.reducePow, Nat.reduceMul, Int.reduceToNat, Int.reduceLT, Int.reduceLE]) | refine W_block ?_ | (refine W_skip ?_; simp (maxSteps := 400000) (disch := omega) only [push_cast, ↓reduceIte, reduceCtorEq, Nat.reduceAdd, Nat.reduceSub, Nat.reduceEqDiff, Nat.reduceLeDiff, Nat.reduceLT, Nat.reduceBEq, Nat.reduceDiv, Nat.reduceMod, Nat.reducePow, Nat.reduceMul, Int.reduceToNat, Int.reduceLT, Int.reduceLE]) | (refine W_exit ?_; simp (maxSteps := 400000) (disch := omega) only [push_cast, ↓reduceIte, reduceCtorEq, Nat.reduceAdd, Nat.reduceSub, Nat.reduceEqDiff, Nat.reduceLeDiff, Nat.reduceLT, Nat.reduceBEq, Nat.reduceDiv, Nat.reduceMod, Nat.reducePow, Nat.reduceMul, Int.reduceToNat, Int.reduceLT, Int.reduceLE]) | refine And.intro (by omega) ?_ | refine And.intro (by intro hq; (try simp only [Bool.and_eq_true, Bool.or_eq_true, Bool.and_eq_false_iff, Bool.or_eq_false_iff, decide_eq_true_eq, decide_eq_false_iff_not, Bool.not_eq_true', Bool.not_eq_false', beq_iff_eq, beq_eq_false_iff_ne, ne_eq] at hq); omega) ?_ | (refine CallC.now (c86 _ _ _ _ hp hp2) ?_; simp (maxSteps := 400000) (disch := omega) only [push_cast, ↓reduceIte, reduceCtorEq, Nat.reduceAdd, Nat.reduceSub, Nat.reduceEqDiff, Nat.reduceLeDiff, Nat.reduceLT, Nat.reduceBEq, Nat.reduceDiv, Nat.reduceMod, Nat.reducePow, Nat.reduceMul, Int.reduceToNat, Int.reduceLT, Int.reduceLE]) | fail)
  refine W_loopU (fun i : Nat => [(8, iv i)]) (fun i => []) (fun i => i ≤ ps.length - 1 ∧ ∀ j, j < i → canB st c ps (v kd) j = false) (fun i => ps.length - 1 - i) 0 ⟨by omega, fun j hj => by omega⟩ (by rfl) (by rfl) (fun i hi => ?_)
  obtain ⟨hi, hno⟩ := hi
  simp (maxSteps := 400000) (disch := omega) only [push_cast, ↓reduceIte, reduceCtorEq, Nat.reduceAdd, Nat.reduceSub, Nat.reduceEqDiff, Nat.reduceLeDiff, Nat.reduceLT, Nat.reduceBEq, Nat.reduceDiv, Nat.reduceMod, Nat.reducePow, Nat.reduceMul, Int.reduceToNat, Int.reduceLT, Int.reduceLE]
  repeat' (first | refine WK_go ?_ | refine W_seqL ?_ | refine W_seq ?_ | (refine W_regL ?_; simp (maxSteps := 400000) (disch := omega) only [push_cast, ↓reduceIte, reduceCtorEq, Nat.reduceAdd, Nat.reduceSub, Nat.reduceEqDiff, Nat.reduceLeDiff, Nat.reduceLT, Nat.reduceBEq, Nat.reduceDiv, Nat.reduceMod, Nat.reducePow, Nat.reduceMul, Int.reduceToNat, Int.reduceLT, Int.reduceLE]) | refine W_block ?_ | (refine W_skip ?_; simp (maxSteps := 400000) (disch := omega) only [push_cast, ↓reduceIte, reduceCtorEq, Nat.reduceAdd, Nat.reduceSub, Nat.reduceEqDiff, Nat.reduceLeDiff, Nat.reduceLT, Nat.reduceBEq, Nat.reduceDiv, Nat.reduceMod, Nat.reducePow, Nat.reduceMul, Int.reduceToNat, Int.reduceLT, Int.reduceLE]) | (refine W_exit ?_; simp (maxSteps := 400000) (disch := omega) only [push_cast, ↓reduceIte, reduceCtorEq, Nat.reduceAdd, Nat.reduceSub, Nat.reduceEqDiff, Nat.reduceLeDiff, Nat.reduceLT, Nat.reduceBEq, Nat.reduceDiv, Nat.reduceMod, Nat.reducePow, Nat.reduceMul, Int.reduceToNat, Int.reduceLT, Int.reduceLE]) | refine And.intro (by omega) ?_ | refine And.intro (by intro hq; (try simp only [Bool.and_eq_true, Bool.or_eq_true, Bool.and_eq_false_iff, Bool.or_eq_false_iff, decide_eq_true_eq, decide_eq_false_iff_not, Bool.not_eq_true', Bool.not_eq_false', beq_iff_eq, beq_eq_false_iff_ne, ne_eq] at hq); omega) ?_ | fail)
  refine W_condD (by rfl) (fun h => ?_) (fun h => ?_)
  · have hlt : i < ps.length - 1 := by omega
    repeat' (first | refine WK_go ?_ | refine W_seqL ?_ | refine W_seq ?_ | (refine W_regL ?_; simp (maxSteps := 400000) (disch := omega) only [push_cast, ↓reduceIte, reduceCtorEq, Nat.reduceAdd, Nat.reduceSub, Nat.reduceEqDiff, Nat.reduceLeDiff, Nat.reduceLT, Nat.reduceBEq, Nat.reduceDiv, Nat.reduceMod, Nat.reducePow, Nat.reduceMul, Int.reduceToNat, Int.reduceLT, Int.reduceLE, nCo0]) | refine W_block ?_ | (refine W_skip ?_; simp (maxSteps := 400000) (disch := omega) only [push_cast, ↓reduceIte, reduceCtorEq, Nat.reduceAdd, Nat.reduceSub, Nat.reduceEqDiff, Nat.reduceLeDiff, Nat.reduceLT, Nat.reduceBEq, Nat.reduceDiv, Nat.reduceMod, Nat.reducePow, Nat.reduceMul, Int.reduceToNat, Int.reduceLT, Int.reduceLE, nCo0]) | (refine W_exit ?_; simp (maxSteps := 400000) (disch := omega) only [push_cast, ↓reduceIte, reduceCtorEq, Nat.reduceAdd, Nat.reduceSub, Nat.reduceEqDiff, Nat.reduceLeDiff, Nat.reduceLT, Nat.reduceBEq, Nat.reduceDiv, Nat.reduceMod, Nat.reducePow, Nat.reduceMul, Int.reduceToNat, Int.reduceLT, Int.reduceLE, nCo0]) | refine And.intro (by omega) ?_ | refine And.intro (by intro hq; (try simp only [Bool.and_eq_true, Bool.or_eq_true, Bool.and_eq_false_iff, Bool.or_eq_false_iff, decide_eq_true_eq, decide_eq_false_iff_not, Bool.not_eq_true', Bool.not_eq_false', beq_iff_eq, beq_eq_false_iff_ne, ne_eq] at hq); omega) ?_ | fail)
    have e1 : ((i : Int) + 1).toNat = i + 1 := by omega
    have hvl := hv kd hk4
    refine StopC.yld (fun hpc => ⟨trivial, Yl_of_W (k := 15) mixed hR rfl rfl rfl (fun vs2 => ?_)⟩) (fun hpc => ?_)
    · have hin : inC st c i = true := by unfold inC; simpa [pc] using hpc
      simp (maxSteps := 400000) (disch := omega) only [push_cast, ↓reduceIte, reduceCtorEq, Nat.reduceAdd, Nat.reduceSub, Nat.reduceEqDiff, Nat.reduceLeDiff, Nat.reduceLT, Nat.reduceBEq, Nat.reduceDiv, Nat.reduceMod, Nat.reducePow, Nat.reduceMul, Int.reduceToNat, Int.reduceLT, Int.reduceLE]
      repeat' (first | refine WK_go ?_ | refine W_seqL ?_ | refine W_seq ?_ | (refine W_regL ?_; simp (maxSteps := 400000) (disch := omega) only [push_cast, ↓reduceIte, reduceCtorEq, Nat.reduceAdd, Nat.reduceSub, Nat.reduceEqDiff, Nat.reduceLeDiff, Nat.reduceLT, Nat.reduceBEq, Nat.reduceDiv, Nat.reduceMod, Nat.reducePow, Nat.reduceMul, Int.reduceToNat, Int.reduceLT, Int.reduceLE]) | refine W_block ?_ | (refine W_skip ?_; simp (maxSteps := 400000) (disch := omega) only [push_cast, ↓reduceIte, reduceCtorEq, Nat.reduceAdd, Nat.reduceSub, Nat.reduceEqDiff, Nat.reduceLeDiff, Nat.reduceLT, Nat.reduceBEq, Nat.reduceDiv, Nat.reduceMod, Nat.reducePow, Nat.reduceMul, Int.reduceToNat, Int.reduceLT, Int.reduceLE]) | (refine W_exit ?_; simp (maxSteps := 400000) (disch := omega) only [push_cast, ↓reduceIte, reduceCtorEq, Nat.reduceAdd, Nat.reduceSub, Nat.reduceEqDiff, Nat.reduceLeDiff, Nat.reduceLT, Nat.reduceBEq, Nat.reduceDiv, Nat.reduceMod, Nat.reducePow, Nat.reduceMul, Int.reduceToNat, Int.reduceLT, Int.reduceLE]) | refine And.intro (by omega) ?_ | refine And.intro (by intro hq; (try simp only [Bool.and_eq_true, Bool.or_eq_true, Bool.and_eq_false_iff, Bool.or_eq_false_iff, decide_eq_true_eq, decide_eq_false_iff_not, Bool.not_eq_true', Bool.not_eq_false', beq_iff_eq, beq_eq_false_iff_ne, ne_eq] at hq); omega) ?_ | fail)
      refine ⟨_, rfl, ?_⟩
      simp (maxSteps := 400000) (disch := omega) only [push_cast, ↓reduceIte, reduceCtorEq, Nat.reduceAdd, Nat.reduceSub, Nat.reduceEqDiff, Nat.reduceLeDiff, Nat.reduceLT, Nat.reduceBEq, Nat.reduceDiv, Nat.reduceMod, Nat.reducePow, Nat.reduceMul, Int.reduceToNat, Int.reduceLT, Int.reduceLE]
      repeat' (first | refine WK_go ?_ | refine W_seqL ?_ | refine W_seq ?_ | (refine W_regL ?_; simp (maxSteps := 400000) (disch := omega) only [push_cast, ↓reduceIte, reduceCtorEq, Nat.reduceAdd, Nat.reduceSub, Nat.reduceEqDiff, Nat.reduceLeDiff, Nat.reduceLT, Nat.reduceBEq, Nat.reduceDiv, Nat.reduceMod, Nat.reducePow, Nat.reduceMul, Int.reduceToNat, Int.reduceLT, Int.reduceLE, e1]) | refine W_block ?_ | (refine W_skip ?_; simp (maxSteps := 400000) (disch := omega) only [push_cast, ↓reduceIte, reduceCtorEq, Nat.reduceAdd, Nat.reduceSub, Nat.reduceEqDiff, Nat.reduceLeDiff, Nat.reduceLT, Nat.reduceBEq, Nat.reduceDiv, Nat.reduceMod, Nat.reducePow, Nat.reduceMul, Int.reduceToNat, Int.reduceLT, Int.reduceLE, e1]) | (refine W_exit ?_; simp (maxSteps := 400000) (disch := omega) only [push_cast, ↓reduceIte, reduceCtorEq, Nat.reduceAdd, Nat.reduceSub, Nat.reduceEqDiff, Nat.reduceLeDiff, Nat.reduceLT, Nat.reduceBEq, Nat.reduceDiv, Nat.reduceMod, Nat.reducePow, Nat.reduceMul, Int.reduceToNat, Int.reduceLT, Int.reduceLE, e1]) | refine And.intro (by omega) ?_ | refine And.intro (by intro hq; (try simp only [Bool.and_eq_true, Bool.or_eq_true, Bool.and_eq_false_iff, Bool.or_eq_false_iff, decide_eq_true_eq, decide_eq_false_iff_not, Bool.not_eq_true', Bool.not_eq_false', beq_iff_eq, beq_eq_false_iff_ne, ne_eq] at hq); omega) ?_ | (refine And.intro (fun _ => by omega) ?_) | fail)
      have hcan : canB st c ps (v kd) i = (decide (c.limit < max ((v kd).getD i dB).hi ((v kd).getD (i + 1) dB).hi) && decide ((ps.getD i dB).lo ≤ c.to) && decide (c.frm ≤ (ps.getD (i + 1) dB).hi)) := by unfold canB; rw [hin, Bool.true_and]
      refine W_cond (by rfl) (fun hm => ?_) (fun hm => ?_)
      · rw [← hcan] at hm
        repeat' (first | refine WK_go ?_ | refine W_seqL ?_ | refine W_seq ?_ | (refine W_regL ?_; simp (maxSteps := 400000) (disch := omega) only [push_cast, ↓reduceIte, reduceCtorEq, Nat.reduceAdd, Nat.reduceSub, Nat.reduceEqDiff, Nat.reduceLeDiff, Nat.reduceLT, Nat.reduceBEq, Nat.reduceDiv, Nat.reduceMod, Nat.reducePow, Nat.reduceMul, Int.reduceToNat, Int.reduceLT, Int.reduceLE]) | refine W_block ?_ | (refine W_skip ?_; simp (maxSteps := 400000) (disch := omega) only [push_cast, ↓reduceIte, reduceCtorEq, Nat.reduceAdd, Nat.reduceSub, Nat.reduceEqDiff, Nat.reduceLeDiff, Nat.reduceLT, Nat.reduceBEq, Nat.reduceDiv, Nat.reduceMod, Nat.reducePow, Nat.reduceMul, Int.reduceToNat, Int.reduceLT, Int.reduceLE]) | (refine W_exit ?_; simp (maxSteps := 400000) (disch := omega) only [push_cast, ↓reduceIte, reduceCtorEq, Nat.reduceAdd, Nat.reduceSub, Nat.reduceEqDiff, Nat.reduceLeDiff, Nat.reduceLT, Nat.reduceBEq, Nat.reduceDiv, Nat.reduceMod, Nat.reducePow, Nat.reduceMul, Int.reduceToNat, Int.reduceLT, Int.reduceLE]) | refine And.intro (by omega) ?_ | refine And.intro (by intro hq; (try simp only [Bool.and_eq_true, Bool.or_eq_true, Bool.and_eq_false_iff, Bool.or_eq_false_iff, decide_eq_true_eq, decide_eq_false_iff_not, Bool.not_eq_true', Bool.not_eq_false', beq_iff_eq, beq_eq_false_iff_ne, ne_eq] at hq); omega) ?_ | fail)
        refine W_ret ⟨_, _, rfl, rfl, ?_⟩
        simp (maxSteps := 400000) (disch := omega) only [push_cast, ↓reduceIte, reduceCtorEq, Nat.reduceAdd, Nat.reduceSub, Nat.reduceEqDiff, Nat.reduceLeDiff, Nat.reduceLT, Nat.reduceBEq, Nat.reduceDiv, Nat.reduceMod, Nat.reducePow, Nat.reduceMul, Int.reduceToNat, Int.reduceLT, Int.reduceLE]
        refine W_cond (by rfl) (fun _ => ?_) (fun h1 => by unfold inC at hin; rw [hin] at h1; cases h1)
        refine W_ret ⟨_, _, rfl, rfl, ⟨_, _, rfl, by simp [doneL], ?_⟩⟩
        simp (maxSteps := 400000) (disch := omega) only [push_cast, ↓reduceIte, reduceCtorEq, Nat.reduceAdd, Nat.reduceSub, Nat.reduceEqDiff, Nat.reduceLeDiff, Nat.reduceLT, Nat.reduceBEq, Nat.reduceDiv, Nat.reduceMod, Nat.reducePow, Nat.reduceMul, Int.reduceToNat, Int.reduceLT, Int.reduceLE, EndP, doneL]
        have hc : canF st c ps (v kd) = i := idxF_range hlt hno hm
        exact ⟨[_], ⟨⟨by simp, rfl⟩, rfl⟩, by rw [hc]; rfl⟩
      · rw [← hcan] at hm
        repeat' (first | refine WK_go ?_ | refine W_seqL ?_ | refine W_seq ?_ | (refine W_regL ?_; simp (maxSteps := 400000) (disch := omega) only [push_cast, ↓reduceIte, reduceCtorEq, Nat.reduceAdd, Nat.reduceSub, Nat.reduceEqDiff, Nat.reduceLeDiff, Nat.reduceLT, Nat.reduceBEq, Nat.reduceDiv, Nat.reduceMod, Nat.reducePow, Nat.reduceMul, Int.reduceToNat, Int.reduceLT, Int.reduceLE]) | refine W_block ?_ | (refine W_skip ?_; simp (maxSteps := 400000) (disch := omega) only [push_cast, ↓reduceIte, reduceCtorEq, Nat.reduceAdd, Nat.reduceSub, Nat.reduceEqDiff, Nat.reduceLeDiff, Nat.reduceLT, Nat.reduceBEq, Nat.reduceDiv, Nat.reduceMod, Nat.reducePow, Nat.reduceMul, Int.reduceToNat, Int.reduceLT, Int.reduceLE]) | (refine W_exit ?_; simp (maxSteps := 400000) (disch := omega) only [push_cast, ↓reduceIte, reduceCtorEq, Nat.reduceAdd, Nat.reduceSub, Nat.reduceEqDiff, Nat.reduceLeDiff, Nat.reduceLT, Nat.reduceBEq, Nat.reduceDiv, Nat.reduceMod, Nat.reducePow, Nat.reduceMul, Int.reduceToNat, Int.reduceLT, Int.reduceLE]) | refine And.intro (by omega) ?_ | refine And.intro (by intro hq; (try simp only [Bool.and_eq_true, Bool.or_eq_true, Bool.and_eq_false_iff, Bool.or_eq_false_iff, decide_eq_true_eq, decide_eq_false_iff_not, Bool.not_eq_true', Bool.not_eq_false', beq_iff_eq, beq_eq_false_iff_ne, ne_eq] at hq); omega) ?_ | fail)
        refine ⟨_, _, rfl, rfl, ?_⟩
        simp (maxSteps := 400000) (disch := omega) only [push_cast, ↓reduceIte, reduceCtorEq, Nat.reduceAdd, Nat.reduceSub, Nat.reduceEqDiff, Nat.reduceLeDiff, Nat.reduceLT, Nat.reduceBEq, Nat.reduceDiv, Nat.reduceMod, Nat.reducePow, Nat.reduceMul, Int.reduceToNat, Int.reduceLT, Int.reduceLE]
        refine W_cond (by rfl) (fun h1 => by cases h1) (fun _ => ?_)
        repeat' (first | refine WK_go ?_ | refine W_seqL ?_ | refine W_seq ?_ | (refine W_regL ?_; simp (maxSteps := 400000) (disch := omega) only [push_cast, ↓reduceIte, reduceCtorEq, Nat.reduceAdd, Nat.reduceSub, Nat.reduceEqDiff, Nat.reduceLeDiff, Nat.reduceLT, Nat.reduceBEq, Nat.reduceDiv, Nat.reduceMod, Nat.reducePow, Nat.reduceMul, Int.reduceToNat, Int.reduceLT, Int.reduceLE]) | refine W_block ?_ | (refine W_skip ?_; simp (maxSteps := 400000) (disch := omega) only [push_cast, ↓reduceIte, reduceCtorEq, Nat.reduceAdd, Nat.reduceSub, Nat.reduceEqDiff, Nat.reduceLeDiff, Nat.reduceLT, Nat.reduceBEq, Nat.reduceDiv, Nat.reduceMod, Nat.reducePow, Nat.reduceMul, Int.reduceToNat, Int.reduceLT, Int.reduceLE]) | (refine W_exit ?_; simp (maxSteps := 400000) (disch := omega) only [push_cast, ↓reduceIte, reduceCtorEq, Nat.reduceAdd, Nat.reduceSub, Nat.reduceEqDiff, Nat.reduceLeDiff, Nat.reduceLT, Nat.reduceBEq, Nat.reduceDiv, Nat.reduceMod, Nat.reducePow, Nat.reduceMul, Int.reduceToNat, Int.reduceLT, Int.reduceLE]) | refine And.intro (by omega) ?_ | refine And.intro (by intro hq; (try simp only [Bool.and_eq_true, Bool.or_eq_true, Bool.and_eq_false_iff, Bool.or_eq_false_iff, decide_eq_true_eq, decide_eq_false_iff_not, Bool.not_eq_true', Bool.not_eq_false', beq_iff_eq, beq_eq_false_iff_ne, ne_eq] at hq); omega) ?_ | fail)
        refine ⟨i + 1, ⟨by omega, up_all hno hm⟩, by omega, by rfl, ?_⟩
        simp (maxSteps := 400000) (disch := omega) only [push_cast, ↓reduceIte, reduceCtorEq, Nat.reduceAdd, Nat.reduceSub, Nat.reduceEqDiff, Nat.reduceLeDiff, Nat.reduceLT, Nat.reduceBEq, Nat.reduceDiv, Nat.reduceMod, Nat.reducePow, Nat.reduceMul, Int.reduceToNat, Int.reduceLT, Int.reduceLE, S.mk.injEq, List.cons.injEq, Prod.mk.injEq, AV.v.injEq, Value.int.injEq, Value.bool.injEq, Blk.cells.injEq]
    · have hin : inC st c i = false := by unfold inC; simpa [pc] using hpc
      simp (maxSteps := 400000) (disch := omega) only [push_cast, ↓reduceIte, reduceCtorEq, Nat.reduceAdd, Nat.reduceSub, Nat.reduceEqDiff, Nat.reduceLeDiff, Nat.reduceLT, Nat.reduceBEq, Nat.reduceDiv, Nat.reduceMod, Nat.reducePow, Nat.reduceMul, Int.reduceToNat, Int.reduceLT, Int.reduceLE]
      refine W_cond (by rfl) (fun h1 => ?_) (fun _ => ?_)
      · unfold inC at hin; rw [hin] at h1; cases h1
      repeat' (first | refine WK_go ?_ | refine W_seqL ?_ | refine W_seq ?_ | (refine W_regL ?_; simp (maxSteps := 400000) (disch := omega) only [push_cast, ↓reduceIte, reduceCtorEq, Nat.reduceAdd, Nat.reduceSub, Nat.reduceEqDiff, Nat.reduceLeDiff, Nat.reduceLT, Nat.reduceBEq, Nat.reduceDiv, Nat.reduceMod, Nat.reducePow, Nat.reduceMul, Int.reduceToNat, Int.reduceLT, Int.reduceLE]) | refine W_block ?_ | (refine W_skip ?_; simp (maxSteps := 400000) (disch := omega) only [push_cast, ↓reduceIte, reduceCtorEq, Nat.reduceAdd, Nat.reduceSub, Nat.reduceEqDiff, Nat.reduceLeDiff, Nat.reduceLT, Nat.reduceBEq, Nat.reduceDiv, Nat.reduceMod, Nat.reducePow, Nat.reduceMul, Int.reduceToNat, Int.reduceLT, Int.reduceLE]) | (refine W_exit ?_; simp (maxSteps := 400000) (disch := omega) only [push_cast, ↓reduceIte, reduceCtorEq, Nat.reduceAdd, Nat.reduceSub, Nat.reduceEqDiff, Nat.reduceLeDiff, Nat.reduceLT, Nat.reduceBEq, Nat.reduceDiv, Nat.reduceMod, Nat.reducePow, Nat.reduceMul, Int.reduceToNat, Int.reduceLT, Int.reduceLE]) | refine And.intro (by omega) ?_ | refine And.intro (by intro hq; (try simp only [Bool.and_eq_true, Bool.or_eq_true, Bool.and_eq_false_iff, Bool.or_eq_false_iff, decide_eq_true_eq, decide_eq_false_iff_not, Bool.not_eq_true', Bool.not_eq_false', beq_iff_eq, beq_eq_false_iff_ne, ne_eq] at hq); omega) ?_ | fail)
      refine ⟨i + 1, ⟨by omega, up_all hno (by unfold canB; rw [hin]; rfl)⟩, by omega, by rfl, ?_⟩
      simp (maxSteps := 400000) (disch := omega) only [push_cast, ↓reduceIte, reduceCtorEq, Nat.reduceAdd, Nat.reduceSub, Nat.reduceEqDiff, Nat.reduceLeDiff, Nat.reduceLT, Nat.reduceBEq, Nat.reduceDiv, Nat.reduceMod, Nat.reducePow, Nat.reduceMul, Int.reduceToNat, Int.reduceLT, Int.reduceLE, S.mk.injEq, List.cons.injEq, Prod.mk.injEq, AV.v.injEq, Value.int.injEq, Value.bool.injEq, Blk.cells.injEq]
  · repeat' (first | refine WK_go ?_ | refine W_seqL ?_ | refine W_seq ?_ | (refine W_regL ?_; simp (maxSteps := 400000) (disch := omega) only [push_cast, ↓reduceIte, reduceCtorEq, Nat.reduceAdd, Nat.reduceSub, Nat.reduceEqDiff, Nat.reduceLeDiff, Nat.reduceLT, Nat.reduceBEq, Nat.reduceDiv, Nat.reduceMod, Nat.reducePow, Nat.reduceMul, Int.reduceToNat, Int.reduceLT, Int.reduceLE]) | refine W_block ?_ | (refine W_skip ?_; simp (maxSteps := 400000) (disch := omega) only [push_cast, ↓reduceIte, reduceCtorEq, Nat.reduceAdd, Nat.reduceSub, Nat.reduceEqDiff, Nat.reduceLeDiff, Nat.reduceLT, Nat.reduceBEq, Nat.reduceDiv, Nat.reduceMod, Nat.reducePow, Nat.reduceMul, Int.reduceToNat, Int.reduceLT, Int.reduceLE]) | (refine W_exit ?_; simp (maxSteps := 400000) (disch := omega) only [push_cast, ↓reduceIte, reduceCtorEq, Nat.reduceAdd, Nat.reduceSub, Nat.reduceEqDiff, Nat.reduceLeDiff, Nat.reduceLT, Nat.reduceBEq, Nat.reduceDiv, Nat.reduceMod, Nat.reducePow, Nat.reduceMul, Int.reduceToNat, Int.reduceLT, Int.reduceLE]) | refine And.intro (by omega) ?_ | refine And.intro (by intro hq; (try simp only [Bool.and_eq_true, Bool.or_eq_true, Bool.and_eq_false_iff, Bool.or_eq_false_iff, decide_eq_true_eq, decide_eq_false_iff_not, Bool.not_eq_true', Bool.not_eq_false', beq_iff_eq, beq_eq_false_iff_ne, ne_eq] at hq); omega) ?_ | fail)
    refine ⟨_, _, rfl, rfl, ⟨_, _, rfl, by rw [hR.st]; simp, ?_⟩⟩
    rw [hR.pe]
    simp (maxSteps := 400000) (disch := omega) only [push_cast, ↓reduceIte, reduceCtorEq, Nat.reduceAdd, Nat.reduceSub, Nat.reduceEqDiff, Nat.reduceLeDiff, Nat.reduceLT, Nat.reduceBEq, Nat.reduceDiv, Nat.reduceMod, Nat.reducePow, Nat.reduceMul, Int.reduceToNat, Int.reduceLT, Int.reduceLE, EndP]
    repeat' (first | refine WK_go ?_ | refine W_seqL ?_ | refine W_seq ?_ | (refine W_regL ?_; simp (maxSteps := 400000) (disch := omega) only [push_cast, ↓reduceIte, reduceCtorEq, Nat.reduceAdd, Nat.reduceSub, Nat.reduceEqDiff, Nat.reduceLeDiff, Nat.reduceLT, Nat.reduceBEq, Nat.reduceDiv, Nat.reduceMod, Nat.reducePow, Nat.reduceMul, Int.reduceToNat, Int.reduceLT, Int.reduceLE]) | refine W_block ?_ | (refine W_skip ?_; simp (maxSteps := 400000) (disch := omega) only [push_cast, ↓reduceIte, reduceCtorEq, Nat.reduceAdd, Nat.reduceSub, Nat.reduceEqDiff, Nat.reduceLeDiff, Nat.reduceLT, Nat.reduceBEq, Nat.reduceDiv, Nat.reduceMod, Nat.reducePow, Nat.reduceMul, Int.reduceToNat, Int.reduceLT, Int.reduceLE]) | (refine W_exit ?_; simp (maxSteps := 400000) (disch := omega) only [push_cast, ↓reduceIte, reduceCtorEq, Nat.reduceAdd, Nat.reduceSub, Nat.reduceEqDiff, Nat.reduceLeDiff, Nat.reduceLT, Nat.reduceBEq, Nat.reduceDiv, Nat.reduceMod, Nat.reducePow, Nat.reduceMul, Int.reduceToNat, Int.reduceLT, Int.reduceLE]) | refine And.intro (by omega) ?_ | refine And.intro (by intro hq; (try simp only [Bool.and_eq_true, Bool.or_eq_true, Bool.and_eq_false_iff, Bool.or_eq_false_iff, decide_eq_true_eq, decide_eq_false_iff_not, Bool.not_eq_true', Bool.not_eq_false', beq_iff_eq, beq_eq_false_iff_ne, ne_eq] at hq); omega) ?_ | fail)
    have hc : canF st c ps (v kd) = -1 := idxF_range_no (fun j hj => hno j (by omega))
    exact W_ret ⟨[_], ⟨⟨by simp, rfl⟩, rfl⟩, by rw [hc]; rfl⟩
structure V4 where
  a : Int
  b : Int
  c : Int
  d : Int
def cV (v : V4) : List AV := [iv v.a, iv v.b, iv v.c, iv v.d]
def dV4 : V4 := ⟨0, 0, 0, 0⟩
def at4 (v : V4) : Nat → Int
  | 0 => v.a
  | 1 => v.b
  | 2 => v.c
  | _ => v.d
theorem nV (v : V4) (k : Nat) (h : k < 4) : nth (cV v) (k * 1) = iv (at4 v k) := by
  rcases k with _ | _ | _ | _ | k <;> first | rfl | omega
theorem lV (v : V4) : (cV v).length = 4 := rfl
theorem tV (v : V4) : List.take 4 (cV v) = cV v := rfl
theorem frV (v : V4) : frzAll (cV v) = true := rfl
theorem iV {m : Nat → Option Blk} {n : Nat} (v : V4) : List.flatMap (ids m n) (cV v) = [] := flat_frz n _ (frV v)
attribute [push_cast] nV lV tV frV iV
structure Hist where
  pl : List Int
  va : List V4
def cH (h : Hist) : List AV := [.sl 1 0 cI h.pl, .sl 4 dV4 cV h.va]
theorem nH0 (h : Hist) : nth (cH h) 0 = .sl 1 0 cI h.pl := rfl
theorem nH1 (h : Hist) : nth (cH h) 1 = .sl 4 dV4 cV h.va := rfl
theorem lH (h : Hist) : (cH h).length = 2 := rfl
theorem tH (h : Hist) : List.take 2 (cH h) = cH h := rfl
theorem frH (h : Hist) : frzAll (cH h) = true := rfl
theorem iH {m : Nat → Option Blk} {n : Nat} (h : Hist) : List.flatMap (ids m n) (cH h) = [] := flat_frz n _ (frH h)
attribute [push_cast] nH0 nH1 lH tH frH iH
abbrev aH (h : Hist) : AV := .agg (cH h)
def damB (st : Int) (c : Clm) (kd : Nat) (h : Hist) (k : Nat) : Bool := inC st c k && (decide (h.pl.getD k 0 ≤ c.to) && decide (c.frm ≤ h.pl.getD (k + 1) 0) && decide (c.limit < max (at4 (h.va.getD k dV4) kd) (at4 (h.va.getD (k + 1) dV4) kd)))
end Go.Proofs.Ytgijpimjfoabjaa

/- The verdict, and what calls it. -/
namespace Go.Proofs.Ytgijpimjfoabjaa
open Go Sy
set_option maxRecDepth 100000
set_option maxHeartbeats 4000000
set_option linter.unusedVariables false
set_option linter.unusedSimpArgs false
theorem places_len (l : Log) (n : Nat) : (places l n).length = n := by simp [places]
theorem values_len (l : Log) (k n : Nat) : (values l k n).length = n := by simp [values]
theorem good_of_cchk {l : Log} (h : cchk l = 0) : Good l ∧ okB (fun i => cplace l (t0 l + i)) (mins l) = true ∧ (∀ k, k < 4 → okB (fun i => cvalue l k (t0 l + i)) (mins l) = true) := by
  unfold cchk at h
  split at h
  · omega
  rename_i h1
  split at h
  · omega
  rename_i h2
  split at h
  · omega
  rename_i h3
  split at h
  · omega
  rename_i h4
  split at h
  · omega
  rename_i h5
  split at h
  · omega
  rename_i h6
  split at h
  · omega
  rename_i h7
  have hR : ∀ j, j < l.rs.length → okR l j = true := all_range.1 (by simpa using h4)
  have hD : okD4 l = true := by simpa using h3
  refine ⟨⟨by omega, by omega, fun j hj => ?_, fun i hi => ?_, fun i hi => ?_, fun i k hi hk => ?_, by omega, fun k hk => ?_⟩, by simpa using h6, all_range.1 (by simpa using h7)⟩
  · have := hR j hj
    simp only [okR, Bool.and_eq_true, decide_eq_true_eq] at this
    exact this.1.1.1
  · have := hR (i + 1) hi
    simp only [okR, Bool.and_eq_true, Bool.not_eq_true', Bool.and_eq_false_iff, decide_eq_false_iff_not, Nat.add_sub_cancel] at this
    have := this.1.1.2
    omega
  · have := hR i hi
    simp only [okR, Bool.and_eq_true] at this
    exact this.1.2
  · have := hR i hi
    simp only [okR, Bool.and_eq_true] at this
    exact all_range.1 this.2 k hk
  · have := all_range.1 hD k hk
    simpa using this
theorem mins_pos {l : Log} (g : Good l) : 1 ≤ mins l ∧ mins l ≤ 2001 := by
  have := (g.tI (i := 0) (by have := g.n2; omega))
  have := g.span
  unfold mins
  omega
/-- the course of a log -/
abbrev crs (l : Log) : AV := .fp (cCo l (t0 l) (places l (mins l)) (fun k => values l k (mins l))) 0
theorem c46 (l : Log) (h3 : l.rs.length ≤ 1000000) (h : cchk l = 0) : Sy.Fn Try.prog 46 [aLog l] (.tup [crs l, iv 0]) := by
  have := fn46 l h3
  unfold cres at this
  rw [if_pos h] at this
  exact this
theorem c46n (l : Log) (h3 : l.rs.length ≤ 1000000) (h : ¬ cchk l = 0) : Sy.Fn Try.prog 46 [aLog l] (.tup [.v (.pointer none), iv (cchk l)]) := by
  have := fn46 l h3
  unfold cres at this
  rw [if_neg h] at this
  exact this
theorem c43 (l : Log) (c : Clm) (h3 : l.rs.length ≤ 1000000) (h : cchk l = 0) : Sy.Fn Try.prog 43 [aLog l, aC c] (.tup [crs l, iv (chkC c)]) := by
  have := fn43 l c h3
  unfold cabout at this
  rw [if_pos h] at this
  exact this
theorem c43n (l : Log) (c : Clm) (h3 : l.rs.length ≤ 1000000) (h : ¬ cchk l = 0) : Sy.Fn Try.prog 43 [aLog l, aC c] (.tup [.v (.pointer none), iv (cchk l)]) := by
  have := fn43 l c h3
  unfold cabout at this
  rw [if_neg h] at this
  exact this
/-- Minutes -/
theorem fn23 (l : Log) (h3 : l.rs.length ≤ 1000000) : Sy.Fn Try.prog 23 [aLog l] (.tup [iv (if cchk l = 0 then mins l else 0), iv (cchk l)]) := by
  refine Fn_of_W mixed Xt23 rfl ?_
  by_cases h : cchk l = 0
  · repeat' (first | refine WK_go ?_ | refine W_seqL ?_ | refine W_seq ?_ | (refine W_regL ?_; simp (maxSteps := 400000) (disch := omega) only [push_cast, ↓reduceIte, reduceCtorEq, Nat.reduceAdd, Nat.reduceSub, Nat.reduceEqDiff, Nat.reduceLeDiff, Nat.reduceLT, Nat.reduceBEq, Nat.reduceDiv, Nat.reduceMod, Nat.reducePow, Nat.reduceMul, Int.reduceToNat, Int.reduceLT, Int.reduceLE]) | refine W_block ?_ | (refine W_skip ?_; simp (maxSteps := 400000) (disch := omega) only [push_cast, ↓reduceIte, reduceCtorEq, Nat.reduceAdd, Nat.reduceSub, Nat.reduceEqDiff, Nat.reduceLeDiff, Nat.reduceLT, Nat.reduceBEq, Nat.reduceDiv, Nat.reduceMod, Nat.reducePow, Nat.reduceMul, Int.reduceToNat, Int.reduceLT, Int.reduceLE]) | (refine W_exit ?_; simp (maxSteps := 400000) (disch := omega) only [push_cast, ↓reduceIte, reduceCtorEq, Nat.reduceAdd, Nat.reduceSub, Nat.reduceEqDiff, Nat.reduceLeDiff, Nat.reduceLT, Nat.reduceBEq, Nat.reduceDiv, Nat.reduceMod, Nat.reducePow, Nat.reduceMul, Int.reduceToNat, Int.reduceLT, Int.reduceLE]) | refine And.intro (by omega) ?_ | refine And.intro (by intro hq; (try simp only [Bool.and_eq_true, Bool.or_eq_true, Bool.and_eq_false_iff, Bool.or_eq_false_iff, decide_eq_true_eq, decide_eq_false_iff_not, Bool.not_eq_true', Bool.not_eq_false', beq_iff_eq, beq_eq_false_iff_ne, ne_eq] at hq); omega) ?_ | (refine CallC.now (c46 l h3 h) ?_; simp (maxSteps := 400000) (disch := omega) only [push_cast, ↓reduceIte, reduceCtorEq, Nat.reduceAdd, Nat.reduceSub, Nat.reduceEqDiff, Nat.reduceLeDiff, Nat.reduceLT, Nat.reduceBEq, Nat.reduceDiv, Nat.reduceMod, Nat.reducePow, Nat.reduceMul, Int.reduceToNat, Int.reduceLT, Int.reduceLE]) | fail)
    refine W_cond (by rfl) (fun h => by cases h) (fun _ => ?_)
    have := places_len l (mins l)
    repeat' (first | refine WK_go ?_ | refine W_seqL ?_ | refine W_seq ?_ | (refine W_regL ?_; simp (maxSteps := 400000) (disch := omega) only [push_cast, ↓reduceIte, reduceCtorEq, Nat.reduceAdd, Nat.reduceSub, Nat.reduceEqDiff, Nat.reduceLeDiff, Nat.reduceLT, Nat.reduceBEq, Nat.reduceDiv, Nat.reduceMod, Nat.reducePow, Nat.reduceMul, Int.reduceToNat, Int.reduceLT, Int.reduceLE, this]) | refine W_block ?_ | (refine W_skip ?_; simp (maxSteps := 400000) (disch := omega) only [push_cast, ↓reduceIte, reduceCtorEq, Nat.reduceAdd, Nat.reduceSub, Nat.reduceEqDiff, Nat.reduceLeDiff, Nat.reduceLT, Nat.reduceBEq, Nat.reduceDiv, Nat.reduceMod, Nat.reducePow, Nat.reduceMul, Int.reduceToNat, Int.reduceLT, Int.reduceLE, this]) | (refine W_exit ?_; simp (maxSteps := 400000) (disch := omega) only [push_cast, ↓reduceIte, reduceCtorEq, Nat.reduceAdd, Nat.reduceSub, Nat.reduceEqDiff, Nat.reduceLeDiff, Nat.reduceLT, Nat.reduceBEq, Nat.reduceDiv, Nat.reduceMod, Nat.reducePow, Nat.reduceMul, Int.reduceToNat, Int.reduceLT, Int.reduceLE, this]) | refine And.intro (by omega) ?_ | refine And.intro (by intro hq; (try simp only [Bool.and_eq_true, Bool.or_eq_true, Bool.and_eq_false_iff, Bool.or_eq_false_iff, decide_eq_true_eq, decide_eq_false_iff_not, Bool.not_eq_true', Bool.not_eq_false', beq_iff_eq, beq_eq_false_iff_ne, ne_eq] at hq); omega) ?_ | fail)
    exact W_ret ⟨[_, _], ⟨rfl, rfl, rfl⟩, by rw [if_pos h, h]; rfl⟩
  · repeat' (first | refine WK_go ?_ | refine W_seqL ?_ | refine W_seq ?_ | (refine W_regL ?_; simp (maxSteps := 400000) (disch := omega) only [push_cast, ↓reduceIte, reduceCtorEq, Nat.reduceAdd, Nat.reduceSub, Nat.reduceEqDiff, Nat.reduceLeDiff, Nat.reduceLT, Nat.reduceBEq, Nat.reduceDiv, Nat.reduceMod, Nat.reducePow, Nat.reduceMul, Int.reduceToNat, Int.reduceLT, Int.reduceLE]) | refine W_block ?_ | (refine W_skip ?_; simp (maxSteps := 400000) (disch := omega) only [push_cast, ↓reduceIte, reduceCtorEq, Nat.reduceAdd, Nat.reduceSub, Nat.reduceEqDiff, Nat.reduceLeDiff, Nat.reduceLT, Nat.reduceBEq, Nat.reduceDiv, Nat.reduceMod, Nat.reducePow, Nat.reduceMul, Int.reduceToNat, Int.reduceLT, Int.reduceLE]) | (refine W_exit ?_; simp (maxSteps := 400000) (disch := omega) only [push_cast, ↓reduceIte, reduceCtorEq, Nat.reduceAdd, Nat.reduceSub, Nat.reduceEqDiff, Nat.reduceLeDiff, Nat.reduceLT, Nat.reduceBEq, Nat.reduceDiv, Nat.reduceMod, Nat.reducePow, Nat.reduceMul, Int.reduceToNat, Int.reduceLT, Int.reduceLE]) | refine And.intro (by omega) ?_ | refine And.intro (by intro hq; (try simp only [Bool.and_eq_true, Bool.or_eq_true, Bool.and_eq_false_iff, Bool.or_eq_false_iff, decide_eq_true_eq, decide_eq_false_iff_not, Bool.not_eq_true', Bool.not_eq_false', beq_iff_eq, beq_eq_false_iff_ne, ne_eq] at hq); omega) ?_ | (refine CallC.now (c46n l h3 h) ?_; simp (maxSteps := 400000) (disch := omega) only [push_cast, ↓reduceIte, reduceCtorEq, Nat.reduceAdd, Nat.reduceSub, Nat.reduceEqDiff, Nat.reduceLeDiff, Nat.reduceLT, Nat.reduceBEq, Nat.reduceDiv, Nat.reduceMod, Nat.reducePow, Nat.reduceMul, Int.reduceToNat, Int.reduceLT, Int.reduceLE]) | fail)
    refine W_cond (by rfl) (fun _ => ?_) (fun h1 => by simp [h] at h1)
    repeat' (first | refine WK_go ?_ | refine W_seqL ?_ | refine W_seq ?_ | (refine W_regL ?_; simp (maxSteps := 400000) (disch := omega) only [push_cast, ↓reduceIte, reduceCtorEq, Nat.reduceAdd, Nat.reduceSub, Nat.reduceEqDiff, Nat.reduceLeDiff, Nat.reduceLT, Nat.reduceBEq, Nat.reduceDiv, Nat.reduceMod, Nat.reducePow, Nat.reduceMul, Int.reduceToNat, Int.reduceLT, Int.reduceLE]) | refine W_block ?_ | (refine W_skip ?_; simp (maxSteps := 400000) (disch := omega) only [push_cast, ↓reduceIte, reduceCtorEq, Nat.reduceAdd, Nat.reduceSub, Nat.reduceEqDiff, Nat.reduceLeDiff, Nat.reduceLT, Nat.reduceBEq, Nat.reduceDiv, Nat.reduceMod, Nat.reducePow, Nat.reduceMul, Int.reduceToNat, Int.reduceLT, Int.reduceLE]) | (refine W_exit ?_; simp (maxSteps := 400000) (disch := omega) only [push_cast, ↓reduceIte, reduceCtorEq, Nat.reduceAdd, Nat.reduceSub, Nat.reduceEqDiff, Nat.reduceLeDiff, Nat.reduceLT, Nat.reduceBEq, Nat.reduceDiv, Nat.reduceMod, Nat.reducePow, Nat.reduceMul, Int.reduceToNat, Int.reduceLT, Int.reduceLE]) | refine And.intro (by omega) ?_ | refine And.intro (by intro hq; (try simp only [Bool.and_eq_true, Bool.or_eq_true, Bool.and_eq_false_iff, Bool.or_eq_false_iff, decide_eq_true_eq, decide_eq_false_iff_not, Bool.not_eq_true', Bool.not_eq_false', beq_iff_eq, beq_eq_false_iff_ne, ne_eq] at hq); omega) ?_ | fail)
    exact W_ret ⟨[_, _], ⟨rfl, rfl, rfl⟩, by rw [if_neg h]; rfl⟩
def verF (st : Int) (c : Clm) (ps v : List Band) : Int := if pastF ps c (mustL st c v (ps.length - 1)) < 0 then 1 else if canF st c ps v < 0 then 2 else 0
theorem mustL_get {st : Int} {c : Clm} {v : List Band} {n i : Nat} (hi : i < (mustL st c v n).length) : ∃ k : Nat, (mustL st c v n).getD i 0 = k ∧ k < n ∧ mustB st c v k = true := by
  have hm : (mustL st c v n).getD i 0 ∈ mustL st c v n := by
    simp only [List.getD, List.getElem?_eq_getElem hi, Option.getD_some]; exact List.getElem_mem hi
  unfold mustL at hm ⊢
  obtain ⟨k, hk, he⟩ := List.mem_map.1 hm
  rw [List.mem_filter] at hk
  exact ⟨k, he.symm, by simpa using hk.1, hk.2⟩
theorem fn44 (l : Log) (st : Int) (ps : List Band) (v : Nat → List Band) (c : Clm) (kd : Nat) (hk : c.kind = kd) (hk4 : kd < 4) (hp : 1 ≤ ps.length) (hp2 : ps.length ≤ 1000000) (hv : ∀ k, k < 4 → (v k).length = ps.length) (hst : 0 ≤ st ∧ st ≤ 1099511627776) :
    Sy.Fn Try.prog 44 [.fp (cCo l st ps v) 0, aC c] (iv (verF st c ps (v kd))) := by
  refine Fn_of_W mixed Xt44 rfl ?_
  have c56 := fn56 l st ps v c kd hk hk4 hp hp2 hv hst
  have hl := mustL_len st c (v kd) (ps.length - 1)
  have c58 : Sy.Fn Try.prog 58 [.fp (cCo l st ps v) 0, aC c, .sl 1 0 cI (mustL st c (v kd) (ps.length - 1))] (iv (pastF ps c (mustL st c (v kd) (ps.length - 1)))) :=
    fn58 l st ps _ c _ hp2 (by omega) (fun i hi => by obtain ⟨k, h1, h2, _⟩ := mustL_get hi; omega)
  have c65 := fn65 l st ps v c kd hk hk4 hp hp2 hv hst
  repeat' (first | refine WK_go ?_ | refine W_seqL ?_ | refine W_seq ?_ | (refine W_regL ?_; simp (maxSteps := 400000) (disch := omega) only [push_cast, ↓reduceIte, reduceCtorEq, Nat.reduceAdd, Nat.reduceSub, Nat.reduceEqDiff, Nat.reduceLeDiff, Nat.reduceLT, Nat.reduceBEq, Nat.reduceDiv, Nat.reduceMod, Nat.reducePow, Nat.reduceMul, Int.reduceToNat, Int.reduceLT, Int.reduceLE]) | refine W_block ?_ | (refine W_skip ?_; simp (maxSteps := 400000) (disch := omega) only [push_cast, ↓reduceIte, reduceCtorEq, Nat.reduceAdd, Nat.reduceSub, Nat.reduceEqDiff, Nat.reduceLeDiff, Nat.reduceLT, Nat.reduceBEq, Nat.reduceDiv, Nat.reduceMod, Nat.reducePow, Nat.reduceMul, Int.reduceToNat, Int.reduceLT, Int.reduceLE]) | (refine W_exit ?_; simp (maxSteps := 400000) (disch := omega) only [push_cast, ↓reduceIte, reduceCtorEq, Nat.reduceAdd, Nat.reduceSub, Nat.reduceEqDiff, Nat.reduceLeDiff, Nat.reduceLT, Nat.reduceBEq, Nat.reduceDiv, Nat.reduceMod, Nat.reducePow, Nat.reduceMul, Int.reduceToNat, Int.reduceLT, Int.reduceLE]) | refine And.intro (by omega) ?_ | refine And.intro (by intro hq; (try simp only [Bool.and_eq_true, Bool.or_eq_true, Bool.and_eq_false_iff, Bool.or_eq_false_iff, decide_eq_true_eq, decide_eq_false_iff_not, Bool.not_eq_true', Bool.not_eq_false', beq_iff_eq, beq_eq_false_iff_ne, ne_eq] at hq); omega) ?_ | (refine CallC.now (c58) ?_; simp (maxSteps := 400000) (disch := omega) only [push_cast, ↓reduceIte, reduceCtorEq, Nat.reduceAdd, Nat.reduceSub, Nat.reduceEqDiff, Nat.reduceLeDiff, Nat.reduceLT, Nat.reduceBEq, Nat.reduceDiv, Nat.reduceMod, Nat.reducePow, Nat.reduceMul, Int.reduceToNat, Int.reduceLT, Int.reduceLE]) | (refine CallC.now (c65) ?_; simp (maxSteps := 400000) (disch := omega) only [push_cast, ↓reduceIte, reduceCtorEq, Nat.reduceAdd, Nat.reduceSub, Nat.reduceEqDiff, Nat.reduceLeDiff, Nat.reduceLT, Nat.reduceBEq, Nat.reduceDiv, Nat.reduceMod, Nat.reducePow, Nat.reduceMul, Int.reduceToNat, Int.reduceLT, Int.reduceLE]) | ((refine CallC.new _ (fun _ => ⟨trivial, c56⟩) ?_; simp (maxSteps := 400000) (disch := omega) only [push_cast, ↓reduceIte, reduceCtorEq, Nat.reduceAdd, Nat.reduceSub, Nat.reduceEqDiff, Nat.reduceLeDiff, Nat.reduceLT, Nat.reduceBEq, Nat.reduceDiv, Nat.reduceMod, Nat.reducePow, Nat.reduceMul, Int.reduceToNat, Int.reduceLT, Int.reduceLE])) | fail)
  unfold verF
  refine W_condD (by rfl) (fun h1 => ?_) (fun h1 => ?_)
  · repeat' (first | refine WK_go ?_ | refine W_seqL ?_ | refine W_seq ?_ | (refine W_regL ?_; simp (maxSteps := 400000) (disch := omega) only [push_cast, ↓reduceIte, reduceCtorEq, Nat.reduceAdd, Nat.reduceSub, Nat.reduceEqDiff, Nat.reduceLeDiff, Nat.reduceLT, Nat.reduceBEq, Nat.reduceDiv, Nat.reduceMod, Nat.reducePow, Nat.reduceMul, Int.reduceToNat, Int.reduceLT, Int.reduceLE]) | refine W_block ?_ | (refine W_skip ?_; simp (maxSteps := 400000) (disch := omega) only [push_cast, ↓reduceIte, reduceCtorEq, Nat.reduceAdd, Nat.reduceSub, Nat.reduceEqDiff, Nat.reduceLeDiff, Nat.reduceLT, Nat.reduceBEq, Nat.reduceDiv, Nat.reduceMod, Nat.reducePow, Nat.reduceMul, Int.reduceToNat, Int.reduceLT, Int.reduceLE]) | (refine W_exit ?_; simp (maxSteps := 400000) (disch := omega) only [push_cast, ↓reduceIte, reduceCtorEq, Nat.reduceAdd, Nat.reduceSub, Nat.reduceEqDiff, Nat.reduceLeDiff, Nat.reduceLT, Nat.reduceBEq, Nat.reduceDiv, Nat.reduceMod, Nat.reducePow, Nat.reduceMul, Int.reduceToNat, Int.reduceLT, Int.reduceLE]) | refine And.intro (by omega) ?_ | refine And.intro (by intro hq; (try simp only [Bool.and_eq_true, Bool.or_eq_true, Bool.and_eq_false_iff, Bool.or_eq_false_iff, decide_eq_true_eq, decide_eq_false_iff_not, Bool.not_eq_true', Bool.not_eq_false', beq_iff_eq, beq_eq_false_iff_ne, ne_eq] at hq); omega) ?_ | fail)
    exact W_ret ⟨[_], ⟨rfl, rfl⟩, by rw [if_pos h1]; rfl⟩
  · repeat' (first | refine WK_go ?_ | refine W_seqL ?_ | refine W_seq ?_ | (refine W_regL ?_; simp (maxSteps := 400000) (disch := omega) only [push_cast, ↓reduceIte, reduceCtorEq, Nat.reduceAdd, Nat.reduceSub, Nat.reduceEqDiff, Nat.reduceLeDiff, Nat.reduceLT, Nat.reduceBEq, Nat.reduceDiv, Nat.reduceMod, Nat.reducePow, Nat.reduceMul, Int.reduceToNat, Int.reduceLT, Int.reduceLE]) | refine W_block ?_ | (refine W_skip ?_; simp (maxSteps := 400000) (disch := omega) only [push_cast, ↓reduceIte, reduceCtorEq, Nat.reduceAdd, Nat.reduceSub, Nat.reduceEqDiff, Nat.reduceLeDiff, Nat.reduceLT, Nat.reduceBEq, Nat.reduceDiv, Nat.reduceMod, Nat.reducePow, Nat.reduceMul, Int.reduceToNat, Int.reduceLT, Int.reduceLE]) | (refine W_exit ?_; simp (maxSteps := 400000) (disch := omega) only [push_cast, ↓reduceIte, reduceCtorEq, Nat.reduceAdd, Nat.reduceSub, Nat.reduceEqDiff, Nat.reduceLeDiff, Nat.reduceLT, Nat.reduceBEq, Nat.reduceDiv, Nat.reduceMod, Nat.reducePow, Nat.reduceMul, Int.reduceToNat, Int.reduceLT, Int.reduceLE]) | refine And.intro (by omega) ?_ | refine And.intro (by intro hq; (try simp only [Bool.and_eq_true, Bool.or_eq_true, Bool.and_eq_false_iff, Bool.or_eq_false_iff, decide_eq_true_eq, decide_eq_false_iff_not, Bool.not_eq_true', Bool.not_eq_false', beq_iff_eq, beq_eq_false_iff_ne, ne_eq] at hq); omega) ?_ | (refine CallC.now (c65) ?_; simp (maxSteps := 400000) (disch := omega) only [push_cast, ↓reduceIte, reduceCtorEq, Nat.reduceAdd, Nat.reduceSub, Nat.reduceEqDiff, Nat.reduceLeDiff, Nat.reduceLT, Nat.reduceBEq, Nat.reduceDiv, Nat.reduceMod, Nat.reducePow, Nat.reduceMul, Int.reduceToNat, Int.reduceLT, Int.reduceLE]) | fail)
    refine W_condD (by rfl) (fun h2 => ?_) (fun h2 => ?_)
    · repeat' (first | refine WK_go ?_ | refine W_seqL ?_ | refine W_seq ?_ | (refine W_regL ?_; simp (maxSteps := 400000) (disch := omega) only [push_cast, ↓reduceIte, reduceCtorEq, Nat.reduceAdd, Nat.reduceSub, Nat.reduceEqDiff, Nat.reduceLeDiff, Nat.reduceLT, Nat.reduceBEq, Nat.reduceDiv, Nat.reduceMod, Nat.reducePow, Nat.reduceMul, Int.reduceToNat, Int.reduceLT, Int.reduceLE]) | refine W_block ?_ | (refine W_skip ?_; simp (maxSteps := 400000) (disch := omega) only [push_cast, ↓reduceIte, reduceCtorEq, Nat.reduceAdd, Nat.reduceSub, Nat.reduceEqDiff, Nat.reduceLeDiff, Nat.reduceLT, Nat.reduceBEq, Nat.reduceDiv, Nat.reduceMod, Nat.reducePow, Nat.reduceMul, Int.reduceToNat, Int.reduceLT, Int.reduceLE]) | (refine W_exit ?_; simp (maxSteps := 400000) (disch := omega) only [push_cast, ↓reduceIte, reduceCtorEq, Nat.reduceAdd, Nat.reduceSub, Nat.reduceEqDiff, Nat.reduceLeDiff, Nat.reduceLT, Nat.reduceBEq, Nat.reduceDiv, Nat.reduceMod, Nat.reducePow, Nat.reduceMul, Int.reduceToNat, Int.reduceLT, Int.reduceLE]) | refine And.intro (by omega) ?_ | refine And.intro (by intro hq; (try simp only [Bool.and_eq_true, Bool.or_eq_true, Bool.and_eq_false_iff, Bool.or_eq_false_iff, decide_eq_true_eq, decide_eq_false_iff_not, Bool.not_eq_true', Bool.not_eq_false', beq_iff_eq, beq_eq_false_iff_ne, ne_eq] at hq); omega) ?_ | fail)
      exact W_ret ⟨[_], ⟨rfl, rfl⟩, by rw [if_neg h1, if_pos h2]; rfl⟩
    · repeat' (first | refine WK_go ?_ | refine W_seqL ?_ | refine W_seq ?_ | (refine W_regL ?_; simp (maxSteps := 400000) (disch := omega) only [push_cast, ↓reduceIte, reduceCtorEq, Nat.reduceAdd, Nat.reduceSub, Nat.reduceEqDiff, Nat.reduceLeDiff, Nat.reduceLT, Nat.reduceBEq, Nat.reduceDiv, Nat.reduceMod, Nat.reducePow, Nat.reduceMul, Int.reduceToNat, Int.reduceLT, Int.reduceLE]) | refine W_block ?_ | (refine W_skip ?_; simp (maxSteps := 400000) (disch := omega) only [push_cast, ↓reduceIte, reduceCtorEq, Nat.reduceAdd, Nat.reduceSub, Nat.reduceEqDiff, Nat.reduceLeDiff, Nat.reduceLT, Nat.reduceBEq, Nat.reduceDiv, Nat.reduceMod, Nat.reducePow, Nat.reduceMul, Int.reduceToNat, Int.reduceLT, Int.reduceLE]) | (refine W_exit ?_; simp (maxSteps := 400000) (disch := omega) only [push_cast, ↓reduceIte, reduceCtorEq, Nat.reduceAdd, Nat.reduceSub, Nat.reduceEqDiff, Nat.reduceLeDiff, Nat.reduceLT, Nat.reduceBEq, Nat.reduceDiv, Nat.reduceMod, Nat.reducePow, Nat.reduceMul, Int.reduceToNat, Int.reduceLT, Int.reduceLE]) | refine And.intro (by omega) ?_ | refine And.intro (by intro hq; (try simp only [Bool.and_eq_true, Bool.or_eq_true, Bool.and_eq_false_iff, Bool.or_eq_false_iff, decide_eq_true_eq, decide_eq_false_iff_not, Bool.not_eq_true', Bool.not_eq_false', beq_iff_eq, beq_eq_false_iff_ne, ne_eq] at hq); omega) ?_ | fail)
      exact W_ret ⟨[_], ⟨rfl, rfl⟩, by rw [if_neg h1, if_neg h2]; rfl⟩
theorem OkC.kd {c : Clm} (h : OkC c) : ∃ kd : Nat, c.kind = kd ∧ kd < 4 := ⟨c.kind.toNat, by have := h.k; omega, by have := h.k; omega⟩
theorem chkC_ok {c : Clm} (h : chkC c = 0) : OkC c := by
  unfold chkC at h
  split at h
  · assumption
  · omega
/-- the verdict on a log and a claim -/
noncomputable def verR (l : Log) (c : Clm) : Int := verF (t0 l) c (places l (mins l)) (values l c.kind.toNat (mins l))
theorem c44 (l : Log) (c : Clm) (g : Good l) (hc : OkC c) : Sy.Fn Try.prog 44 [crs l, aC c] (iv (verR l c)) := by
  obtain ⟨kd, h1, h2⟩ := hc.kd
  have hm := mins_pos g
  have ht := g.at0 0 (by have := g.n2; omega)
  have := fn44 l (t0 l) (places l (mins l)) (fun k => values l k (mins l)) c kd h1 h2 (by rw [places_len]; omega) (by rw [places_len]; omega) (fun k _ => by simp only [values_len, places_len]) ht
  unfold verR
  rw [show c.kind.toNat = kd by omega]
  exact this
noncomputable def chkLC (l : Log) (c : Clm) : Int := if cchk l = 0 then chkC c else cchk l
/-- Verdict -/
theorem fn14 (l : Log) (c : Clm) (h3 : l.rs.length ≤ 1000000) : Sy.Fn Try.prog 14 [aLog l, aC c] (.tup [iv (if chkLC l c = 0 then verR l c else 0), iv (chkLC l c)]) := by
  refine Fn_of_W mixed Xt14 rfl ?_
  unfold chkLC
  by_cases h : cchk l = 0
  · rw [if_pos h]
    repeat' (first | refine WK_go ?_ | refine W_seqL ?_ | refine W_seq ?_ | (refine W_regL ?_; simp (maxSteps := 400000) (disch := omega) only [push_cast, ↓reduceIte, reduceCtorEq, Nat.reduceAdd, Nat.reduceSub, Nat.reduceEqDiff, Nat.reduceLeDiff, Nat.reduceLT, Nat.reduceBEq, Nat.reduceDiv, Nat.reduceMod, Nat.reducePow, Nat.reduceMul, Int.reduceToNat, Int.reduceLT, Int.reduceLE]) | refine W_block ?_ | (refine W_skip ?_; simp (maxSteps := 400000) (disch := omega) only [push_cast, ↓reduceIte, reduceCtorEq, Nat.reduceAdd, Nat.reduceSub, Nat.reduceEqDiff, Nat.reduceLeDiff, Nat.reduceLT, Nat.reduceBEq, Nat.reduceDiv, Nat.reduceMod, Nat.reducePow, Nat.reduceMul, Int.reduceToNat, Int.reduceLT, Int.reduceLE]) | (refine W_exit ?_; simp (maxSteps := 400000) (disch := omega) only [push_cast, ↓reduceIte, reduceCtorEq, Nat.reduceAdd, Nat.reduceSub, Nat.reduceEqDiff, Nat.reduceLeDiff, Nat.reduceLT, Nat.reduceBEq, Nat.reduceDiv, Nat.reduceMod, Nat.reducePow, Nat.reduceMul, Int.reduceToNat, Int.reduceLT, Int.reduceLE]) | refine And.intro (by omega) ?_ | refine And.intro (by intro hq; (try simp only [Bool.and_eq_true, Bool.or_eq_true, Bool.and_eq_false_iff, Bool.or_eq_false_iff, decide_eq_true_eq, decide_eq_false_iff_not, Bool.not_eq_true', Bool.not_eq_false', beq_iff_eq, beq_eq_false_iff_ne, ne_eq] at hq); omega) ?_ | (refine CallC.now (c43 l c h3 h) ?_; simp (maxSteps := 400000) (disch := omega) only [push_cast, ↓reduceIte, reduceCtorEq, Nat.reduceAdd, Nat.reduceSub, Nat.reduceEqDiff, Nat.reduceLeDiff, Nat.reduceLT, Nat.reduceBEq, Nat.reduceDiv, Nat.reduceMod, Nat.reducePow, Nat.reduceMul, Int.reduceToNat, Int.reduceLT, Int.reduceLE]) | fail)
    by_cases hc : chkC c = 0
    · refine W_cond (by rfl) (fun h1 => by simp [hc] at h1) (fun _ => ?_)
      repeat' (first | refine WK_go ?_ | refine W_seqL ?_ | refine W_seq ?_ | (refine W_regL ?_; simp (maxSteps := 400000) (disch := omega) only [push_cast, ↓reduceIte, reduceCtorEq, Nat.reduceAdd, Nat.reduceSub, Nat.reduceEqDiff, Nat.reduceLeDiff, Nat.reduceLT, Nat.reduceBEq, Nat.reduceDiv, Nat.reduceMod, Nat.reducePow, Nat.reduceMul, Int.reduceToNat, Int.reduceLT, Int.reduceLE]) | refine W_block ?_ | (refine W_skip ?_; simp (maxSteps := 400000) (disch := omega) only [push_cast, ↓reduceIte, reduceCtorEq, Nat.reduceAdd, Nat.reduceSub, Nat.reduceEqDiff, Nat.reduceLeDiff, Nat.reduceLT, Nat.reduceBEq, Nat.reduceDiv, Nat.reduceMod, Nat.reducePow, Nat.reduceMul, Int.reduceToNat, Int.reduceLT, Int.reduceLE]) | (refine W_exit ?_; simp (maxSteps := 400000) (disch := omega) only [push_cast, ↓reduceIte, reduceCtorEq, Nat.reduceAdd, Nat.reduceSub, Nat.reduceEqDiff, Nat.reduceLeDiff, Nat.reduceLT, Nat.reduceBEq, Nat.reduceDiv, Nat.reduceMod, Nat.reducePow, Nat.reduceMul, Int.reduceToNat, Int.reduceLT, Int.reduceLE]) | refine And.intro (by omega) ?_ | refine And.intro (by intro hq; (try simp only [Bool.and_eq_true, Bool.or_eq_true, Bool.and_eq_false_iff, Bool.or_eq_false_iff, decide_eq_true_eq, decide_eq_false_iff_not, Bool.not_eq_true', Bool.not_eq_false', beq_iff_eq, beq_eq_false_iff_ne, ne_eq] at hq); omega) ?_ | (refine CallC.now (c44 l c (good_of_cchk h).1 (chkC_ok hc)) ?_; simp (maxSteps := 400000) (disch := omega) only [push_cast, ↓reduceIte, reduceCtorEq, Nat.reduceAdd, Nat.reduceSub, Nat.reduceEqDiff, Nat.reduceLeDiff, Nat.reduceLT, Nat.reduceBEq, Nat.reduceDiv, Nat.reduceMod, Nat.reducePow, Nat.reduceMul, Int.reduceToNat, Int.reduceLT, Int.reduceLE]) | fail)
      exact W_ret ⟨[_, _], ⟨rfl, rfl, rfl⟩, by rw [if_pos hc, hc]; rfl⟩
    · refine W_cond (by rfl) (fun _ => ?_) (fun h1 => by simp [hc] at h1)
      repeat' (first | refine WK_go ?_ | refine W_seqL ?_ | refine W_seq ?_ | (refine W_regL ?_; simp (maxSteps := 400000) (disch := omega) only [push_cast, ↓reduceIte, reduceCtorEq, Nat.reduceAdd, Nat.reduceSub, Nat.reduceEqDiff, Nat.reduceLeDiff, Nat.reduceLT, Nat.reduceBEq, Nat.reduceDiv, Nat.reduceMod, Nat.reducePow, Nat.reduceMul, Int.reduceToNat, Int.reduceLT, Int.reduceLE]) | refine W_block ?_ | (refine W_skip ?_; simp (maxSteps := 400000) (disch := omega) only [push_cast, ↓reduceIte, reduceCtorEq, Nat.reduceAdd, Nat.reduceSub, Nat.reduceEqDiff, Nat.reduceLeDiff, Nat.reduceLT, Nat.reduceBEq, Nat.reduceDiv, Nat.reduceMod, Nat.reducePow, Nat.reduceMul, Int.reduceToNat, Int.reduceLT, Int.reduceLE]) | (refine W_exit ?_; simp (maxSteps := 400000) (disch := omega) only [push_cast, ↓reduceIte, reduceCtorEq, Nat.reduceAdd, Nat.reduceSub, Nat.reduceEqDiff, Nat.reduceLeDiff, Nat.reduceLT, Nat.reduceBEq, Nat.reduceDiv, Nat.reduceMod, Nat.reducePow, Nat.reduceMul, Int.reduceToNat, Int.reduceLT, Int.reduceLE]) | refine And.intro (by omega) ?_ | refine And.intro (by intro hq; (try simp only [Bool.and_eq_true, Bool.or_eq_true, Bool.and_eq_false_iff, Bool.or_eq_false_iff, decide_eq_true_eq, decide_eq_false_iff_not, Bool.not_eq_true', Bool.not_eq_false', beq_iff_eq, beq_eq_false_iff_ne, ne_eq] at hq); omega) ?_ | fail)
      exact W_ret ⟨[_, _], ⟨rfl, rfl, rfl⟩, by rw [if_neg hc]; rfl⟩
  · rw [if_neg h]
    repeat' (first | refine WK_go ?_ | refine W_seqL ?_ | refine W_seq ?_ | (refine W_regL ?_; simp (maxSteps := 400000) (disch := omega) only [push_cast, ↓reduceIte, reduceCtorEq, Nat.reduceAdd, Nat.reduceSub, Nat.reduceEqDiff, Nat.reduceLeDiff, Nat.reduceLT, Nat.reduceBEq, Nat.reduceDiv, Nat.reduceMod, Nat.reducePow, Nat.reduceMul, Int.reduceToNat, Int.reduceLT, Int.reduceLE]) | refine W_block ?_ | (refine W_skip ?_; simp (maxSteps := 400000) (disch := omega) only [push_cast, ↓reduceIte, reduceCtorEq, Nat.reduceAdd, Nat.reduceSub, Nat.reduceEqDiff, Nat.reduceLeDiff, Nat.reduceLT, Nat.reduceBEq, Nat.reduceDiv, Nat.reduceMod, Nat.reducePow, Nat.reduceMul, Int.reduceToNat, Int.reduceLT, Int.reduceLE]) | (refine W_exit ?_; simp (maxSteps := 400000) (disch := omega) only [push_cast, ↓reduceIte, reduceCtorEq, Nat.reduceAdd, Nat.reduceSub, Nat.reduceEqDiff, Nat.reduceLeDiff, Nat.reduceLT, Nat.reduceBEq, Nat.reduceDiv, Nat.reduceMod, Nat.reducePow, Nat.reduceMul, Int.reduceToNat, Int.reduceLT, Int.reduceLE]) | refine And.intro (by omega) ?_ | refine And.intro (by intro hq; (try simp only [Bool.and_eq_true, Bool.or_eq_true, Bool.and_eq_false_iff, Bool.or_eq_false_iff, decide_eq_true_eq, decide_eq_false_iff_not, Bool.not_eq_true', Bool.not_eq_false', beq_iff_eq, beq_eq_false_iff_ne, ne_eq] at hq); omega) ?_ | (refine CallC.now (c43n l c h3 h) ?_; simp (maxSteps := 400000) (disch := omega) only [push_cast, ↓reduceIte, reduceCtorEq, Nat.reduceAdd, Nat.reduceSub, Nat.reduceEqDiff, Nat.reduceLeDiff, Nat.reduceLT, Nat.reduceBEq, Nat.reduceDiv, Nat.reduceMod, Nat.reducePow, Nat.reduceMul, Int.reduceToNat, Int.reduceLT, Int.reduceLE]) | fail)
    refine W_cond (by rfl) (fun _ => ?_) (fun h1 => by simp [h] at h1)
    repeat' (first | refine WK_go ?_ | refine W_seqL ?_ | refine W_seq ?_ | (refine W_regL ?_; simp (maxSteps := 400000) (disch := omega) only [push_cast, ↓reduceIte, reduceCtorEq, Nat.reduceAdd, Nat.reduceSub, Nat.reduceEqDiff, Nat.reduceLeDiff, Nat.reduceLT, Nat.reduceBEq, Nat.reduceDiv, Nat.reduceMod, Nat.reducePow, Nat.reduceMul, Int.reduceToNat, Int.reduceLT, Int.reduceLE]) | refine W_block ?_ | (refine W_skip ?_; simp (maxSteps := 400000) (disch := omega) only [push_cast, ↓reduceIte, reduceCtorEq, Nat.reduceAdd, Nat.reduceSub, Nat.reduceEqDiff, Nat.reduceLeDiff, Nat.reduceLT, Nat.reduceBEq, Nat.reduceDiv, Nat.reduceMod, Nat.reducePow, Nat.reduceMul, Int.reduceToNat, Int.reduceLT, Int.reduceLE]) | (refine W_exit ?_; simp (maxSteps := 400000) (disch := omega) only [push_cast, ↓reduceIte, reduceCtorEq, Nat.reduceAdd, Nat.reduceSub, Nat.reduceEqDiff, Nat.reduceLeDiff, Nat.reduceLT, Nat.reduceBEq, Nat.reduceDiv, Nat.reduceMod, Nat.reducePow, Nat.reduceMul, Int.reduceToNat, Int.reduceLT, Int.reduceLE]) | refine And.intro (by omega) ?_ | refine And.intro (by intro hq; (try simp only [Bool.and_eq_true, Bool.or_eq_true, Bool.and_eq_false_iff, Bool.or_eq_false_iff, decide_eq_true_eq, decide_eq_false_iff_not, Bool.not_eq_true', Bool.not_eq_false', beq_iff_eq, beq_eq_false_iff_ne, ne_eq] at hq); omega) ?_ | fail)
    exact W_ret ⟨[_, _], ⟨rfl, rfl, rfl⟩, by rw [if_neg h]; rfl⟩
end Go.Proofs.Ytgijpimjfoabjaa

/- The law's small functions. -/
namespace Go.Proofs.Ytgijpimjfoabjaa
open Go Sy
set_option maxRecDepth 100000
set_option maxHeartbeats 4000000
set_option linter.unusedVariables false
set_option linter.unusedSimpArgs false

def exLog : Log := ⟨[⟨100, ⟨0, 10⟩, ⟨5, 5⟩, ⟨0, 0⟩, ⟨0, 0⟩, ⟨0, 0⟩⟩, ⟨104, ⟨90, 100⟩, ⟨9, 9⟩, ⟨0, 0⟩, ⟨0, 0⟩, ⟨0, 0⟩⟩], 2, 0, 0, 0⟩
def exClm : Clm := ⟨40, 50, 0, 4, 0, 1000, 0⟩
theorem fn40 : Sy.Fn Try.prog 40 [] (aLog exLog) := by
  refine Fn_of_W mixed Xt40 rfl ?_
  repeat' (first | refine WK_go ?_ | refine W_seqL ?_ | refine W_seq ?_ | (refine W_regL ?_; simp (maxSteps := 400000) (disch := omega) only [push_cast, ↓reduceIte, reduceCtorEq, Nat.reduceAdd, Nat.reduceSub, Nat.reduceEqDiff, Nat.reduceLeDiff, Nat.reduceLT, Nat.reduceBEq, Nat.reduceDiv, Nat.reduceMod, Nat.reducePow, Nat.reduceMul, Int.reduceToNat, Int.reduceLT, Int.reduceLE]) | refine W_block ?_ | (refine W_skip ?_; simp (maxSteps := 400000) (disch := omega) only [push_cast, ↓reduceIte, reduceCtorEq, Nat.reduceAdd, Nat.reduceSub, Nat.reduceEqDiff, Nat.reduceLeDiff, Nat.reduceLT, Nat.reduceBEq, Nat.reduceDiv, Nat.reduceMod, Nat.reducePow, Nat.reduceMul, Int.reduceToNat, Int.reduceLT, Int.reduceLE]) | (refine W_exit ?_; simp (maxSteps := 400000) (disch := omega) only [push_cast, ↓reduceIte, reduceCtorEq, Nat.reduceAdd, Nat.reduceSub, Nat.reduceEqDiff, Nat.reduceLeDiff, Nat.reduceLT, Nat.reduceBEq, Nat.reduceDiv, Nat.reduceMod, Nat.reducePow, Nat.reduceMul, Int.reduceToNat, Int.reduceLT, Int.reduceLE]) | refine And.intro (by omega) ?_ | refine And.intro (by intro hq; (try simp only [Bool.and_eq_true, Bool.or_eq_true, Bool.and_eq_false_iff, Bool.or_eq_false_iff, decide_eq_true_eq, decide_eq_false_iff_not, Bool.not_eq_true', Bool.not_eq_false', beq_iff_eq, beq_eq_false_iff_ne, ne_eq] at hq); omega) ?_ | fail)
  refine ⟨rfl, trivial, Reading, dR, cR, exLog.rs, rfl, by omega, fun x _ => ⟨rfl, rfl⟩, rfl, ?_⟩
  simp (maxSteps := 400000) (disch := omega) only [push_cast, ↓reduceIte, reduceCtorEq, Nat.reduceAdd, Nat.reduceSub, Nat.reduceEqDiff, Nat.reduceLeDiff, Nat.reduceLT, Nat.reduceBEq, Nat.reduceDiv, Nat.reduceMod, Nat.reducePow, Nat.reduceMul, Int.reduceToNat, Int.reduceLT, Int.reduceLE]
  exact W_ret ⟨[_], ⟨⟨by simp, rfl⟩, rfl⟩, rfl⟩
theorem exOk : OkC exClm := ⟨by decide, by decide, by decide, by decide, by decide, by decide, by decide⟩
theorem exChk : cchk exLog = 0 := by decide
theorem exMins : mins exLog = 5 := by decide
theorem exVer : verR exLog exClm = 1 := by decide
def greatF (l : Log) : Bool :=
  let n := (l.rs.length : Int)
  let d := IntKind.wrap .i64 (tn l - t0 l)
  (decide (100 < n) || (decide (20 < n) && decide (n ≤ 64))) || (decide (1 < n) && decide (t0 l < tn l) && decide (120 < d) && decide (d ≤ 2000))
theorem fn18 (l : Log) (h : l.rs.length ≤ 140737488355328) : Sy.Fn Try.prog 18 [aLog l] (bv (greatF l)) := by
  refine Fn_of_W mixed Xt18 rfl ?_
  have e : ((l.rs.length : Int) - 1).toNat = l.rs.length - 1 := by omega
  have e1 : l.rs.getD (l.rs.length - 1) dR = rd l (l.rs.length - 1) := rfl
  have e2 : l.rs.getD 0 dR = rd l 0 := rfl
  repeat' (first | refine WK_go ?_ | refine W_seqL ?_ | refine W_seq ?_ | (refine W_regL ?_; simp (maxSteps := 400000) (disch := omega) only [push_cast, ↓reduceIte, reduceCtorEq, Nat.reduceAdd, Nat.reduceSub, Nat.reduceEqDiff, Nat.reduceLeDiff, Nat.reduceLT, Nat.reduceBEq, Nat.reduceDiv, Nat.reduceMod, Nat.reducePow, Nat.reduceMul, Int.reduceToNat, Int.reduceLT, Int.reduceLE, e, e1, e2]) | refine W_block ?_ | (refine W_skip ?_; simp (maxSteps := 400000) (disch := omega) only [push_cast, ↓reduceIte, reduceCtorEq, Nat.reduceAdd, Nat.reduceSub, Nat.reduceEqDiff, Nat.reduceLeDiff, Nat.reduceLT, Nat.reduceBEq, Nat.reduceDiv, Nat.reduceMod, Nat.reducePow, Nat.reduceMul, Int.reduceToNat, Int.reduceLT, Int.reduceLE, e, e1, e2]) | (refine W_exit ?_; simp (maxSteps := 400000) (disch := omega) only [push_cast, ↓reduceIte, reduceCtorEq, Nat.reduceAdd, Nat.reduceSub, Nat.reduceEqDiff, Nat.reduceLeDiff, Nat.reduceLT, Nat.reduceBEq, Nat.reduceDiv, Nat.reduceMod, Nat.reducePow, Nat.reduceMul, Int.reduceToNat, Int.reduceLT, Int.reduceLE, e, e1, e2]) | refine And.intro (by omega) ?_ | refine And.intro (by intro hq; (try simp only [Bool.and_eq_true, Bool.or_eq_true, Bool.and_eq_false_iff, Bool.or_eq_false_iff, decide_eq_true_eq, decide_eq_false_iff_not, Bool.not_eq_true', Bool.not_eq_false', beq_iff_eq, beq_eq_false_iff_ne, ne_eq] at hq); omega) ?_ | fail)
  unfold greatF
  have g1 : l.rs.length ≤ 9223372036854775807 := by omega
  refine W_cond (by rfl) (fun h1 => ?_) (fun h1 => ?_)
  · repeat' (first | refine WK_go ?_ | refine W_seqL ?_ | refine W_seq ?_ | (refine W_regL ?_; simp (maxSteps := 400000) (disch := omega) only [push_cast, ↓reduceIte, reduceCtorEq, Nat.reduceAdd, Nat.reduceSub, Nat.reduceEqDiff, Nat.reduceLeDiff, Nat.reduceLT, Nat.reduceBEq, Nat.reduceDiv, Nat.reduceMod, Nat.reducePow, Nat.reduceMul, Int.reduceToNat, Int.reduceLT, Int.reduceLE]) | refine W_block ?_ | (refine W_skip ?_; simp (maxSteps := 400000) (disch := omega) only [push_cast, ↓reduceIte, reduceCtorEq, Nat.reduceAdd, Nat.reduceSub, Nat.reduceEqDiff, Nat.reduceLeDiff, Nat.reduceLT, Nat.reduceBEq, Nat.reduceDiv, Nat.reduceMod, Nat.reducePow, Nat.reduceMul, Int.reduceToNat, Int.reduceLT, Int.reduceLE]) | (refine W_exit ?_; simp (maxSteps := 400000) (disch := omega) only [push_cast, ↓reduceIte, reduceCtorEq, Nat.reduceAdd, Nat.reduceSub, Nat.reduceEqDiff, Nat.reduceLeDiff, Nat.reduceLT, Nat.reduceBEq, Nat.reduceDiv, Nat.reduceMod, Nat.reducePow, Nat.reduceMul, Int.reduceToNat, Int.reduceLT, Int.reduceLE]) | refine And.intro (by omega) ?_ | refine And.intro (by intro hq; (try simp only [Bool.and_eq_true, Bool.or_eq_true, Bool.and_eq_false_iff, Bool.or_eq_false_iff, decide_eq_true_eq, decide_eq_false_iff_not, Bool.not_eq_true', Bool.not_eq_false', beq_iff_eq, beq_eq_false_iff_ne, ne_eq] at hq); omega) ?_ | fail)
    exact W_ret ⟨[_], ⟨rfl, rfl⟩, by simp only [h1, Bool.true_or]; rfl⟩
  · repeat' (first | refine WK_go ?_ | refine W_seqL ?_ | refine W_seq ?_ | (refine W_regL ?_; simp (maxSteps := 400000) (disch := omega) only [push_cast, ↓reduceIte, reduceCtorEq, Nat.reduceAdd, Nat.reduceSub, Nat.reduceEqDiff, Nat.reduceLeDiff, Nat.reduceLT, Nat.reduceBEq, Nat.reduceDiv, Nat.reduceMod, Nat.reducePow, Nat.reduceMul, Int.reduceToNat, Int.reduceLT, Int.reduceLE, e, e1, e2]) | refine W_block ?_ | (refine W_skip ?_; simp (maxSteps := 400000) (disch := omega) only [push_cast, ↓reduceIte, reduceCtorEq, Nat.reduceAdd, Nat.reduceSub, Nat.reduceEqDiff, Nat.reduceLeDiff, Nat.reduceLT, Nat.reduceBEq, Nat.reduceDiv, Nat.reduceMod, Nat.reducePow, Nat.reduceMul, Int.reduceToNat, Int.reduceLT, Int.reduceLE, e, e1, e2]) | (refine W_exit ?_; simp (maxSteps := 400000) (disch := omega) only [push_cast, ↓reduceIte, reduceCtorEq, Nat.reduceAdd, Nat.reduceSub, Nat.reduceEqDiff, Nat.reduceLeDiff, Nat.reduceLT, Nat.reduceBEq, Nat.reduceDiv, Nat.reduceMod, Nat.reducePow, Nat.reduceMul, Int.reduceToNat, Int.reduceLT, Int.reduceLE, e, e1, e2]) | refine And.intro (by omega) ?_ | refine And.intro (by intro hq; (try simp only [Bool.and_eq_true, Bool.or_eq_true, Bool.and_eq_false_iff, Bool.or_eq_false_iff, decide_eq_true_eq, decide_eq_false_iff_not, Bool.not_eq_true', Bool.not_eq_false', beq_iff_eq, beq_eq_false_iff_ne, ne_eq] at hq); omega) ?_ | fail)
    exact W_ret ⟨[_], ⟨rfl, rfl⟩, by simp only [h1, Bool.false_or]; rfl⟩
theorem great_no {l : Log} (h : greatF l = false) : l.rs.length ≤ 100 := by
  unfold greatF at h
  simp only [Bool.or_eq_false_iff, decide_eq_false_iff_not] at h
  omega
theorem fn12 : Sy.Fn Try.prog 12 [] (bv true) := by
  refine Fn_of_W mixed Xt12 rfl ?_
  have c14 := fn14 exLog exClm (by decide)
  rw [show chkLC exLog exClm = 0 by unfold chkLC chkC; rw [if_pos exChk, if_pos exOk], if_pos rfl, exVer] at c14
  have c23 := fn23 exLog (by decide)
  rw [exChk, if_pos rfl, exMins] at c23
  repeat' (first | refine WK_go ?_ | refine W_seqL ?_ | refine W_seq ?_ | (refine W_regL ?_; simp (maxSteps := 400000) (disch := omega) only [push_cast, ↓reduceIte, reduceCtorEq, Nat.reduceAdd, Nat.reduceSub, Nat.reduceEqDiff, Nat.reduceLeDiff, Nat.reduceLT, Nat.reduceBEq, Nat.reduceDiv, Nat.reduceMod, Nat.reducePow, Nat.reduceMul, Int.reduceToNat, Int.reduceLT, Int.reduceLE]) | refine W_block ?_ | (refine W_skip ?_; simp (maxSteps := 400000) (disch := omega) only [push_cast, ↓reduceIte, reduceCtorEq, Nat.reduceAdd, Nat.reduceSub, Nat.reduceEqDiff, Nat.reduceLeDiff, Nat.reduceLT, Nat.reduceBEq, Nat.reduceDiv, Nat.reduceMod, Nat.reducePow, Nat.reduceMul, Int.reduceToNat, Int.reduceLT, Int.reduceLE]) | (refine W_exit ?_; simp (maxSteps := 400000) (disch := omega) only [push_cast, ↓reduceIte, reduceCtorEq, Nat.reduceAdd, Nat.reduceSub, Nat.reduceEqDiff, Nat.reduceLeDiff, Nat.reduceLT, Nat.reduceBEq, Nat.reduceDiv, Nat.reduceMod, Nat.reducePow, Nat.reduceMul, Int.reduceToNat, Int.reduceLT, Int.reduceLE]) | refine And.intro (by omega) ?_ | refine And.intro (by intro hq; (try simp only [Bool.and_eq_true, Bool.or_eq_true, Bool.and_eq_false_iff, Bool.or_eq_false_iff, decide_eq_true_eq, decide_eq_false_iff_not, Bool.not_eq_true', Bool.not_eq_false', beq_iff_eq, beq_eq_false_iff_ne, ne_eq] at hq); omega) ?_ | (refine CallC.now (fn40) ?_; simp (maxSteps := 400000) (disch := omega) only [push_cast, ↓reduceIte, reduceCtorEq, Nat.reduceAdd, Nat.reduceSub, Nat.reduceEqDiff, Nat.reduceLeDiff, Nat.reduceLT, Nat.reduceBEq, Nat.reduceDiv, Nat.reduceMod, Nat.reducePow, Nat.reduceMul, Int.reduceToNat, Int.reduceLT, Int.reduceLE]) | (refine CallC.now (c14) ?_; simp (maxSteps := 400000) (disch := omega) only [push_cast, ↓reduceIte, reduceCtorEq, Nat.reduceAdd, Nat.reduceSub, Nat.reduceEqDiff, Nat.reduceLeDiff, Nat.reduceLT, Nat.reduceBEq, Nat.reduceDiv, Nat.reduceMod, Nat.reducePow, Nat.reduceMul, Int.reduceToNat, Int.reduceLT, Int.reduceLE]) | (refine CallC.now (c23) ?_; simp (maxSteps := 400000) (disch := omega) only [push_cast, ↓reduceIte, reduceCtorEq, Nat.reduceAdd, Nat.reduceSub, Nat.reduceEqDiff, Nat.reduceLeDiff, Nat.reduceLT, Nat.reduceBEq, Nat.reduceDiv, Nat.reduceMod, Nat.reducePow, Nat.reduceMul, Int.reduceToNat, Int.reduceLT, Int.reduceLE]) | fail)
  exact W_ret ⟨[_], ⟨rfl, rfl⟩, rfl⟩
/-- CheckClaim of the reference -/
theorem fn33 (c : Clm) : Sy.Fn Try.prog 33 [aC c] (iv (chkC c)) := by
  refine Fn_of_W mixed Xt33 rfl ?_
  repeat' (first | refine WK_go ?_ | refine W_seqL ?_ | refine W_seq ?_ | (refine W_regL ?_; simp (maxSteps := 400000) (disch := omega) only [push_cast, ↓reduceIte, reduceCtorEq, Nat.reduceAdd, Nat.reduceSub, Nat.reduceEqDiff, Nat.reduceLeDiff, Nat.reduceLT, Nat.reduceBEq, Nat.reduceDiv, Nat.reduceMod, Nat.reducePow, Nat.reduceMul, Int.reduceToNat, Int.reduceLT, Int.reduceLE]) | refine W_block ?_ | (refine W_skip ?_; simp (maxSteps := 400000) (disch := omega) only [push_cast, ↓reduceIte, reduceCtorEq, Nat.reduceAdd, Nat.reduceSub, Nat.reduceEqDiff, Nat.reduceLeDiff, Nat.reduceLT, Nat.reduceBEq, Nat.reduceDiv, Nat.reduceMod, Nat.reducePow, Nat.reduceMul, Int.reduceToNat, Int.reduceLT, Int.reduceLE]) | (refine W_exit ?_; simp (maxSteps := 400000) (disch := omega) only [push_cast, ↓reduceIte, reduceCtorEq, Nat.reduceAdd, Nat.reduceSub, Nat.reduceEqDiff, Nat.reduceLeDiff, Nat.reduceLT, Nat.reduceBEq, Nat.reduceDiv, Nat.reduceMod, Nat.reducePow, Nat.reduceMul, Int.reduceToNat, Int.reduceLT, Int.reduceLE]) | refine And.intro (by omega) ?_ | refine And.intro (by intro hq; (try simp only [Bool.and_eq_true, Bool.or_eq_true, Bool.and_eq_false_iff, Bool.or_eq_false_iff, decide_eq_true_eq, decide_eq_false_iff_not, Bool.not_eq_true', Bool.not_eq_false', beq_iff_eq, beq_eq_false_iff_ne, ne_eq] at hq); omega) ?_ | (refine CallC.go _ (fun _ => ⟨trivial, fn50 _ _ _⟩) rfl ?_; simp (maxSteps := 400000) (disch := omega) only [push_cast, ↓reduceIte, reduceCtorEq, Nat.reduceAdd, Nat.reduceSub, Nat.reduceEqDiff, Nat.reduceLeDiff, Nat.reduceLT, Nat.reduceBEq, Nat.reduceDiv, Nat.reduceMod, Nat.reducePow, Nat.reduceMul, Int.reduceToNat, Int.reduceLT, Int.reduceLE]) | fail)
  refine W_cond (by rfl) (fun h => ?_) (fun h => ?_)
  · repeat' (first | refine WK_go ?_ | refine W_seqL ?_ | refine W_seq ?_ | (refine W_regL ?_; simp (maxSteps := 400000) (disch := omega) only [push_cast, ↓reduceIte, reduceCtorEq, Nat.reduceAdd, Nat.reduceSub, Nat.reduceEqDiff, Nat.reduceLeDiff, Nat.reduceLT, Nat.reduceBEq, Nat.reduceDiv, Nat.reduceMod, Nat.reducePow, Nat.reduceMul, Int.reduceToNat, Int.reduceLT, Int.reduceLE]) | refine W_block ?_ | (refine W_skip ?_; simp (maxSteps := 400000) (disch := omega) only [push_cast, ↓reduceIte, reduceCtorEq, Nat.reduceAdd, Nat.reduceSub, Nat.reduceEqDiff, Nat.reduceLeDiff, Nat.reduceLT, Nat.reduceBEq, Nat.reduceDiv, Nat.reduceMod, Nat.reducePow, Nat.reduceMul, Int.reduceToNat, Int.reduceLT, Int.reduceLE]) | (refine W_exit ?_; simp (maxSteps := 400000) (disch := omega) only [push_cast, ↓reduceIte, reduceCtorEq, Nat.reduceAdd, Nat.reduceSub, Nat.reduceEqDiff, Nat.reduceLeDiff, Nat.reduceLT, Nat.reduceBEq, Nat.reduceDiv, Nat.reduceMod, Nat.reducePow, Nat.reduceMul, Int.reduceToNat, Int.reduceLT, Int.reduceLE]) | refine And.intro (by omega) ?_ | refine And.intro (by intro hq; (try simp only [Bool.and_eq_true, Bool.or_eq_true, Bool.and_eq_false_iff, Bool.or_eq_false_iff, decide_eq_true_eq, decide_eq_false_iff_not, Bool.not_eq_true', Bool.not_eq_false', beq_iff_eq, beq_eq_false_iff_ne, ne_eq] at hq); omega) ?_ | fail)
    have hn : ¬ OkC c := fun ho => by
      have := ho.ft; have := ho.f; have := ho.t; have := ho.l; have := ho.k; have := ho.be; have := ho.a
      simp at h
      omega
    exact W_ret ⟨[_], ⟨rfl, rfl⟩, by unfold chkC; rw [if_neg hn]; rfl⟩
  · repeat' (first | refine WK_go ?_ | refine W_seqL ?_ | refine W_seq ?_ | (refine W_regL ?_; simp (maxSteps := 400000) (disch := omega) only [push_cast, ↓reduceIte, reduceCtorEq, Nat.reduceAdd, Nat.reduceSub, Nat.reduceEqDiff, Nat.reduceLeDiff, Nat.reduceLT, Nat.reduceBEq, Nat.reduceDiv, Nat.reduceMod, Nat.reducePow, Nat.reduceMul, Int.reduceToNat, Int.reduceLT, Int.reduceLE]) | refine W_block ?_ | (refine W_skip ?_; simp (maxSteps := 400000) (disch := omega) only [push_cast, ↓reduceIte, reduceCtorEq, Nat.reduceAdd, Nat.reduceSub, Nat.reduceEqDiff, Nat.reduceLeDiff, Nat.reduceLT, Nat.reduceBEq, Nat.reduceDiv, Nat.reduceMod, Nat.reducePow, Nat.reduceMul, Int.reduceToNat, Int.reduceLT, Int.reduceLE]) | (refine W_exit ?_; simp (maxSteps := 400000) (disch := omega) only [push_cast, ↓reduceIte, reduceCtorEq, Nat.reduceAdd, Nat.reduceSub, Nat.reduceEqDiff, Nat.reduceLeDiff, Nat.reduceLT, Nat.reduceBEq, Nat.reduceDiv, Nat.reduceMod, Nat.reducePow, Nat.reduceMul, Int.reduceToNat, Int.reduceLT, Int.reduceLE]) | refine And.intro (by omega) ?_ | refine And.intro (by intro hq; (try simp only [Bool.and_eq_true, Bool.or_eq_true, Bool.and_eq_false_iff, Bool.or_eq_false_iff, decide_eq_true_eq, decide_eq_false_iff_not, Bool.not_eq_true', Bool.not_eq_false', beq_iff_eq, beq_eq_false_iff_ne, ne_eq] at hq); omega) ?_ | fail)
    have hn : OkC c := by
      simp at h
      constructor <;> omega
    exact W_ret ⟨[_], ⟨rfl, rfl⟩, by unfold chkC; rw [if_pos hn]; rfl⟩
/-- valid -/
theorem fn11 (l : Log) (c : Clm) (h : l.rs.length ≤ 140737488355328) : Sy.Fn Try.prog 11 [aLog l, aC c] (bv (!greatF l && decide (chkLog l = 0) && decide (chkC c = 0))) := by
  refine Fn_of_W mixed Xt11 rfl ?_
  have c18 := fn18 l h
  by_cases hg : greatF l = false
  · have c21 := fn21 l (by have := great_no hg; omega)
    repeat' (first | refine WK_go ?_ | refine W_seqL ?_ | refine W_seq ?_ | (refine W_regL ?_; simp (maxSteps := 400000) (disch := omega) only [push_cast, ↓reduceIte, reduceCtorEq, Nat.reduceAdd, Nat.reduceSub, Nat.reduceEqDiff, Nat.reduceLeDiff, Nat.reduceLT, Nat.reduceBEq, Nat.reduceDiv, Nat.reduceMod, Nat.reducePow, Nat.reduceMul, Int.reduceToNat, Int.reduceLT, Int.reduceLE]) | refine W_block ?_ | (refine W_skip ?_; simp (maxSteps := 400000) (disch := omega) only [push_cast, ↓reduceIte, reduceCtorEq, Nat.reduceAdd, Nat.reduceSub, Nat.reduceEqDiff, Nat.reduceLeDiff, Nat.reduceLT, Nat.reduceBEq, Nat.reduceDiv, Nat.reduceMod, Nat.reducePow, Nat.reduceMul, Int.reduceToNat, Int.reduceLT, Int.reduceLE]) | (refine W_exit ?_; simp (maxSteps := 400000) (disch := omega) only [push_cast, ↓reduceIte, reduceCtorEq, Nat.reduceAdd, Nat.reduceSub, Nat.reduceEqDiff, Nat.reduceLeDiff, Nat.reduceLT, Nat.reduceBEq, Nat.reduceDiv, Nat.reduceMod, Nat.reducePow, Nat.reduceMul, Int.reduceToNat, Int.reduceLT, Int.reduceLE]) | refine And.intro (by omega) ?_ | refine And.intro (by intro hq; (try simp only [Bool.and_eq_true, Bool.or_eq_true, Bool.and_eq_false_iff, Bool.or_eq_false_iff, decide_eq_true_eq, decide_eq_false_iff_not, Bool.not_eq_true', Bool.not_eq_false', beq_iff_eq, beq_eq_false_iff_ne, ne_eq] at hq); omega) ?_ | (refine CallC.now (c18) ?_; simp (maxSteps := 400000) (disch := omega) only [push_cast, ↓reduceIte, reduceCtorEq, Nat.reduceAdd, Nat.reduceSub, Nat.reduceEqDiff, Nat.reduceLeDiff, Nat.reduceLT, Nat.reduceBEq, Nat.reduceDiv, Nat.reduceMod, Nat.reducePow, Nat.reduceMul, Int.reduceToNat, Int.reduceLT, Int.reduceLE]) | (refine CallC.go _ (fun _ => ⟨trivial, c21⟩) rfl ?_; simp (maxSteps := 400000) (disch := omega) only [push_cast, ↓reduceIte, reduceCtorEq, Nat.reduceAdd, Nat.reduceSub, Nat.reduceEqDiff, Nat.reduceLeDiff, Nat.reduceLT, Nat.reduceBEq, Nat.reduceDiv, Nat.reduceMod, Nat.reducePow, Nat.reduceMul, Int.reduceToNat, Int.reduceLT, Int.reduceLE]) | (refine CallC.go _ (fun _ => ⟨trivial, fn33 _⟩) rfl ?_; simp (maxSteps := 400000) (disch := omega) only [push_cast, ↓reduceIte, reduceCtorEq, Nat.reduceAdd, Nat.reduceSub, Nat.reduceEqDiff, Nat.reduceLeDiff, Nat.reduceLT, Nat.reduceBEq, Nat.reduceDiv, Nat.reduceMod, Nat.reducePow, Nat.reduceMul, Int.reduceToNat, Int.reduceLT, Int.reduceLE]) | fail)
    exact W_ret ⟨[_], ⟨rfl, rfl⟩, rfl⟩
  · rw [Bool.not_eq_false] at hg
    rw [hg] at c18
    repeat' (first | refine WK_go ?_ | refine W_seqL ?_ | refine W_seq ?_ | (refine W_regL ?_; simp (maxSteps := 400000) (disch := omega) only [push_cast, ↓reduceIte, reduceCtorEq, Nat.reduceAdd, Nat.reduceSub, Nat.reduceEqDiff, Nat.reduceLeDiff, Nat.reduceLT, Nat.reduceBEq, Nat.reduceDiv, Nat.reduceMod, Nat.reducePow, Nat.reduceMul, Int.reduceToNat, Int.reduceLT, Int.reduceLE]) | refine W_block ?_ | (refine W_skip ?_; simp (maxSteps := 400000) (disch := omega) only [push_cast, ↓reduceIte, reduceCtorEq, Nat.reduceAdd, Nat.reduceSub, Nat.reduceEqDiff, Nat.reduceLeDiff, Nat.reduceLT, Nat.reduceBEq, Nat.reduceDiv, Nat.reduceMod, Nat.reducePow, Nat.reduceMul, Int.reduceToNat, Int.reduceLT, Int.reduceLE]) | (refine W_exit ?_; simp (maxSteps := 400000) (disch := omega) only [push_cast, ↓reduceIte, reduceCtorEq, Nat.reduceAdd, Nat.reduceSub, Nat.reduceEqDiff, Nat.reduceLeDiff, Nat.reduceLT, Nat.reduceBEq, Nat.reduceDiv, Nat.reduceMod, Nat.reducePow, Nat.reduceMul, Int.reduceToNat, Int.reduceLT, Int.reduceLE]) | refine And.intro (by omega) ?_ | refine And.intro (by intro hq; (try simp only [Bool.and_eq_true, Bool.or_eq_true, Bool.and_eq_false_iff, Bool.or_eq_false_iff, decide_eq_true_eq, decide_eq_false_iff_not, Bool.not_eq_true', Bool.not_eq_false', beq_iff_eq, beq_eq_false_iff_ne, ne_eq] at hq); omega) ?_ | (refine CallC.now (c18) ?_; simp (maxSteps := 400000) (disch := omega) only [push_cast, ↓reduceIte, reduceCtorEq, Nat.reduceAdd, Nat.reduceSub, Nat.reduceEqDiff, Nat.reduceLeDiff, Nat.reduceLT, Nat.reduceBEq, Nat.reduceDiv, Nat.reduceMod, Nat.reducePow, Nat.reduceMul, Int.reduceToNat, Int.reduceLT, Int.reduceLE]) | ((refine CallC.go (iv 0) (fun hq => by simp [pc] at hq) rfl ?_; simp (maxSteps := 400000) (disch := omega) only [push_cast, ↓reduceIte, reduceCtorEq, Nat.reduceAdd, Nat.reduceSub, Nat.reduceEqDiff, Nat.reduceLeDiff, Nat.reduceLT, Nat.reduceBEq, Nat.reduceDiv, Nat.reduceMod, Nat.reducePow, Nat.reduceMul, Int.reduceToNat, Int.reduceLT, Int.reduceLE])) | fail)
    exact W_ret ⟨[_], ⟨rfl, rfl⟩, by rw [hg]; rfl⟩
end Go.Proofs.Ytgijpimjfoabjaa

/- The plain laws of the spans. -/
namespace Go.Proofs.Ytgijpimjfoabjaa
open Go Sy
set_option maxRecDepth 100000
set_option maxHeartbeats 4000000
set_option linter.unusedVariables false
set_option linter.unusedSimpArgs false

theorem pLo_max (t : Int) : ∀ (rs : List Reading) (a b : Int), pLo t (max a b) rs = max a (pLo t b rs)
  | [], a, b => rfl
  | r :: rs, a, b => by
    simp only [pLo]
    split
    · rw [Int.max_assoc]; exact pLo_max t rs a _
    · exact pLo_max t rs a b
theorem pHi_min (t : Int) : ∀ (rs : List Reading) (a b : Int), pHi t (min a b) rs = min a (pHi t b rs)
  | [], a, b => rfl
  | r :: rs, a, b => by
    simp only [pHi]
    split
    · rw [Int.min_assoc]; exact pHi_min t rs a _
    · exact pHi_min t rs a b
theorem pLo_mem {t : Int} {r : Reading} (ht : r.at_ ≤ t) : ∀ (rs : List Reading) (a : Int), r ∈ rs → r.place.lo ≤ pLo t a rs
  | [], a, h => by cases h
  | x :: rs, a, h => by
    simp only [pLo]
    rcases List.mem_cons.1 h with rfl | h
    · rw [if_pos ht]
      exact Int.le_trans (Int.le_max_right _ _) (pLo_ge t rs _)
    · exact pLo_mem ht rs _ h
theorem pHi_mem {t : Int} {r : Reading} (ht : t ≤ r.at_) : ∀ (rs : List Reading) (a : Int), r ∈ rs → pHi t a rs ≤ r.place.hi
  | [], a, h => by cases h
  | x :: rs, a, h => by
    simp only [pHi]
    rcases List.mem_cons.1 h with rfl | h
    · rw [if_pos ht]
      exact Int.le_trans (pHi_le t rs _) (Int.min_le_right _ _)
    · exact pHi_mem ht rs _ h
/-- the least upper, and the greatest lower bound -/
theorem pLo_le {t : Int} {b : Int} : ∀ (rs : List Reading) (a : Int), a ≤ b → (∀ r ∈ rs, r.at_ ≤ t → r.place.lo ≤ b) → pLo t a rs ≤ b
  | [], a, h, _ => h
  | x :: rs, a, h, hr => by
    simp only [pLo]
    refine pLo_le rs _ ?_ (fun r hm => hr r (List.mem_cons_of_mem _ hm))
    split
    · have := hr x List.mem_cons_self (by assumption); omega
    · exact h
theorem pHi_ge {t : Int} {b : Int} : ∀ (rs : List Reading) (a : Int), b ≤ a → (∀ r ∈ rs, t ≤ r.at_ → b ≤ r.place.hi) → b ≤ pHi t a rs
  | [], a, h, _ => h
  | x :: rs, a, h, hr => by
    simp only [pHi]
    refine pHi_ge rs _ ?_ (fun r hm => hr r (List.mem_cons_of_mem _ hm))
    split
    · have := hr x List.mem_cons_self (by assumption); omega
    · exact h
theorem vLo_ge (l : Log) (k : Nat) (t : Int) : ∀ (rs : List Reading) (a : Int), a ≤ vLo l k t a rs
  | [], a => Int.le_refl a
  | r :: rs, a => by simp only [vLo]; exact Int.le_trans (Int.le_max_left _ _) (vLo_ge l k t rs _)
theorem vHi_le (l : Log) (k : Nat) (t : Int) : ∀ (rs : List Reading) (a : Int), vHi l k t a rs ≤ a
  | [], a => Int.le_refl a
  | r :: rs, a => by simp only [vHi]; exact Int.le_trans (vHi_le l k t rs _) (Int.min_le_left _ _)
theorem vLo_mem {l : Log} {k : Nat} {t : Int} {r : Reading} : ∀ (rs : List Reading) (a : Int), r ∈ rs → (vals r k).lo - drift l k * away r t ≤ vLo l k t a rs
  | [], a, h => by cases h
  | x :: rs, a, h => by
    simp only [vLo]
    rcases List.mem_cons.1 h with rfl | h
    · exact Int.le_trans (Int.le_max_right _ _) (vLo_ge l k t rs _)
    · exact vLo_mem rs _ h
theorem vHi_mem {l : Log} {k : Nat} {t : Int} {r : Reading} : ∀ (rs : List Reading) (a : Int), r ∈ rs → vHi l k t a rs ≤ (vals r k).hi + drift l k * away r t
  | [], a, h => by cases h
  | x :: rs, a, h => by
    simp only [vHi]
    rcases List.mem_cons.1 h with rfl | h
    · exact Int.le_trans (vHi_le l k t rs _) (Int.min_le_right _ _)
    · exact vHi_mem rs _ h
theorem vLo_le {l : Log} {k : Nat} {t : Int} {b : Int} : ∀ (rs : List Reading) (a : Int), a ≤ b → (∀ r ∈ rs, (vals r k).lo - drift l k * away r t ≤ b) → vLo l k t a rs ≤ b
  | [], a, h, _ => h
  | x :: rs, a, h, hr => by
    simp only [vLo]
    refine vLo_le rs _ ?_ (fun r hm => hr r (List.mem_cons_of_mem _ hm))
    have := hr x List.mem_cons_self; omega
theorem vHi_ge {l : Log} {k : Nat} {t : Int} {b : Int} : ∀ (rs : List Reading) (a : Int), b ≤ a → (∀ r ∈ rs, b ≤ (vals r k).hi + drift l k * away r t) → b ≤ vHi l k t a rs
  | [], a, h, _ => h
  | x :: rs, a, h, hr => by
    simp only [vHi]
    refine vHi_ge rs _ ?_ (fun r hm => hr r (List.mem_cons_of_mem _ hm))
    have := hr x List.mem_cons_self; omega
theorem meet_lo (l : Log) (k : Nat) (t : Int) : ∀ (rs : List Reading) (b : Band), (meetL b (wides l k t rs)).lo = vLo l k t b.lo rs
  | [], b => rfl
  | r :: rs, b => by simp only [wides, List.map_cons, meetL, vLo]; exact meet_lo l k t rs _
theorem meet_hi (l : Log) (k : Nat) (t : Int) : ∀ (rs : List Reading) (b : Band), (meetL b (wides l k t rs)).hi = vHi l k t b.hi rs
  | [], b => rfl
  | r :: rs, b => by simp only [wides, List.map_cons, meetL, vHi]; exact meet_hi l k t rs _
theorem rd_mem {l : Log} {r : Reading} (h : r ∈ l.rs) : ∃ i, i < l.rs.length ∧ rd l i = r := by
  obtain ⟨i, hi⟩ := List.mem_iff_getElem?.1 h
  have := (List.getElem?_eq_some_iff.1 hi).1
  exact ⟨i, this, by simp [rd, List.getD, hi]⟩
theorem mem_rd {l : Log} {i : Nat} (h : i < l.rs.length) : rd l i ∈ l.rs := by
  simp only [rd, List.getD, List.getElem?_eq_getElem h, Option.getD_some]; exact List.getElem_mem h
theorem place_eq {l : Log} (g : Good l) {m : Int} (hm : 0 ≤ m) (hm2 : t0 l + m ≤ tn l) : place l m = cplace l (t0 l + m) := by
  have h2 := g.n2
  unfold place cplace
  have hb := fun i h => okBand_iff.1 (g.pl i h)
  have e1 : pLo (t0 l + m) (-1073741824) l.rs = pLo (t0 l + m) (-1099511627776) l.rs := by
    have h := pLo_max (t0 l + m) l.rs (-1073741824) (-1099511627776)
    rw [show max (-1073741824 : Int) (-1099511627776) = -1073741824 by decide] at h
    rw [h]
    have h3 := pLo_mem (t := t0 l + m) (show (rd l 0).at_ ≤ t0 l + m by unfold t0; omega) l.rs (-1099511627776) (mem_rd (by omega))
    have := hb 0 (by omega)
    omega
  have e2 : pHi (t0 l + m) 1073741824 l.rs = pHi (t0 l + m) 1099511627776 l.rs := by
    have h := pHi_min (t0 l + m) l.rs 1073741824 1099511627776
    rw [show min (1073741824 : Int) 1099511627776 = 1073741824 by decide] at h
    rw [h]
    have h3 := pHi_mem (t := t0 l + m) (show t0 l + m ≤ (rd l (l.rs.length - 1)).at_ from hm2) l.rs 1099511627776 (mem_rd (by omega))
    have := hb (l.rs.length - 1) (by omega)
    omega
  rw [e1, e2]
theorem away_bound {l : Log} (g : Good l) {m : Int} (hm : 0 ≤ m) (hm2 : t0 l + m ≤ tn l) {i : Nat} (hi : i < l.rs.length) : 0 ≤ away (rd l i) (t0 l + m) ∧ away (rd l i) (t0 l + m) ≤ 4000 := by
  have := g.tI hi
  unfold away
  omega
theorem value_eq {l : Log} (g : Good l) {m : Int} (hm : 0 ≤ m) (hm2 : t0 l + m ≤ tn l) {k : Nat} (hk : k < 4) : value l m k = cvalue l k (t0 l + m) := by
  have h2 := g.n2
  obtain ⟨r, rs, hrs⟩ : ∃ r rs, l.rs = r :: rs := by
    cases h : l.rs with
    | nil => rw [h] at h2; simp at h2
    | cons r rs => exact ⟨r, rs, rfl⟩
  have hr : rd l 0 = r := by simp [rd, hrs]
  have hb := okBand_iff.1 (g.vl 0 k (by omega) hk)
  have ha := away_bound g hm hm2 (i := 0) (by omega)
  have hd := g.dr k hk
  have hmul := mul_bound hd.1 hd.2 ha.1 ha.2
  rw [hr] at hb ha hmul
  unfold value cvalue
  have hw : (wides l k (t0 l + m) l.rs).getD 0 dB = wide l k (t0 l + m) r := by rw [hrs]; rfl
  have hd1 : (wides l k (t0 l + m) l.rs).drop 1 = wides l k (t0 l + m) rs := by rw [hrs]; rfl
  rw [hw, hd1]
  generalize hmt : meetL (wide l k (t0 l + m) r) (wides l k (t0 l + m) rs) = b
  have e1 := meet_lo l k (t0 l + m) rs (wide l k (t0 l + m) r)
  have e2 := meet_hi l k (t0 l + m) rs (wide l k (t0 l + m) r)
  rw [hmt] at e1 e2
  rw [hrs]
  simp only [vLo, vHi]
  cases b with
  | mk lo hi =>
    simp only [wide] at e1 e2
    rw [Band.mk.injEq]
    refine ⟨?_, ?_⟩
    · rw [e1]; congr 1; omega
    · rw [e2]; congr 1; omega
theorem tn_mins {l : Log} (g : Good l) {m : Nat} (hm : m < mins l) : t0 l + m ≤ tn l := by
  unfold mins at hm; omega
theorem chk_eq (l : Log) : cchk l = chkLog l := by
  unfold cchk chkLog
  by_cases h1 : 64 < l.rs.length
  · rw [if_pos h1, if_pos h1]
  rw [if_neg h1, if_neg h1]
  by_cases h2 : l.rs.length < 2
  · rw [if_pos h2, if_pos h2]
  rw [if_neg h2, if_neg h2]
  by_cases h3 : okD4 l = false
  · rw [if_pos h3]
    split
    · rfl
    split
    · rfl
    first | rfl | rw [if_pos h3]
  by_cases h4 : (List.range l.rs.length).all (okR l) = false
  · rw [if_neg h3, if_pos h4, if_pos h4]
  rw [if_neg h3, if_neg h4, if_neg h4]
  by_cases h5 : tn l - t0 l > 2000
  · rw [if_pos h5, if_pos h5]
  rw [if_neg h5, if_neg h5, if_neg h3]
  have g : Good l := by
    have hR : ∀ j, j < l.rs.length → okR l j = true := all_range.1 (by simpa using h4)
    have hD : okD4 l = true := by simpa using h3
    refine ⟨by omega, by omega, fun j hj => ?_, fun i hi => ?_, fun i hi => ?_, fun i k hi hk => ?_, by omega, fun k hk => ?_⟩
    · have := hR j hj
      simp only [okR, Bool.and_eq_true, decide_eq_true_eq] at this
      exact this.1.1.1
    · have := hR (i + 1) hi
      simp only [okR, Bool.and_eq_true, Bool.not_eq_true', Bool.and_eq_false_iff, decide_eq_false_iff_not, Nat.add_sub_cancel] at this
      have := this.1.1.2
      omega
    · have := hR i hi
      simp only [okR, Bool.and_eq_true] at this
      exact this.1.2
    · have := hR i hi
      simp only [okR, Bool.and_eq_true] at this
      exact all_range.1 this.2 k hk
    · have := all_range.1 hD k hk
      simpa using this
  have key : ((List.range (mins l)).all (okM l)) = (okB (fun i => cplace l (t0 l + i)) (mins l) && (List.range 4).all fun k => okB (fun i => cvalue l k (t0 l + i)) (mins l)) := by
    rw [Bool.eq_iff_iff, Bool.and_eq_true, all_range, all_range]
    simp only [okM, okB, Bool.and_eq_true, all_range, decide_eq_true_eq]
    constructor
    · intro h
      refine ⟨fun i hi => ?_, fun k hk i hi => ?_⟩
      · rw [← place_eq g (by omega) (tn_mins g hi)]; exact (h i hi).1
      · rw [← value_eq g (by omega) (tn_mins g hi) hk]; exact (h i hi).2 k hk
    · intro h i hi
      refine ⟨?_, fun k hk => ?_⟩
      · rw [place_eq g (by omega) (tn_mins g hi)]; exact h.1 i hi
      · rw [value_eq g (by omega) (tn_mins g hi) hk]; exact h.2 k hk i hi
  rw [show (tn l - t0 l + 1).toNat = mins l from rfl, key]
  cases okB (fun i => cplace l (t0 l + i)) (mins l) <;> cases ((List.range 4).all fun k => okB (fun i => cvalue l k (t0 l + i)) (mins l)) <;> rfl
end Go.Proofs.Ytgijpimjfoabjaa

/- The plain laws of the verdicts. -/
namespace Go.Proofs.Ytgijpimjfoabjaa
open Go Sy
set_option maxRecDepth 100000
set_option maxHeartbeats 4000000
set_option linter.unusedVariables false
set_option linter.unusedSimpArgs false

theorem pLo_mono {t t' : Int} (h : t ≤ t') : ∀ (rs : List Reading) (a a' : Int), a ≤ a' → pLo t a rs ≤ pLo t' a' rs
  | [], a, a', ha => ha
  | r :: rs, a, a', ha => by
    simp only [pLo]
    refine pLo_mono h rs _ _ ?_
    split
    · rw [if_pos (by omega)]; omega
    · split <;> omega
theorem pHi_mono {t t' : Int} (h : t ≤ t') : ∀ (rs : List Reading) (a a' : Int), a ≤ a' → pHi t a rs ≤ pHi t' a' rs
  | [], a, a', ha => ha
  | r :: rs, a, a', ha => by
    simp only [pHi]
    refine pHi_mono h rs _ _ ?_
    by_cases h1 : t' ≤ r.at_
    · rw [if_pos (by omega), if_pos h1]; omega
    · rw [if_neg h1]; split <;> omega
theorem places_get {l : Log} {n i : Nat} (h : i < n) : (places l n).getD i dB = cplace l (t0 l + i) := by
  simp [places, List.getD, h]
theorem values_get {l : Log} {k n i : Nat} (h : i < n) : (values l k n).getD i dB = cvalue l k (t0 l + i) := by
  simp [values, List.getD, h]
/-- spans whose ends do not go back -/
structure Mono (ps : List Band) : Prop where
  lo : ∀ i j : Nat, i ≤ j → j < ps.length → (ps.getD i dB).lo ≤ (ps.getD j dB).lo
  hi : ∀ i j : Nat, i ≤ j → j < ps.length → (ps.getD i dB).hi ≤ (ps.getD j dB).hi
theorem places_mono (l : Log) (n : Nat) : Mono (places l n) := by
  constructor
  · intro i j h hj
    rw [places_len] at hj
    rw [places_get (by omega), places_get hj]
    exact pLo_mono (by omega) _ _ _ (Int.le_refl _)
  · intro i j h hj
    rw [places_len] at hj
    rw [places_get (by omega), places_get hj]
    exact pHi_mono (by omega) _ _ _ (Int.le_refl _)
/-- steps in order, within the course -/
structure Srt (n : Nat) (ss : List Int) : Prop where
  inc : ∀ i j : Nat, i < j → j < ss.length → ss.getD i 0 < ss.getD j 0
  in_ : ∀ i : Nat, i < ss.length → 0 ≤ ss.getD i 0 ∧ ss.getD i 0 + 1 < n
theorem getD_mem {ss : List Int} {i : Nat} (h : i < ss.length) : ss.getD i 0 ∈ ss := by
  simp only [List.getD, List.getElem?_eq_getElem h, Option.getD_some]; exact List.getElem_mem h
theorem mem_getD {ss : List Int} {x : Int} (h : x ∈ ss) : ∃ i, i < ss.length ∧ ss.getD i 0 = x := by
  obtain ⟨i, hi⟩ := List.mem_iff_getElem?.1 h
  exact ⟨i, (List.getElem?_eq_some_iff.1 hi).1, by simp [List.getD, hi]⟩
/-- there is a way past -/
def Way (ps : List Band) (c : Clm) (ss : List Int) : Prop :=
  ∃ q : Int, ∀ x ∈ ss, x ≠ q ∧ (x < q → (ps.getD (x + 1).toNat dB).lo < c.frm) ∧ (q < x → c.to < (ps.getD x.toNat dB).hi)
theorem past_way {ps : List Band} {c : Clm} {ss : List Int} (hm : Mono ps) (hs : Srt ps.length ss) : 0 ≤ pastF ps c ss ↔ Way ps c ss := by
  have h0 : 0 ≤ pastF ps c ss ↔ ∃ i, i < ss.length + 1 ∧ okAt ps c ss i = true := by
    have := idxF_any (okAt ps c ss) (List.range (ss.length + 1)) 0 (by omega)
    rw [← decide_eq_true_iff (p := 0 ≤ pastF ps c ss)]
    unfold pastF
    rw [this, List.any_eq_true]
    simp
  rw [h0]
  constructor
  · rintro ⟨i, hi, hok⟩
    simp only [okAt, ahead, behind, apart, Bool.and_eq_true, Bool.or_eq_true, beq_iff_eq, decide_eq_true_eq] at hok
    obtain ⟨⟨ha, hb⟩, hp⟩ := hok
    -- what lies ahead, and behind
    have hA : ∀ j, j < i → (ps.getD (ss.getD j 0 + 1).toNat dB).lo < c.frm := fun j hj => by
      rcases ha with ha | ha
      · omega
      · have h1 : ss.getD j 0 ≤ ss.getD (i - 1) 0 := by
          by_cases e : j = i - 1
          · rw [e]; exact Int.le_refl _
          · have := hs.inc j (i - 1) (by omega) (by omega); omega
        have h2 := hs.in_ (i - 1) (by omega)
        have h3 := hs.in_ j (by omega)
        have := hm.lo (ss.getD j 0 + 1).toNat (ss.getD (i - 1) 0 + 1).toNat (by omega) (by omega)
        omega
    have hB : ∀ j, i ≤ j → j < ss.length → c.to < (ps.getD (ss.getD j 0).toNat dB).hi := fun j hj hl => by
      rcases hb with hb | hb
      · omega
      · have h1 : ss.getD i 0 ≤ ss.getD j 0 := by
          by_cases e : i = j
          · rw [e]; exact Int.le_refl _
          · have := hs.inc i j (by omega) hl; omega
        have h2 := hs.in_ i (by omega)
        have h3 := hs.in_ j hl
        have := hm.hi (ss.getD i 0).toNat (ss.getD j 0).toNat (by omega) (by omega)
        omega
    by_cases hi0 : i = 0
    · refine ⟨-1, fun x hx => ?_⟩
      obtain ⟨j, hj, rfl⟩ := mem_getD hx
      have := hs.in_ j hj
      exact ⟨by omega, fun h => by omega, fun _ => hB j (by omega) hj⟩
    by_cases hin : i = ss.length
    · refine ⟨ps.length, fun x hx => ?_⟩
      obtain ⟨j, hj, rfl⟩ := mem_getD hx
      have := hs.in_ j hj
      exact ⟨by omega, fun _ => hA j (by omega), fun h => by omega⟩
    · have hp' : ss.getD (i - 1) 0 + 1 < ss.getD i 0 := by
        rcases hp with (hp | hp) | hp
        · omega
        · omega
        · exact hp
      refine ⟨ss.getD i 0 - 1, fun x hx => ?_⟩
      obtain ⟨j, hj, rfl⟩ := mem_getD hx
      by_cases hji : j < i
      · have : ss.getD j 0 ≤ ss.getD (i - 1) 0 := by
          by_cases e : j = i - 1
          · rw [e]; exact Int.le_refl _
          · have := hs.inc j (i - 1) (by omega) (by omega); omega
        exact ⟨by omega, fun _ => hA j hji, fun h => by omega⟩
      · have : ss.getD i 0 ≤ ss.getD j 0 := by
          by_cases e : i = j
          · rw [e]; exact Int.le_refl _
          · have := hs.inc i j (by omega) hj; omega
        exact ⟨by omega, fun h => by omega, fun _ => hB j (by omega) hj⟩
  · rintro ⟨q, hq⟩
    -- the first step behind q
    obtain ⟨i, hi, hlt, hge⟩ : ∃ i, i ≤ ss.length ∧ (∀ j, j < i → ss.getD j 0 < q) ∧ (i < ss.length → q < ss.getD i 0) := by
      have : ∀ n, n ≤ ss.length → (∀ j, j < n → ss.getD j 0 < q) ∨ ∃ i, i < n ∧ (∀ j, j < i → ss.getD j 0 < q) ∧ q < ss.getD i 0 := by
        intro n
        induction n with
        | zero => intro _; exact .inl (fun j hj => by omega)
        | succ n ih =>
          intro hn
          rcases ih (by omega) with h | ⟨i, h1, h2, h3⟩
          · by_cases hc : ss.getD n 0 < q
            · exact .inl (up_all h hc)
            · have hne := (hq _ (getD_mem (show n < ss.length by omega))).1
              exact .inr ⟨n, by omega, h, by omega⟩
          · exact .inr ⟨i, by omega, h2, h3⟩
      rcases this ss.length (Nat.le_refl _) with h | ⟨i, h1, h2, h3⟩
      · exact ⟨ss.length, Nat.le_refl _, h, fun h => by omega⟩
      · exact ⟨i, by omega, h2, fun _ => h3⟩
    refine ⟨i, by omega, ?_⟩
    simp only [okAt, ahead, behind, apart, Bool.and_eq_true, Bool.or_eq_true, beq_iff_eq, decide_eq_true_eq]
    refine ⟨⟨?_, ?_⟩, ?_⟩
    · by_cases e : i = 0
      · left; omega
      · right
        exact (hq _ (getD_mem (show i - 1 < ss.length by omega))).2.1 (hlt _ (by omega))
    · by_cases e : i = ss.length
      · left; omega
      · right
        exact (hq _ (getD_mem (show i < ss.length by omega))).2.2 (hge (by omega))
    · by_cases e : i = 0
      · left; left; omega
      by_cases e' : i = ss.length
      · left; right; omega
      · right
        have h1 := hlt (i - 1) (by omega)
        have h2 := hge (by omega)
        omega
theorem must_mem {st : Int} {c : Clm} {v : List Band} {n : Nat} {x : Int} : x ∈ mustL st c v n ↔ ∃ k : Nat, k < n ∧ x = k ∧ mustB st c v k = true := by
  unfold mustL
  rw [List.mem_map]
  constructor
  · rintro ⟨k, hk, rfl⟩
    rw [List.mem_filter, List.mem_range] at hk
    exact ⟨k, hk.1, rfl, hk.2⟩
  · rintro ⟨k, h1, rfl, h2⟩
    exact ⟨k, by rw [List.mem_filter, List.mem_range]; exact ⟨h1, h2⟩, rfl⟩
theorem must_srt {st : Int} {c : Clm} {v : List Band} {n m : Nat} (h : n + 1 ≤ m) : Srt m (mustL st c v n) := by
  constructor
  · have hp : (mustL st c v n).Pairwise (· < ·) := by
      unfold mustL
      rw [List.pairwise_map]
      refine List.Pairwise.imp (fun h => by simpa using h) ((List.pairwise_lt_range (n := n)).filter _)
    intro i j hij hj
    rw [List.pairwise_iff_getElem] at hp
    have := hp i j (by omega) hj hij
    simpa [List.getD, List.getElem?_eq_getElem (show i < (mustL st c v n).length by omega), List.getElem?_eq_getElem hj] using this
  · intro i hi
    obtain ⟨k, h1, h2, _⟩ := mustL_get hi
    omega
/-- a verdict, by a way and a possible damage -/
def Can (st : Int) (c : Clm) (ps v : List Band) : Prop := ∃ k, k + 1 < ps.length ∧ canB st c ps v k = true
theorem can_iff {st : Int} {c : Clm} {ps v : List Band} : 0 ≤ canF st c ps v ↔ Can st c ps v := by
  have := idxF_any (canB st c ps v) (List.range (ps.length - 1)) 0 (by omega)
  rw [← decide_eq_true_iff (p := 0 ≤ canF st c ps v)]
  unfold canF Can
  rw [this, List.any_eq_true]
  simp only [List.mem_range]
  constructor
  · rintro ⟨k, h1, h2⟩; exact ⟨k, by omega, h2⟩
  · rintro ⟨k, h1, h2⟩; exact ⟨k, by omega, h2⟩
/-- a claim about more -/
structure Wid (c w : Clm) : Prop where
  f : w.frm ≤ c.frm
  t : c.to ≤ w.to
  l : w.limit ≤ c.limit
  b : w.begn ≤ c.begn
  e : c.en ≤ w.en
end Go.Proofs.Ytgijpimjfoabjaa

/- What the arguments of the laws hold. -/
namespace Go.Proofs.Ytgijpimjfoabjaa
open Go Sy
set_option maxRecDepth 100000
set_option linter.unusedVariables false
theorem i64_wf {n : Int} (h : (Lit.int .i64 n).wf = true) : -9223372036854775808 ≤ n ∧ n ≤ 9223372036854775807 := by
  simp [Lit.wf, IntKind.min, IntKind.max, IntKind.bits, IntKind.signed] at h
  omega
theorem u8_wf {n : Int} (h : (Lit.int .u8 n).wf = true) : 0 ≤ n ∧ n ≤ 255 := by
  simp [Lit.wf, IntKind.min, IntKind.max, IntKind.bits, IntKind.signed] at h
  omega
abbrev I64 (n : Int) : Prop := -9223372036854775808 ≤ n ∧ n ≤ 9223372036854775807
theorem z2 : Try.prog.cellsOf 2 = 1 := by kernel_rfl
theorem z3 : Try.prog.cellsOf 3 = 1 := by kernel_rfl
theorem z5 : Try.prog.cellsOf 5 = 1 := by kernel_rfl
theorem z40 : Try.prog.cellsOf 40 = 2 := by kernel_rfl
theorem z41 : Try.prog.cellsOf 41 = 8 := by kernel_rfl
theorem z22 : Try.prog.cellsOf 22 = 1 := by kernel_rfl
theorem z23 : Try.prog.cellsOf 23 = 4 := by kernel_rfl
theorem z43 : Try.prog.cellsOf 43 = 11 := by kernel_rfl
theorem b43 : Try.prog.bytesOf 43 = 88 := by kernel_rfl
theorem k2 : Codec Try.prog 2 (fun n : Int => [iv n]) I64 := (Codec.int Try.underlying2).map id (fun _ => rfl) (fun _ h => i64_wf h)
theorem k3 : Codec Try.prog 3 (fun n : Int => [iv n]) I64 := (Codec.int Try.underlying3).map id (fun _ => rfl) (fun _ h => i64_wf h)
theorem k5 : Codec Try.prog 5 (fun n : Int => [.v (.int .u8 n)]) (fun n => 0 ≤ n ∧ n ≤ 255) := (Codec.int Try.underlying5).map id (fun _ => rfl) (fun _ h => u8_wf h)
abbrev OB (b : Band) : Prop := I64 b.lo ∧ I64 b.hi
theorem k40 : Codec Try.prog 40 cBand OB :=
  (Codec.struct Try.underlying40 (by kernel_rfl) (by kernel_rfl) (Parts.cons k2 z2 (Parts.cons k2 z2 Parts.nil))).map (fun x => ⟨x.1, x.2.1⟩) (fun _ => rfl) (fun _ h => ⟨h.1, h.2.1⟩)
theorem k41 : Codec Try.prog 41 (fun x : Band × Band × Band × Band × Unit => cBand x.1 ++ (cBand x.2.1 ++ (cBand x.2.2.1 ++ (cBand x.2.2.2.1 ++ [])))) (fun x => OB x.1 ∧ OB x.2.1 ∧ OB x.2.2.1 ∧ OB x.2.2.2.1 ∧ True) :=
  Codec.array Try.underlying41 z40 (by kernel_rfl) (by kernel_rfl) (Parts.cons k40 z40 (Parts.cons k40 z40 (Parts.cons k40 z40 (Parts.cons k40 z40 Parts.nil))))
structure OR (r : Reading) : Prop where
  at_ : I64 r.at_
  p : OB r.place
  v0 : OB r.v0
  v1 : OB r.v1
  v2 : OB r.v2
  v3 : OB r.v3
theorem k43 : Codec Try.prog 43 cR OR :=
  (Codec.struct Try.underlying43 (by kernel_rfl) (by kernel_rfl) (Parts.cons k2 z2 (Parts.cons k40 z40 (Parts.cons k41 z41 Parts.nil)))).map
    (fun x => ⟨x.1, x.2.1, x.2.2.1.1, x.2.2.1.2.1, x.2.2.1.2.2.1, x.2.2.1.2.2.2.1⟩) (fun _ => rfl) (fun _ h => ⟨h.1, h.2.1, h.2.2.1.1, h.2.2.1.2.1, h.2.2.1.2.2.1, h.2.2.1.2.2.2.1⟩)
theorem k22 : Codec Try.prog 22 (fun l : List Reading => [.sl 11 dR cR l]) (fun l => l.length * 88 ≤ 140737488351232 ∧ l.length ≤ maxLen ∧ ∀ x ∈ l, OR x) :=
  Codec.slice Try.underlying22 (by rw [z43]; decide) z43 b43 dR k43
theorem k23 : Codec Try.prog 23 (fun x : Int × Int × Int × Int × Unit => [iv x.1] ++ ([iv x.2.1] ++ ([iv x.2.2.1] ++ ([iv x.2.2.2.1] ++ [])))) (fun x => I64 x.1 ∧ I64 x.2.1 ∧ I64 x.2.2.1 ∧ I64 x.2.2.2.1 ∧ True) :=
  Codec.array Try.underlying23 z2 (by kernel_rfl) (by kernel_rfl) (Parts.cons k2 z2 (Parts.cons k2 z2 (Parts.cons k2 z2 (Parts.cons k2 z2 Parts.nil))))
structure OL (l : Log) : Prop where
  n : l.rs.length * 88 ≤ 140737488351232
  r : ∀ x ∈ l.rs, OR x
  d : I64 l.d0 ∧ I64 l.d1 ∧ I64 l.d2 ∧ I64 l.d3
theorem k25 : Codec Try.prog 25 cLog OL :=
  (Codec.struct Try.underlying25 (by kernel_rfl) (by kernel_rfl) (Parts.cons k22 z22 (Parts.cons k23 z23 Parts.nil))).map
    (fun x => ⟨x.1, x.2.1.1, x.2.1.2.1, x.2.1.2.2.1, x.2.1.2.2.2.1⟩) (fun _ => rfl) (fun _ h => ⟨h.1.1, h.1.2.2, h.2.1.1, h.2.1.2.1, h.2.1.2.2.1, h.2.1.2.2.2.1⟩)
theorem k27 : Codec Try.prog 27 cC (fun c => I64 c.frm ∧ I64 c.to ∧ I64 c.kind ∧ I64 c.limit ∧ I64 c.begn ∧ I64 c.en ∧ I64 c.amount) :=
  (Codec.struct Try.underlying27 (by kernel_rfl) (by kernel_rfl) (Parts.cons k2 z2 (Parts.cons k2 z2 (Parts.cons k3 z3 (Parts.cons k2 z2 (Parts.cons k2 z2 (Parts.cons k2 z2 (Parts.cons k2 z2 Parts.nil)))))))).map
    (fun x => ⟨x.1, x.2.1, x.2.2.1, x.2.2.2.1, x.2.2.2.2.1, x.2.2.2.2.2.1, x.2.2.2.2.2.2.1⟩) (fun _ => rfl) (fun _ h => ⟨h.1, h.2.1, h.2.2.1, h.2.2.2.1, h.2.2.2.2.1, h.2.2.2.2.2.1, h.2.2.2.2.2.2.1⟩)
end Go.Proofs.Ytgijpimjfoabjaa

/- The reference's verdicts. -/
namespace Go.Proofs.Ytgijpimjfoabjaa
open Go Sy
set_option maxRecDepth 100000
set_option maxHeartbeats 4000000
set_option linter.unusedVariables false
set_option linter.unusedSimpArgs false

theorem r17 (l : Log) (m k : Nat) (g : Good l) (hm : m < mins l) (hk : k < 4) : Sy.Fn Try.prog 17 [aLog l, iv m, iv k] (.agg (cBand ((values l k (mins l)).getD m dB))) := by
  have h := fn17 l m k g (by have := (mins_pos g).2; omega) hk
  rw [value_eq g (by omega) (tn_mins g hm) hk, ← values_get hm] at h
  exact h
theorem t0_bound {l : Log} (g : Good l) : 0 ≤ t0 l ∧ t0 l ≤ 1099511627776 := g.at0 0 (by have := g.n2; omega)
theorem r16 (l : Log) (m : Nat) (g : Good l) (hm : m < mins l) : Sy.Fn Try.prog 16 [aLog l, iv m] (.agg (cBand ((places l (mins l)).getD m dB))) := by
  have h2 := g.n2; have h3 := g.n64
  have h := fn16 l m (by omega) (by omega) (by have := t0_bound g; omega) (by have := (mins_pos g).2; omega)
  rw [place_eq g (by omega) (tn_mins g hm), ← places_get hm] at h
  exact h
theorem r53 (l : Log) (g : Good l) : Sy.Fn Try.prog 53 [aLog l] (iv ((mins l : Int) - 1)) := by
  have h2 := g.n2; have h3 := g.n64
  have ht := t0_bound g
  have hs := (g.tI (i := 0) (by omega))
  have h := fn53 l (by omega) (by omega) (by omega) (by omega)
  rw [show tn l - t0 l = (mins l : Int) - 1 by unfold mins; omega] at h
  exact h
end Go.Proofs.Ytgijpimjfoabjaa

/- BinarySearch, CheckProof and Prove. -/
namespace Go.Proofs.Ytgijpimjfoabjaa
open Go Sy
set_option maxRecDepth 100000
set_option maxHeartbeats 4000000
set_option linter.unusedVariables false
set_option linter.unusedSimpArgs false
/-- the steps of a claim -/
noncomputable def mustC (l : Log) (c : Clm) : List Int := mustL (t0 l) c (values l c.kind.toNat (mins l)) (mins l - 1)
noncomputable def pastC (l : Log) (c : Clm) (ss : List Int) : Int := pastF (places l (mins l)) c ss
theorem verR_one (l : Log) (c : Clm) : verR l c = 1 ↔ pastC l c (mustC l c) < 0 := by
  unfold verR verF pastC mustC
  rw [places_len]
  split
  · simp [*]
  · split <;> simp [*]
theorem c56 (l : Log) (c : Clm) (g : Good l) (hc : OkC c) : FnN Try.prog 56 [crs l, aC c] (.sl 1 0 cI (mustC l c)) := by
  obtain ⟨kd, h1, h2⟩ := hc.kd
  have hm := mins_pos g
  have ht := g.at0 0 (by have := g.n2; omega)
  have := fn56 l (t0 l) (places l (mins l)) (fun k => values l k (mins l)) c kd h1 h2 (by rw [places_len]; omega) (by rw [places_len]; omega) (fun k _ => by simp only [values_len, places_len]) ht
  unfold mustC
  rw [show c.kind.toNat = kd by omega]
  rw [places_len] at this
  exact this
theorem c58 (l : Log) (c : Clm) (ss : List Int) (g : Good l) (hs : ss.length ≤ 1000000) (hr : Srt (mins l) ss) : Sy.Fn Try.prog 58 [crs l, aC c, .sl 1 0 cI ss] (iv (pastC l c ss)) :=
  fn58 l _ _ _ c _ (by have := mins_pos g; rw [places_len]; omega) hs (fun i hi => by have := hr.in_ i hi; rw [places_len]; omega)
theorem mustC_srt (l : Log) (c : Clm) (g : Good l) : Srt (mins l) (mustC l c) := must_srt (by have := mins_pos g; omega)
end Go.Proofs.Ytgijpimjfoabjaa

/- Settle. -/
namespace Go.Proofs.Ytgijpimjfoabjaa
open Go Sy
set_option maxRecDepth 100000
set_option maxHeartbeats 4000000
set_option linter.unusedVariables false
set_option linter.unusedSimpArgs false
def shr (part v : Int) : Int := if v = 1 then 1000 else if v = 0 then part else 0
end Go.Proofs.Ytgijpimjfoabjaa

/- More of what the arguments of the laws hold. -/
namespace Go.Proofs.Ytgijpimjfoabjaa
open Go Sy
set_option maxRecDepth 100000
set_option linter.unusedVariables false
abbrev OCl (c : Clm) : Prop := I64 c.frm ∧ I64 c.to ∧ I64 c.kind ∧ I64 c.limit ∧ I64 c.begn ∧ I64 c.en ∧ I64 c.amount
theorem k27' : Codec Try.prog 27 cC OCl := k27
theorem b3 : Try.prog.bytesOf 3 = 8 := by kernel_rfl
end Go.Proofs.Ytgijpimjfoabjaa

/- Histories that fit, and the verdict: the plain law. -/
namespace Go.Proofs.Ytgijpimjfoabjaa
open Go Sy
set_option maxRecDepth 100000
set_option linter.unusedVariables false
/-- the spans at a minute -/
def plS (l : Log) (m : Nat) : Band := cplace l (t0 l + m)
def vlS (l : Log) (k m : Nat) : Band := cvalue l k (t0 l + m)
structure Fit (l : Log) (h : Hist) : Prop where
  np : h.pl.length = mins l
  nv : h.va.length = mins l
  pin : ∀ m, m < mins l → (plS l m).lo ≤ h.pl.getD m 0 ∧ h.pl.getD m 0 ≤ (plS l m).hi
  pup : ∀ m, m + 1 < mins l → h.pl.getD m 0 ≤ h.pl.getD (m + 1) 0
  vin : ∀ m k, m < mins l → k < 4 → (vlS l k m).lo ≤ at4 (h.va.getD m dV4) k ∧ at4 (h.va.getD m dV4) k ≤ (vlS l k m).hi
  vst : ∀ m k, m + 1 < mins l → k < 4 → at4 (h.va.getD m dV4) k - drift l k ≤ at4 (h.va.getD (m + 1) dV4) k ∧ at4 (h.va.getD (m + 1) dV4) k ≤ at4 (h.va.getD m dV4) k + drift l k
def Dam (l : Log) (c : Clm) (h : Hist) : Prop := ∃ k, k + 1 < mins l ∧ damB (t0 l) c c.kind.toNat h k = true
theorem pl_mono (l : Log) {i j : Nat} (h : i ≤ j) : (plS l i).lo ≤ (plS l j).lo ∧ (plS l i).hi ≤ (plS l j).hi := by
  unfold plS cplace
  exact ⟨pLo_mono (by omega) _ _ _ (Int.le_refl _), pHi_mono (by omega) _ _ _ (Int.le_refl _)⟩
theorem Fit.mono {l : Log} {h : Hist} (f : Fit l h) {i j : Nat} (hij : i ≤ j) (hj : j < mins l) : h.pl.getD i 0 ≤ h.pl.getD j 0 := by
  induction j with
  | zero => rw [show i = 0 by omega]; exact Int.le_refl _
  | succ j ih =>
    by_cases e : i = j + 1
    · rw [e]; exact Int.le_refl _
    · exact Int.le_trans (ih (by omega) (by omega)) (f.pup j hj)
theorem vlS_lo_ge {l : Log} (g : Good l) {k m : Nat} (hk : k < 4) (hm : m < mins l) {r : Reading} (hr : r ∈ l.rs) : (vals r k).lo - drift l k * away r (t0 l + m) ≤ (vlS l k m).lo := by
  unfold vlS
  rw [← value_eq g (by omega) (tn_mins g hm) hk]
  exact vLo_mem _ _ hr
theorem vlS_hi_le {l : Log} (g : Good l) {k m : Nat} (hk : k < 4) (hm : m < mins l) {r : Reading} (hr : r ∈ l.rs) : (vlS l k m).hi ≤ (vals r k).hi + drift l k * away r (t0 l + m) := by
  unfold vlS
  rw [← value_eq g (by omega) (tn_mins g hm) hk]
  exact vHi_mem _ _ hr
theorem rd0 {l : Log} (g : Good l) {k m : Nat} (hk : k < 4) (hm : m < mins l) : -1125899906842624 ≤ (vals (rd l 0) k).lo - drift l k * away (rd l 0) (t0 l + m) ∧ (vals (rd l 0) k).hi + drift l k * away (rd l 0) (t0 l + m) ≤ 1125899906842624 := by
  have h2 := g.n2
  have hb := okBand_iff.1 (g.vl 0 k (by omega) hk)
  have ha := away_bound g (m := m) (by omega) (tn_mins g hm) (i := 0) (by omega)
  have hd := g.dr k hk
  have hmul := mul_bound hd.1 hd.2 ha.1 ha.2
  omega
theorem vlS_lo_le {l : Log} (g : Good l) {k m : Nat} (hk : k < 4) (hm : m < mins l) {b : Int} (h : ∀ r ∈ l.rs, (vals r k).lo - drift l k * away r (t0 l + m) ≤ b) : (vlS l k m).lo ≤ b := by
  have h2 := g.n2
  have h0 := h (rd l 0) (mem_rd (by omega))
  have h1 := rd0 g hk hm
  unfold vlS
  rw [← value_eq g (by omega) (tn_mins g hm) hk]
  exact vLo_le _ _ (by omega) h
theorem vlS_hi_ge {l : Log} (g : Good l) {k m : Nat} (hk : k < 4) (hm : m < mins l) {b : Int} (h : ∀ r ∈ l.rs, b ≤ (vals r k).hi + drift l k * away r (t0 l + m)) : b ≤ (vlS l k m).hi := by
  have h2 := g.n2
  have h0 := h (rd l 0) (mem_rd (by omega))
  have h1 := rd0 g hk hm
  unfold vlS
  rw [← value_eq g (by omega) (tn_mins g hm) hk]
  exact vHi_ge _ _ (by omega) h
theorem away_step (r : Reading) (t : Int) : away r (t + 1) ≤ away r t + 1 ∧ away r t ≤ away r (t + 1) + 1 := by
  unfold away; omega
theorem mul_step {d a b : Int} (hd : 0 ≤ d) (h : a ≤ b + 1) : d * a ≤ d * b + d := by
  have := Int.mul_le_mul_of_nonneg_left h hd
  rw [Int.mul_add, Int.mul_one] at this
  exact this
theorem vlS_step {l : Log} (g : Good l) {k m : Nat} (hk : k < 4) (hm : m + 1 < mins l) :
    ((vlS l k m).lo - drift l k ≤ (vlS l k (m + 1)).lo ∧ (vlS l k (m + 1)).lo ≤ (vlS l k m).lo + drift l k) ∧ ((vlS l k m).hi - drift l k ≤ (vlS l k (m + 1)).hi ∧ (vlS l k (m + 1)).hi ≤ (vlS l k m).hi + drift l k) := by
  have hd := (g.dr k hk).1
  have e : t0 l + ((m + 1 : Nat) : Int) = t0 l + m + 1 := by omega
  refine ⟨⟨?_, ?_⟩, ?_, ?_⟩
  · have := vlS_lo_le g hk (show m < mins l by omega) (b := (vlS l k (m + 1)).lo + drift l k) (fun r hr => by
      have h1 := vlS_lo_ge g hk hm hr
      rw [e] at h1
      have h2 := mul_step hd (away_step r (t0 l + m)).1
      omega)
    omega
  · exact vlS_lo_le g hk hm (fun r hr => by
      have h1 := vlS_lo_ge g hk (show m < mins l by omega) hr
      rw [e]
      have h2 := mul_step hd (away_step r (t0 l + m)).2
      omega)
  · have := vlS_hi_ge g hk hm (b := (vlS l k m).hi - drift l k) (fun r hr => by
      have h1 := vlS_hi_le g hk (show m < mins l by omega) hr
      rw [e]
      have h2 := mul_step hd (away_step r (t0 l + m)).2
      omega)
    omega
  · have := vlS_hi_ge g hk (show m < mins l by omega) (b := (vlS l k (m + 1)).hi - drift l k) (fun r hr => by
      have h1 := vlS_hi_le g hk hm hr
      rw [e] at h1
      have h2 := mul_step hd (away_step r (t0 l + m)).1
      omega)
    omega
/-- in a valid log no span is empty -/
theorem spans_ok {l : Log} (h : cchk l = 0) {m : Nat} (hm : m < mins l) : (plS l m).lo ≤ (plS l m).hi ∧ ∀ k, k < 4 → (vlS l k m).lo ≤ (vlS l k m).hi := by
  obtain ⟨g, h1, h2⟩ := good_of_cchk h
  refine ⟨?_, fun k hk => ?_⟩
  · exact of_decide_eq_true (all_range.1 h1 m hm)
  · exact of_decide_eq_true (all_range.1 (h2 k hk) m hm)
/-- the histories that the program builds -/
def vEnd (l : Log) (high : Bool) (m : Nat) : V4 := ⟨if high then (vlS l 0 m).hi else (vlS l 0 m).lo, if high then (vlS l 1 m).hi else (vlS l 1 m).lo, if high then (vlS l 2 m).hi else (vlS l 2 m).lo, if high then (vlS l 3 m).hi else (vlS l 3 m).lo⟩
def trace (l : Log) (f : Nat → Int) (high : Bool) : Hist := ⟨(List.range (mins l)).map f, (List.range (mins l)).map (vEnd l high)⟩
def leapF (l : Log) (frm : Int) (to : Int) (m : Nat) : Int := if (m : Int) < frm then (plS l m).lo else max (plS l m).lo to
theorem at4_vEnd (l : Log) (high : Bool) (m : Nat) {k : Nat} (hk : k < 4) : at4 (vEnd l high m) k = if high then (vlS l k m).hi else (vlS l k m).lo := by
  rcases k with _ | _ | _ | _ | k <;> first | rfl | omega
theorem range_map_get {α : Type} (d : α) (f : Nat → α) {n i : Nat} (h : i < n) : ((List.range n).map f).getD i d = f i := by
  simp [List.getD, h]
theorem trace_fit {l : Log} (hc : cchk l = 0) (f : Nat → Int) (high : Bool) (hin : ∀ m, m < mins l → (plS l m).lo ≤ f m ∧ f m ≤ (plS l m).hi) (hup : ∀ m, m + 1 < mins l → f m ≤ f (m + 1)) : Fit l (trace l f high) := by
  have g := (good_of_cchk hc).1
  refine ⟨by simp [trace], by simp [trace], fun m hm => ?_, fun m hm => ?_, fun m k hm hk => ?_, fun m k hm hk => ?_⟩
  · rw [show (trace l f high).pl.getD m 0 = f m from range_map_get 0 f hm]; exact hin m hm
  · rw [show (trace l f high).pl.getD m 0 = f m from range_map_get 0 f (by omega), show (trace l f high).pl.getD (m + 1) 0 = f (m + 1) from range_map_get 0 f hm]; exact hup m hm
  · rw [show (trace l f high).va.getD m dV4 = vEnd l high m from range_map_get dV4 _ hm, at4_vEnd l high m hk]
    have := (spans_ok hc hm).2 k hk
    split <;> omega
  · rw [show (trace l f high).va.getD m dV4 = vEnd l high m from range_map_get dV4 _ (by omega), show (trace l f high).va.getD (m + 1) dV4 = vEnd l high (m + 1) from range_map_get dV4 _ hm, at4_vEnd l high m hk, at4_vEnd l high (m + 1) hk]
    have := vlS_step g hk hm
    split <;> omega
theorem leap_fit {l : Log} (hc : cchk l = 0) {frm to : Int} (high : Bool) (h : ∀ m : Nat, m < mins l → frm ≤ m → to ≤ (plS l m).hi) : Fit l (trace l (leapF l frm to) high) :=
  trace_fit hc _ high (fun m hm => by
    have h1 := (spans_ok hc hm).1
    have h2 := h m hm
    unfold leapF; split <;> omega) (fun m hm => by
    have h1 := (pl_mono l (show m ≤ m + 1 by omega)).1
    unfold leapF; split <;> split <;> omega)
theorem damB_iff {l : Log} {c : Clm} {h : Hist} {k : Nat} : damB (t0 l) c c.kind.toNat h k = true ↔ inC (t0 l) c k = true ∧ h.pl.getD k 0 ≤ c.to ∧ c.frm ≤ h.pl.getD (k + 1) 0 ∧ c.limit < max (at4 (h.va.getD k dV4) c.kind.toNat) (at4 (h.va.getD (k + 1) dV4) c.kind.toNat) := by
  simp only [damB, Bool.and_eq_true, decide_eq_true_eq, and_assoc]
theorem mustC_mem {l : Log} {c : Clm} {x : Int} : x ∈ mustC l c ↔ ∃ k : Nat, k + 1 < mins l ∧ x = k ∧ inC (t0 l) c k = true ∧ c.limit < max (vlS l c.kind.toNat k).lo (vlS l c.kind.toNat (k + 1)).lo := by
  unfold mustC
  rw [must_mem]
  constructor
  · rintro ⟨k, h1, h2, h3⟩
    have h4 : k + 1 < mins l := by omega
    simp only [mustB, Bool.and_eq_true, decide_eq_true_eq, values_get h4, values_get (show k < mins l by omega)] at h3
    exact ⟨k, h4, h2, h3⟩
  · rintro ⟨k, h1, h2, h3⟩
    refine ⟨k, by omega, h2, ?_⟩
    simp only [mustB, Bool.and_eq_true, decide_eq_true_eq, values_get h1, values_get (show k < mins l by omega)]
    exact h3
/-- where a convoy comes to a place -/
theorem turn_at {P : Nat → Int} {b : Int} : ∀ (n : Nat), (∀ i j, i ≤ j → j < n → P i ≤ P j) → ∃ q : Int, q < n ∧ (∀ m : Nat, m < n → (m : Int) ≤ q → P m < b) ∧ (∀ m : Nat, m < n → q < m → b ≤ P m)
  | 0, _ => ⟨-1, by omega, fun m hm => by omega, fun m hm => by omega⟩
  | n + 1, hP => by
    by_cases h : P n < b
    · exact ⟨n, by omega, fun m hm _ => by have := hP m n (by omega) (by omega); omega, fun m hm _ => by omega⟩
    · obtain ⟨q, h1, h2, h3⟩ := turn_at n (fun i j hij hj => hP i j hij (by omega))
      refine ⟨q, by omega, fun m hm hq => h2 m (by omega) hq, fun m hm hq => ?_⟩
      by_cases e : m = n
      · rw [e]; omega
      · exact h3 m (by omega) hq
/-- what fits and does not damage shows a way past -/
theorem way_of_fit {l : Log} {c : Clm} {h : Hist} {ss : List Int} (f : Fit l h) (hft : c.frm ≤ c.to) (hkd : c.kind.toNat < 4) (hs : ∀ x ∈ ss, x ∈ mustC l c) (hd : ¬ Dam l c h) : Way (places l (mins l)) c ss := by
  obtain ⟨q, h1, h2, h3⟩ := turn_at (P := fun m => h.pl.getD m 0) (b := c.frm) (mins l) (fun i j hij hj => f.mono hij hj)
  refine ⟨q, fun x hx => ?_⟩
  obtain ⟨k, k1, rfl, k2, k3⟩ := mustC_mem.1 (hs x hx)
  have hnd : ¬ (h.pl.getD k 0 ≤ c.to ∧ c.frm ≤ h.pl.getD (k + 1) 0) := fun ⟨a, b⟩ => hd ⟨k, k1, damB_iff.2 ⟨k2, a, b, by
    have v1 := f.vin k c.kind.toNat (by omega) hkd
    have v2 := f.vin (k + 1) c.kind.toNat k1 hkd
    omega⟩⟩
  have p1 := f.pin k (by omega)
  have p2 := f.pin (k + 1) k1
  have e1 : ((k : Int) + 1).toNat = k + 1 := by omega
  have e2 : ((k : Nat) : Int).toNat = k := by omega
  rw [e1, e2, places_get k1, places_get (show k < mins l by omega)]
  change _ ∧ (_ → (plS l (k + 1)).lo < _) ∧ (_ → _ < (plS l k).hi)
  refine ⟨fun e => ?_, fun hlt => ?_, fun hlt => ?_⟩
  · have a := h2 k (by omega) (by omega)
    have b := h3 (k + 1) k1 (by omega)
    omega
  · have a := h2 (k + 1) k1 (by omega)
    omega
  · have b := h3 (k + 1) k1 (by omega)
    omega
theorem least {p : Nat → Bool} : ∀ {n : Nat}, (∃ j, j < n ∧ p j = true) → ∃ i, i < n ∧ p i = true ∧ ∀ j, j < i → p j = false
  | 0, ⟨j, h, _⟩ => by omega
  | n + 1, ⟨j, h1, h2⟩ => by
    by_cases h : ∃ j, j < n ∧ p j = true
    · obtain ⟨i, a, b, c⟩ := least h
      exact ⟨i, by omega, b, c⟩
    · have hno : ∀ j, j < n → p j = false := fun j hj => by
        cases e : p j with
        | false => rfl
        | true => exact absurd ⟨j, hj, e⟩ h
      have : j = n := by
        rcases Nat.lt_or_ge j n with q | q
        · exact absurd ⟨j, q, h2⟩ h
        · omega
      subst this
      exact ⟨j, h1, h2, hno⟩
theorem idxF_spec {p : Nat → Bool} {n : Nat} (h : 0 ≤ idxF p (List.range n) 0) : (idxF p (List.range n) 0).toNat < n ∧ p (idxF p (List.range n) 0).toNat = true := by
  by_cases hx : ∃ j, j < n ∧ p j = true
  · obtain ⟨i, a, b, c⟩ := least hx
    rw [idxF_range a c b]
    exact ⟨by omega, by rw [show ((i : Nat) : Int).toNat = i by omega]; exact b⟩
  · rw [idxF_range_no (fun j hj => by
      cases e : p j with
      | false => rfl
      | true => exact absurd ⟨j, hj, e⟩ hx)] at h
    omega
theorem kd_lt {c : Clm} (ok : OkC c) : c.kind.toNat < 4 := by have := ok.k; omega
/-- whatever steps are accepted as a proof, each history that fits damages -/
theorem dam_of_past {l : Log} {c : Clm} {h : Hist} {ss : List Int} (hc : cchk l = 0) (ok : OkC c) (hs : ∀ x ∈ ss, x ∈ mustC l c) (hsr : Srt (mins l) ss) (hp : pastC l c ss < 0) (f : Fit l h) : Dam l c h := by
  refine Classical.byContradiction fun hd => ?_
  have hw := way_of_fit f ok.ft (kd_lt ok) hs hd
  have := (past_way (ps := places l (mins l)) (c := c) (ss := ss) (places_mono l _) (by rw [places_len]; exact hsr)).2 hw
  unfold pastC at hp
  omega
theorem dam_of_proven {l : Log} {c : Clm} {h : Hist} (hc : cchk l = 0) (ok : OkC c) (hv : verR l c = 1) (f : Fit l h) : Dam l c h :=
  dam_of_past hc ok (fun x hx => hx) (mustC_srt l c (good_of_cchk hc).1) ((verR_one l c).1 hv) f
/-- the history that does not damage -/
noncomputable def woF (l : Log) (c : Clm) : Int := if pastC l c (mustC l c) < (mustC l c).length then (mustC l c).getD (pastC l c (mustC l c)).toNat 0 else mins l
theorem without_fit {l : Log} {c : Clm} (hc : cchk l = 0) (ok : OkC c) (hv : ¬ verR l c = 1) : Fit l (trace l (leapF l (woF l c) (c.to + 1)) false) ∧ ¬ Dam l c (trace l (leapF l (woF l c) (c.to + 1)) false) := by
  have g := (good_of_cchk hc).1
  have hp : 0 ≤ pastC l c (mustC l c) := by
    rw [verR_one] at hv; omega
  have hsr := mustC_srt l c g
  have hft := ok.ft
  have hkd := kd_lt ok
  have hms := fun x => @mustC_mem l c x
  unfold woF
  generalize mustC l c = ss at *
  obtain ⟨h1, h2⟩ := idxF_spec (p := okAt (places l (mins l)) c ss) (n := ss.length + 1) hp
  change (pastC l c ss).toNat < _ at h1
  change okAt _ _ _ (pastC l c ss).toNat = true at h2
  obtain ⟨i, hi⟩ : ∃ i : Nat, pastC l c ss = i := ⟨(pastC l c ss).toNat, by omega⟩
  rw [hi] at h1 h2 ⊢
  rw [show ((i : Nat) : Int).toNat = i by omega] at h1 h2 ⊢
  simp only [okAt, ahead, behind, apart, Bool.and_eq_true, Bool.or_eq_true, beq_iff_eq, decide_eq_true_eq] at h2
  obtain ⟨⟨ha, hb⟩, hx⟩ := h2
  have hin := hsr.in_
  have hst : ∀ j, j < i → ss.getD j 0 ≤ ss.getD (i - 1) 0 := fun j hj => by
    by_cases e : j = i - 1
    · rw [e]; exact Int.le_refl _
    · have := hsr.inc j (i - 1) (by omega) (by omega); omega
  have hst2 : ∀ j, i ≤ j → j < ss.length → ss.getD i 0 ≤ ss.getD j 0 := fun j hj hj2 => by
    by_cases e : j = i
    · rw [e]; exact Int.le_refl _
    · have := hsr.inc i j (by omega) hj2; omega
  generalize hF : (if ((i : Nat) : Int) < ss.length then ss.getD i 0 else (mins l : Int)) = F
  have hF1 : i < ss.length → F = ss.getD i 0 := fun q => by rw [← hF, if_pos (by omega)]
  have hF2 : ¬ i < ss.length → F = mins l := fun q => by rw [← hF, if_neg (by omega)]
  have hfit : Fit l (trace l (leapF l F (c.to + 1)) false) := leap_fit hc false fun m hm hFm => by
    by_cases q : i < ss.length
    · have e := hF1 q
      have hi2 := hin i q
      have hb2 : c.to < ((places l (mins l)).getD (ss.getD i 0).toNat dB).hi := by
        rcases hb with h | h
        · omega
        · exact h
      rw [places_get (by omega)] at hb2
      have := (pl_mono l (show (ss.getD i 0).toNat ≤ m by omega)).2
      change c.to < (plS l (ss.getD i 0).toNat).hi at hb2
      omega
    · have e := hF2 q
      omega
  refine ⟨hfit, fun ⟨k, k1, k2⟩ => ?_⟩
  obtain ⟨q1, q2, q3, q4⟩ := damB_iff.1 k2
  rw [show (trace l (leapF l F (c.to + 1)) false).pl.getD k 0 = leapF l F (c.to + 1) k from range_map_get 0 _ (by omega)] at q2
  rw [show (trace l (leapF l F (c.to + 1)) false).pl.getD (k + 1) 0 = leapF l F (c.to + 1) (k + 1) from range_map_get 0 _ k1] at q3
  rw [show (trace l (leapF l F (c.to + 1)) false).va.getD k dV4 = vEnd l false k from range_map_get dV4 _ (by omega), show (trace l (leapF l F (c.to + 1)) false).va.getD (k + 1) dV4 = vEnd l false (k + 1) from range_map_get dV4 _ k1, at4_vEnd _ _ _ hkd, at4_vEnd _ _ _ hkd] at q4
  have hm : (k : Int) ∈ ss := (hms k).2 ⟨k, k1, rfl, q1, q4⟩
  obtain ⟨j, hj, ej⟩ := mem_getD hm
  by_cases q : j < i
  · have h5 := hst j q
    have ha2 : ((places l (mins l)).getD (ss.getD (i - 1) 0 + 1).toNat dB).lo < c.frm := by
      rcases ha with h | h
      · omega
      · exact h
    have h6 := hin (i - 1) (by omega)
    rw [places_get (by omega)] at ha2
    change (plS l (ss.getD (i - 1) 0 + 1).toNat).lo < c.frm at ha2
    have h7 := (pl_mono l (show k + 1 ≤ (ss.getD (i - 1) 0 + 1).toNat by omega)).1
    have h8 : ((k + 1 : Nat) : Int) < F := by
      by_cases z : i < ss.length
      · rw [hF1 z]
        rcases hx with h | h
        · omega
        · omega
      · rw [hF2 z]; omega
    unfold leapF at q3
    rw [if_pos h8] at q3
    omega
  · have h5 := hst2 j (by omega) hj
    rw [← hF1 (by omega)] at h5
    unfold leapF at q2
    rw [if_neg (by omega)] at q2
    omega
/-- the history that damages -/
noncomputable def canC (l : Log) (c : Clm) : Int := canF (t0 l) c (places l (mins l)) (values l c.kind.toNat (mins l))
theorem canB_iff {l : Log} {c : Clm} {k : Nat} (hk : k + 1 < mins l) : canB (t0 l) c (places l (mins l)) (values l c.kind.toNat (mins l)) k = true ↔ inC (t0 l) c k = true ∧ c.limit < max (vlS l c.kind.toNat k).hi (vlS l c.kind.toNat (k + 1)).hi ∧ (plS l k).lo ≤ c.to ∧ c.frm ≤ (plS l (k + 1)).hi := by
  simp only [canB, Bool.and_eq_true, decide_eq_true_eq, places_get hk, places_get (show k < mins l by omega), values_get hk, values_get (show k < mins l by omega), and_assoc]
  rfl
theorem with_fit {l : Log} {c : Clm} (hc : cchk l = 0) (ok : OkC c) (hv : 0 ≤ canC l c) : Fit l (trace l (leapF l (canC l c + 1) c.frm) true) ∧ Dam l c (trace l (leapF l (canC l c + 1) c.frm) true) := by
  have g := (good_of_cchk hc).1
  have hkd := kd_lt ok
  obtain ⟨h1, h2⟩ := idxF_spec (p := canB (t0 l) c (places l (mins l)) (values l c.kind.toNat (mins l))) (n := (places l (mins l)).length - 1) hv
  change (canC l c).toNat < _ at h1
  change canB _ _ _ _ (canC l c).toNat = true at h2
  obtain ⟨k, hk⟩ : ∃ k : Nat, canC l c = k := ⟨(canC l c).toNat, by omega⟩
  rw [hk] at h1 h2 ⊢
  rw [show ((k : Nat) : Int).toNat = k by omega] at h1 h2
  rw [places_len] at h1
  have k1 : k + 1 < mins l := by omega
  obtain ⟨q1, q2, q3, q4⟩ := (canB_iff k1).1 h2
  refine ⟨leap_fit hc true fun m hm hF => ?_, k, k1, damB_iff.2 ⟨q1, ?_, ?_, ?_⟩⟩
  · have := (pl_mono l (show k + 1 ≤ m by omega)).2
    omega
  · rw [show (trace l (leapF l (k + 1) c.frm) true).pl.getD k 0 = leapF l (k + 1) c.frm k from range_map_get 0 _ (by omega)]
    unfold leapF; rw [if_pos (by omega)]; exact q3
  · rw [show (trace l (leapF l (k + 1) c.frm) true).pl.getD (k + 1) 0 = leapF l (k + 1) c.frm (k + 1) from range_map_get 0 _ k1]
    unfold leapF; rw [if_neg (by omega)]; omega
  · rw [show (trace l (leapF l (k + 1) c.frm) true).va.getD k dV4 = vEnd l true k from range_map_get dV4 _ (by omega), show (trace l (leapF l (k + 1) c.frm) true).va.getD (k + 1) dV4 = vEnd l true (k + 1) from range_map_get dV4 _ k1, at4_vEnd _ _ _ hkd, at4_vEnd _ _ _ hkd]
    exact q2
theorem no_dam {l : Log} {c : Clm} {h : Hist} (ok : OkC c) (hv : canC l c < 0) (f : Fit l h) : ¬ Dam l c h := fun ⟨k, k1, k2⟩ => by
  obtain ⟨q1, q2, q3, q4⟩ := damB_iff.1 k2
  have hkd := kd_lt ok
  have p1 := f.pin k (by omega)
  have p2 := f.pin (k + 1) k1
  have v1 := f.vin k c.kind.toNat (by omega) hkd
  have v2 := f.vin (k + 1) c.kind.toNat k1 hkd
  have hb : canB (t0 l) c (places l (mins l)) (values l c.kind.toNat (mins l)) k = true := (canB_iff k1).2 ⟨q1, by omega, by omega, by omega⟩
  have := (can_iff (st := t0 l) (c := c) (ps := places l (mins l)) (v := values l c.kind.toNat (mins l))).2 ⟨k, by rw [places_len]; exact k1, hb⟩
  unfold canC at hv
  omega
theorem low_fit {l : Log} (hc : cchk l = 0) : Fit l (trace l (fun m => (plS l m).lo) false) :=
  trace_fit hc _ false (fun m hm => ⟨Int.le_refl _, (spans_ok hc hm).1⟩) (fun m hm => (pl_mono l (by omega)).1)
theorem verR_two (l : Log) (c : Clm) : verR l c = 2 ↔ ¬ verR l c = 1 ∧ canC l c < 0 := by
  unfold verR verF canC
  rw [places_len]
  split
  · simp
  · split
    · simp [*]
    · simp [*]
/-- what the verdicts say -/
theorem proven_iff {l : Log} {c : Clm} (hc : cchk l = 0) (ok : OkC c) : verR l c = 1 ↔ ∀ h, Fit l h → Dam l c h := by
  constructor
  · exact fun hv h f => dam_of_proven hc ok hv f
  · intro h
    refine Classical.byContradiction fun hv => ?_
    have := without_fit hc ok hv
    exact this.2 (h _ this.1)
theorem excluded_iff {l : Log} {c : Clm} (hc : cchk l = 0) (ok : OkC c) : verR l c = 2 ↔ ∀ h, Fit l h → ¬ Dam l c h := by
  rw [verR_two]
  constructor
  · exact fun hv h f => no_dam ok hv.2 f
  · intro h
    refine ⟨fun hv => h _ (low_fit hc) ((proven_iff hc ok).1 hv _ (low_fit hc)), ?_⟩
    refine Int.not_le.1 fun hv => ?_
    have := with_fit hc ok hv
    exact h _ this.1 this.2
end Go.Proofs.Ytgijpimjfoabjaa

/- Small functions of the laws; the program's Spans and Damages. -/
namespace Go.Proofs.Ytgijpimjfoabjaa
open Go Sy
set_option maxRecDepth 100000
set_option maxHeartbeats 4000000
set_option linter.unusedVariables false
set_option linter.unusedSimpArgs false
abbrev u8v (n : Int) : AV := .v (.int .u8 n)
def cU (n : Int) : List AV := [u8v n]
theorem nU (n : Int) : nth (cU n) 0 = u8v n := rfl
theorem lU (n : Int) : (cU n).length = 1 := rfl
attribute [push_cast] nU lU
theorem wrapU8 (n : Int) (h : 0 ≤ n ∧ n ≤ 255) : IntKind.wrap .i64 n = n := wrap64 ⟨by omega, by omega⟩
def partF (b : Band) (p : Int) : Int := b.lo + ((b.hi - b.lo) * p).tdiv 255
theorem part_in {b : Band} {p : Int} (hb : b.lo ≤ b.hi) (hp : 0 ≤ p ∧ p ≤ 255) : b.lo ≤ partF b p ∧ partF b p ≤ b.hi := by
  unfold partF
  have h1 := Int.mul_nonneg (show 0 ≤ b.hi - b.lo by omega) hp.1
  have h2 := Int.mul_le_mul_of_nonneg_left hp.2 (show 0 ≤ b.hi - b.lo by omega)
  rw [Int.tdiv_eq_ediv_of_nonneg h1]
  omega
theorem fn41 (b : Band) (p : Int) (hb : b.lo ≤ b.hi) (h1 : -1125899906842624 ≤ b.lo) (h2 : b.hi ≤ 1125899906842624) (hp : 0 ≤ p ∧ p ≤ 255) : Sy.Fn Try.prog 41 [.agg (cBand b), u8v p] (iv (partF b p)) := by
  refine Fn_of_W mixed Xt41 rfl ?_
  have h3 := Int.mul_nonneg (show 0 ≤ b.hi - b.lo by omega) hp.1
  have h4 := Int.mul_le_mul_of_nonneg_left hp.2 (show 0 ≤ b.hi - b.lo by omega)
  have h5 := part_in hb hp
  unfold partF at h5
  rw [Int.tdiv_eq_ediv_of_nonneg h3] at h5
  have h6 := Int.tdiv_eq_ediv_of_nonneg h3 (b := 255)
  repeat' (first | refine WK_go ?_ | refine W_seqL ?_ | refine W_seq ?_ | (refine W_regL ?_; simp (maxSteps := 400000) (disch := omega) only [push_cast, ↓reduceIte, reduceCtorEq, Nat.reduceAdd, Nat.reduceSub, Nat.reduceEqDiff, Nat.reduceLeDiff, Nat.reduceLT, Nat.reduceBEq, Nat.reduceDiv, Nat.reduceMod, Nat.reducePow, Nat.reduceMul, Int.reduceToNat, Int.reduceLT, Int.reduceLE, wrapU8 p hp]) | refine W_block ?_ | (refine W_skip ?_; simp (maxSteps := 400000) (disch := omega) only [push_cast, ↓reduceIte, reduceCtorEq, Nat.reduceAdd, Nat.reduceSub, Nat.reduceEqDiff, Nat.reduceLeDiff, Nat.reduceLT, Nat.reduceBEq, Nat.reduceDiv, Nat.reduceMod, Nat.reducePow, Nat.reduceMul, Int.reduceToNat, Int.reduceLT, Int.reduceLE, wrapU8 p hp]) | (refine W_exit ?_; simp (maxSteps := 400000) (disch := omega) only [push_cast, ↓reduceIte, reduceCtorEq, Nat.reduceAdd, Nat.reduceSub, Nat.reduceEqDiff, Nat.reduceLeDiff, Nat.reduceLT, Nat.reduceBEq, Nat.reduceDiv, Nat.reduceMod, Nat.reducePow, Nat.reduceMul, Int.reduceToNat, Int.reduceLT, Int.reduceLE, wrapU8 p hp]) | refine And.intro (by omega) ?_ | refine And.intro (by intro hq; (try simp only [Bool.and_eq_true, Bool.or_eq_true, Bool.and_eq_false_iff, Bool.or_eq_false_iff, decide_eq_true_eq, decide_eq_false_iff_not, Bool.not_eq_true', Bool.not_eq_false', beq_iff_eq, beq_eq_false_iff_ne, ne_eq] at hq); omega) ?_ | fail)
  exact W_ret ⟨[_], ⟨rfl, rfl⟩, rfl⟩
def pickF (ps : List Int) (i : Int) : Int := if i < ps.length then ps.getD i.toNat 0 else 0
theorem fn42 (ps : List Int) (i : Int) (hi : 0 ≤ i) : Sy.Fn Try.prog 42 [.sl 1 0 cU ps, iv i] (u8v (pickF ps i)) := by
  refine Fn_of_W mixed Xt42 rfl ?_
  unfold pickF
  repeat' (first | refine WK_go ?_ | refine W_seqL ?_ | refine W_seq ?_ | (refine W_regL ?_; simp (maxSteps := 400000) (disch := omega) only [push_cast, ↓reduceIte, reduceCtorEq, Nat.reduceAdd, Nat.reduceSub, Nat.reduceEqDiff, Nat.reduceLeDiff, Nat.reduceLT, Nat.reduceBEq, Nat.reduceDiv, Nat.reduceMod, Nat.reducePow, Nat.reduceMul, Int.reduceToNat, Int.reduceLT, Int.reduceLE]) | refine W_block ?_ | (refine W_skip ?_; simp (maxSteps := 400000) (disch := omega) only [push_cast, ↓reduceIte, reduceCtorEq, Nat.reduceAdd, Nat.reduceSub, Nat.reduceEqDiff, Nat.reduceLeDiff, Nat.reduceLT, Nat.reduceBEq, Nat.reduceDiv, Nat.reduceMod, Nat.reducePow, Nat.reduceMul, Int.reduceToNat, Int.reduceLT, Int.reduceLE]) | (refine W_exit ?_; simp (maxSteps := 400000) (disch := omega) only [push_cast, ↓reduceIte, reduceCtorEq, Nat.reduceAdd, Nat.reduceSub, Nat.reduceEqDiff, Nat.reduceLeDiff, Nat.reduceLT, Nat.reduceBEq, Nat.reduceDiv, Nat.reduceMod, Nat.reducePow, Nat.reduceMul, Int.reduceToNat, Int.reduceLT, Int.reduceLE]) | refine And.intro (by omega) ?_ | refine And.intro (by intro hq; (try simp only [Bool.and_eq_true, Bool.or_eq_true, Bool.and_eq_false_iff, Bool.or_eq_false_iff, decide_eq_true_eq, decide_eq_false_iff_not, Bool.not_eq_true', Bool.not_eq_false', beq_iff_eq, beq_eq_false_iff_ne, ne_eq] at hq); omega) ?_ | fail)
  refine W_condD (by rfl) (fun h => ?_) (fun h => ?_)
  · repeat' (first | refine WK_go ?_ | refine W_seqL ?_ | refine W_seq ?_ | (refine W_regL ?_; simp (maxSteps := 400000) (disch := omega) only [push_cast, ↓reduceIte, reduceCtorEq, Nat.reduceAdd, Nat.reduceSub, Nat.reduceEqDiff, Nat.reduceLeDiff, Nat.reduceLT, Nat.reduceBEq, Nat.reduceDiv, Nat.reduceMod, Nat.reducePow, Nat.reduceMul, Int.reduceToNat, Int.reduceLT, Int.reduceLE]) | refine W_block ?_ | (refine W_skip ?_; simp (maxSteps := 400000) (disch := omega) only [push_cast, ↓reduceIte, reduceCtorEq, Nat.reduceAdd, Nat.reduceSub, Nat.reduceEqDiff, Nat.reduceLeDiff, Nat.reduceLT, Nat.reduceBEq, Nat.reduceDiv, Nat.reduceMod, Nat.reducePow, Nat.reduceMul, Int.reduceToNat, Int.reduceLT, Int.reduceLE]) | (refine W_exit ?_; simp (maxSteps := 400000) (disch := omega) only [push_cast, ↓reduceIte, reduceCtorEq, Nat.reduceAdd, Nat.reduceSub, Nat.reduceEqDiff, Nat.reduceLeDiff, Nat.reduceLT, Nat.reduceBEq, Nat.reduceDiv, Nat.reduceMod, Nat.reducePow, Nat.reduceMul, Int.reduceToNat, Int.reduceLT, Int.reduceLE]) | refine And.intro (by omega) ?_ | refine And.intro (by intro hq; (try simp only [Bool.and_eq_true, Bool.or_eq_true, Bool.and_eq_false_iff, Bool.or_eq_false_iff, decide_eq_true_eq, decide_eq_false_iff_not, Bool.not_eq_true', Bool.not_eq_false', beq_iff_eq, beq_eq_false_iff_ne, ne_eq] at hq); omega) ?_ | fail)
    exact W_ret ⟨[_], ⟨rfl, rfl⟩, by rw [if_pos h]; rfl⟩
  · repeat' (first | refine WK_go ?_ | refine W_seqL ?_ | refine W_seq ?_ | (refine W_regL ?_; simp (maxSteps := 400000) (disch := omega) only [push_cast, ↓reduceIte, reduceCtorEq, Nat.reduceAdd, Nat.reduceSub, Nat.reduceEqDiff, Nat.reduceLeDiff, Nat.reduceLT, Nat.reduceBEq, Nat.reduceDiv, Nat.reduceMod, Nat.reducePow, Nat.reduceMul, Int.reduceToNat, Int.reduceLT, Int.reduceLE]) | refine W_block ?_ | (refine W_skip ?_; simp (maxSteps := 400000) (disch := omega) only [push_cast, ↓reduceIte, reduceCtorEq, Nat.reduceAdd, Nat.reduceSub, Nat.reduceEqDiff, Nat.reduceLeDiff, Nat.reduceLT, Nat.reduceBEq, Nat.reduceDiv, Nat.reduceMod, Nat.reducePow, Nat.reduceMul, Int.reduceToNat, Int.reduceLT, Int.reduceLE]) | (refine W_exit ?_; simp (maxSteps := 400000) (disch := omega) only [push_cast, ↓reduceIte, reduceCtorEq, Nat.reduceAdd, Nat.reduceSub, Nat.reduceEqDiff, Nat.reduceLeDiff, Nat.reduceLT, Nat.reduceBEq, Nat.reduceDiv, Nat.reduceMod, Nat.reducePow, Nat.reduceMul, Int.reduceToNat, Int.reduceLT, Int.reduceLE]) | refine And.intro (by omega) ?_ | refine And.intro (by intro hq; (try simp only [Bool.and_eq_true, Bool.or_eq_true, Bool.and_eq_false_iff, Bool.or_eq_false_iff, decide_eq_true_eq, decide_eq_false_iff_not, Bool.not_eq_true', Bool.not_eq_false', beq_iff_eq, beq_eq_false_iff_ne, ne_eq] at hq); omega) ?_ | fail)
    exact W_ret ⟨[_], ⟨rfl, rfl⟩, by rw [if_neg h]; rfl⟩
/-- Minutes of the reference -/
theorem fn30 (l : Log) (h3 : l.rs.length ≤ 1000000) : Sy.Fn Try.prog 30 [aLog l] (.tup [iv (if cchk l = 0 then mins l else 0), iv (cchk l)]) := by
  refine Fn_of_W mixed Xt30 rfl ?_
  have c21 := fn21 l h3
  rw [← chk_eq] at c21
  repeat' (first | refine WK_go ?_ | refine W_seqL ?_ | refine W_seq ?_ | (refine W_regL ?_; simp (maxSteps := 400000) (disch := omega) only [push_cast, ↓reduceIte, reduceCtorEq, Nat.reduceAdd, Nat.reduceSub, Nat.reduceEqDiff, Nat.reduceLeDiff, Nat.reduceLT, Nat.reduceBEq, Nat.reduceDiv, Nat.reduceMod, Nat.reducePow, Nat.reduceMul, Int.reduceToNat, Int.reduceLT, Int.reduceLE]) | refine W_block ?_ | (refine W_skip ?_; simp (maxSteps := 400000) (disch := omega) only [push_cast, ↓reduceIte, reduceCtorEq, Nat.reduceAdd, Nat.reduceSub, Nat.reduceEqDiff, Nat.reduceLeDiff, Nat.reduceLT, Nat.reduceBEq, Nat.reduceDiv, Nat.reduceMod, Nat.reducePow, Nat.reduceMul, Int.reduceToNat, Int.reduceLT, Int.reduceLE]) | (refine W_exit ?_; simp (maxSteps := 400000) (disch := omega) only [push_cast, ↓reduceIte, reduceCtorEq, Nat.reduceAdd, Nat.reduceSub, Nat.reduceEqDiff, Nat.reduceLeDiff, Nat.reduceLT, Nat.reduceBEq, Nat.reduceDiv, Nat.reduceMod, Nat.reducePow, Nat.reduceMul, Int.reduceToNat, Int.reduceLT, Int.reduceLE]) | refine And.intro (by omega) ?_ | refine And.intro (by intro hq; (try simp only [Bool.and_eq_true, Bool.or_eq_true, Bool.and_eq_false_iff, Bool.or_eq_false_iff, decide_eq_true_eq, decide_eq_false_iff_not, Bool.not_eq_true', Bool.not_eq_false', beq_iff_eq, beq_eq_false_iff_ne, ne_eq] at hq); omega) ?_ | (refine CallC.now (c21) ?_; simp (maxSteps := 400000) (disch := omega) only [push_cast, ↓reduceIte, reduceCtorEq, Nat.reduceAdd, Nat.reduceSub, Nat.reduceEqDiff, Nat.reduceLeDiff, Nat.reduceLT, Nat.reduceBEq, Nat.reduceDiv, Nat.reduceMod, Nat.reducePow, Nat.reduceMul, Int.reduceToNat, Int.reduceLT, Int.reduceLE]) | fail)
  refine W_cond (by rfl) (fun h1 => ?_) (fun h1 => ?_)
  · repeat' (first | refine WK_go ?_ | refine W_seqL ?_ | refine W_seq ?_ | (refine W_regL ?_; simp (maxSteps := 400000) (disch := omega) only [push_cast, ↓reduceIte, reduceCtorEq, Nat.reduceAdd, Nat.reduceSub, Nat.reduceEqDiff, Nat.reduceLeDiff, Nat.reduceLT, Nat.reduceBEq, Nat.reduceDiv, Nat.reduceMod, Nat.reducePow, Nat.reduceMul, Int.reduceToNat, Int.reduceLT, Int.reduceLE]) | refine W_block ?_ | (refine W_skip ?_; simp (maxSteps := 400000) (disch := omega) only [push_cast, ↓reduceIte, reduceCtorEq, Nat.reduceAdd, Nat.reduceSub, Nat.reduceEqDiff, Nat.reduceLeDiff, Nat.reduceLT, Nat.reduceBEq, Nat.reduceDiv, Nat.reduceMod, Nat.reducePow, Nat.reduceMul, Int.reduceToNat, Int.reduceLT, Int.reduceLE]) | (refine W_exit ?_; simp (maxSteps := 400000) (disch := omega) only [push_cast, ↓reduceIte, reduceCtorEq, Nat.reduceAdd, Nat.reduceSub, Nat.reduceEqDiff, Nat.reduceLeDiff, Nat.reduceLT, Nat.reduceBEq, Nat.reduceDiv, Nat.reduceMod, Nat.reducePow, Nat.reduceMul, Int.reduceToNat, Int.reduceLT, Int.reduceLE]) | refine And.intro (by omega) ?_ | refine And.intro (by intro hq; (try simp only [Bool.and_eq_true, Bool.or_eq_true, Bool.and_eq_false_iff, Bool.or_eq_false_iff, decide_eq_true_eq, decide_eq_false_iff_not, Bool.not_eq_true', Bool.not_eq_false', beq_iff_eq, beq_eq_false_iff_ne, ne_eq] at hq); omega) ?_ | fail)
    exact W_ret ⟨[_, _], ⟨rfl, rfl, rfl⟩, by rw [if_neg (by simpa using h1)]; rfl⟩
  · have h : cchk l = 0 := by simpa using h1
    have g := (good_of_cchk h).1
    have hm := mins_pos g
    have c53 := r53 l g
    have e : (mins l : Int) - 1 + 1 = mins l := by omega
    repeat' (first | refine WK_go ?_ | refine W_seqL ?_ | refine W_seq ?_ | (refine W_regL ?_; simp (maxSteps := 400000) (disch := omega) only [push_cast, ↓reduceIte, reduceCtorEq, Nat.reduceAdd, Nat.reduceSub, Nat.reduceEqDiff, Nat.reduceLeDiff, Nat.reduceLT, Nat.reduceBEq, Nat.reduceDiv, Nat.reduceMod, Nat.reducePow, Nat.reduceMul, Int.reduceToNat, Int.reduceLT, Int.reduceLE, e]) | refine W_block ?_ | (refine W_skip ?_; simp (maxSteps := 400000) (disch := omega) only [push_cast, ↓reduceIte, reduceCtorEq, Nat.reduceAdd, Nat.reduceSub, Nat.reduceEqDiff, Nat.reduceLeDiff, Nat.reduceLT, Nat.reduceBEq, Nat.reduceDiv, Nat.reduceMod, Nat.reducePow, Nat.reduceMul, Int.reduceToNat, Int.reduceLT, Int.reduceLE, e]) | (refine W_exit ?_; simp (maxSteps := 400000) (disch := omega) only [push_cast, ↓reduceIte, reduceCtorEq, Nat.reduceAdd, Nat.reduceSub, Nat.reduceEqDiff, Nat.reduceLeDiff, Nat.reduceLT, Nat.reduceBEq, Nat.reduceDiv, Nat.reduceMod, Nat.reducePow, Nat.reduceMul, Int.reduceToNat, Int.reduceLT, Int.reduceLE, e]) | refine And.intro (by omega) ?_ | refine And.intro (by intro hq; (try simp only [Bool.and_eq_true, Bool.or_eq_true, Bool.and_eq_false_iff, Bool.or_eq_false_iff, decide_eq_true_eq, decide_eq_false_iff_not, Bool.not_eq_true', Bool.not_eq_false', beq_iff_eq, beq_eq_false_iff_ne, ne_eq] at hq); omega) ?_ | (refine CallC.now (c53) ?_; simp (maxSteps := 400000) (disch := omega) only [push_cast, ↓reduceIte, reduceCtorEq, Nat.reduceAdd, Nat.reduceSub, Nat.reduceEqDiff, Nat.reduceLeDiff, Nat.reduceLT, Nat.reduceBEq, Nat.reduceDiv, Nat.reduceMod, Nat.reducePow, Nat.reduceMul, Int.reduceToNat, Int.reduceLT, Int.reduceLE, e]) | fail)
    exact W_ret ⟨[_, _], ⟨rfl, rfl, rfl⟩, by rw [if_pos h, h]; rfl⟩
end Go.Proofs.Ytgijpimjfoabjaa

/- More of what the arguments of the laws hold. -/
namespace Go.Proofs.Ytgijpimjfoabjaa
open Go Sy
set_option maxRecDepth 100000
set_option linter.unusedVariables false
theorem b5 : Try.prog.bytesOf 5 = 1 := by kernel_rfl
theorem k28 : Codec Try.prog 28 (fun l : List Int => [.sl 1 0 cU l]) (fun l => l.length ≤ 140737488351232 ∧ ∀ x ∈ l, 0 ≤ x ∧ x ≤ 255) :=
  (Codec.slice Try.underlying28 (by rw [z5]; decide) z5 b5 0 k5).map id (fun _ => rfl) (fun _ h => ⟨by have := h.1; simp only [id]; omega, h.2.2⟩)
end Go.Proofs.Ytgijpimjfoabjaa

/- The program's Spans and Fits. -/
namespace Go.Proofs.Ytgijpimjfoabjaa
open Go Sy
set_option maxRecDepth 100000
set_option maxHeartbeats 4000000
set_option linter.unusedVariables false
set_option linter.unusedSimpArgs false
def vB (l : Log) (m j k : Nat) : Band := if k < j then vlS l k m else dB
def vCells (l : Log) (m j : Nat) : List AV := [iv (vB l m j 0).lo, iv (vB l m j 0).hi, iv (vB l m j 1).lo, iv (vB l m j 1).hi, iv (vB l m j 2).lo, iv (vB l m j 2).hi, iv (vB l m j 3).lo, iv (vB l m j 3).hi]
theorem nCo7 (l : Log) (st : Int) (ps : List Band) (v : Nat → List Band) : nth (cCo l st ps v) 7 = .sl 2 dB cBand (v 0) := rfl
theorem nCo8 (l : Log) (st : Int) (ps : List Band) (v : Nat → List Band) : nth (cCo l st ps v) 8 = .sl 2 dB cBand (v 1) := rfl
theorem nCo9 (l : Log) (st : Int) (ps : List Band) (v : Nat → List Band) : nth (cCo l st ps v) 9 = .sl 2 dB cBand (v 2) := rfl
theorem nCo10 (l : Log) (st : Int) (ps : List Band) (v : Nat → List Band) : nth (cCo l st ps v) 10 = .sl 2 dB cBand (v 3) := rfl
attribute [push_cast] nCo7 nCo8 nCo9 nCo10
end Go.Proofs.Ytgijpimjfoabjaa

/- The program's Fits. -/
namespace Go.Proofs.Ytgijpimjfoabjaa
open Go Sy
set_option maxRecDepth 100000
set_option maxHeartbeats 4000000
set_option linter.unusedVariables false
set_option linter.unusedSimpArgs false
abbrev vAt (h : Hist) (m k : Nat) : Int := at4 (h.va.getD m dV4) k
theorem vlS_bound {l : Log} (g : Good l) {k m : Nat} (hk : k < 4) (hm : m < mins l) : -1125899906842624 ≤ (vlS l k m).lo ∧ (vlS l k m).hi ≤ 1125899906842624 := by
  have h2 := g.n2
  have h1 := rd0 g hk hm
  have a := vlS_lo_ge g hk hm (mem_rd (l := l) (i := 0) (by omega))
  have b := vlS_hi_le g hk hm (mem_rd (l := l) (i := 0) (by omega))
  omega
end Go.Proofs.Ytgijpimjfoabjaa

/- The histories of the laws. -/
namespace Go.Proofs.Ytgijpimjfoabjaa
open Go Sy
set_option maxRecDepth 100000
set_option maxHeartbeats 4000000
set_option linter.unusedVariables false
set_option linter.unusedSimpArgs false
def stepP (l : Log) (h : Hist) (m : Nat) : Band := if 0 < m then ⟨max (plS l m).lo (h.pl.getD (m - 1) 0), (plS l m).hi⟩ else plS l m
def stepV (l : Log) (h : Hist) (m k : Nat) : Band := if 0 < m then ⟨max (vlS l k m).lo (vAt h (m - 1) k - drift l k), min (vlS l k m).hi (vAt h (m - 1) k + drift l k)⟩ else vlS l k m
def v4of (f : Nat → Int) : V4 := ⟨f 0, f 1, f 2, f 3⟩
theorem at4_v4of (f : Nat → Int) {k : Nat} (hk : k < 4) : at4 (v4of f) k = f k := by
  rcases k with _ | _ | _ | _ | k <;> first | rfl | omega
def hist (l : Log) (ps : List Int) : Nat → Hist
  | 0 => ⟨[], []⟩
  | m + 1 => ⟨(hist l ps m).pl ++ [partF (stepP l (hist l ps m) m) (pickF ps (5 * m + 4))], (hist l ps m).va ++ [v4of fun k => partF (stepV l (hist l ps m) m k) (pickF ps (5 * m + k))]⟩
structure FitN (l : Log) (h : Hist) (n : Nat) : Prop where
  np : h.pl.length = n
  nv : h.va.length = n
  pin : ∀ m, m < n → (plS l m).lo ≤ h.pl.getD m 0 ∧ h.pl.getD m 0 ≤ (plS l m).hi
  pup : ∀ m, m + 1 < n → h.pl.getD m 0 ≤ h.pl.getD (m + 1) 0
  vin : ∀ m k, m < n → k < 4 → (vlS l k m).lo ≤ vAt h m k ∧ vAt h m k ≤ (vlS l k m).hi
  vst : ∀ m k, m + 1 < n → k < 4 → vAt h m k - drift l k ≤ vAt h (m + 1) k ∧ vAt h (m + 1) k ≤ vAt h m k + drift l k
theorem FitN.fit {l : Log} {h : Hist} (f : FitN l h (mins l)) : Fit l h := ⟨f.np, f.nv, f.pin, f.pup, f.vin, f.vst⟩
theorem pickF_in {ps : List Int} (hp : ∀ x ∈ ps, 0 ≤ x ∧ x ≤ 255) {i : Int} (hi : 0 ≤ i) : 0 ≤ pickF ps i ∧ pickF ps i ≤ 255 := by
  unfold pickF
  split
  · exact hp _ (getD_mem (by omega))
  · omega
theorem stepP_ok {l : Log} {h : Hist} {m : Nat} (hc : cchk l = 0) (f : FitN l h m) (hm : m < mins l) : (plS l m).lo ≤ (stepP l h m).lo ∧ (stepP l h m).lo ≤ (stepP l h m).hi ∧ (stepP l h m).hi = (plS l m).hi ∧ (0 < m → h.pl.getD (m - 1) 0 ≤ (stepP l h m).lo) := by
  have h1 := (spans_ok hc hm).1
  unfold stepP
  split
  · have h2 := f.pin (m - 1) (by omega)
    have h3 := (pl_mono l (show m - 1 ≤ m by omega)).2
    refine ⟨by simp only; omega, by simp only; omega, rfl, fun _ => by simp only; omega⟩
  · exact ⟨Int.le_refl _, h1, rfl, fun h => by omega⟩
theorem stepV_ok {l : Log} {h : Hist} {m k : Nat} (hc : cchk l = 0) (f : FitN l h m) (hm : m < mins l) (hk : k < 4) : (vlS l k m).lo ≤ (stepV l h m k).lo ∧ (stepV l h m k).lo ≤ (stepV l h m k).hi ∧ (stepV l h m k).hi ≤ (vlS l k m).hi ∧ (0 < m → vAt h (m - 1) k - drift l k ≤ (stepV l h m k).lo ∧ (stepV l h m k).hi ≤ vAt h (m - 1) k + drift l k) := by
  have g := (good_of_cchk hc).1
  have h1 := (spans_ok hc hm).2 k hk
  have hd := g.dr k hk
  unfold stepV
  split
  · have h2 := f.vin (m - 1) k (by omega) hk
    have h3 := vlS_step g hk (show m - 1 + 1 < mins l by omega)
    rw [show m - 1 + 1 = m by omega] at h3
    refine ⟨by simp only; omega, by simp only; omega, by simp only; omega, fun _ => ⟨by simp only; omega, by simp only; omega⟩⟩
  · exact ⟨Int.le_refl _, h1, Int.le_refl _, fun h => by omega⟩
theorem getD_app {α : Type} (d : α) (l : List α) (x : α) (i : Nat) : (l ++ [x]).getD i d = if i < l.length then l.getD i d else if i = l.length then x else d := by
  simp only [List.getD, List.getElem?_append]
  split
  · rfl
  · split
    · rename_i h; subst h; simp
    · rename_i h1 h2
      rw [List.getElem?_eq_none (by simp; omega)]; rfl
theorem hist_fit {l : Log} {ps : List Int} (hc : cchk l = 0) (hp : ∀ x ∈ ps, 0 ≤ x ∧ x ≤ 255) : ∀ n, n ≤ mins l → FitN l (hist l ps n) n
  | 0, _ => ⟨rfl, rfl, fun m h => by omega, fun m h => by omega, fun m k h => by omega, fun m k h => by omega⟩
  | n + 1, hn => by
    have f := hist_fit hc hp n (by omega)
    have sp := stepP_ok hc f (show n < mins l by omega)
    have sv := fun k (hk : k < 4) => stepV_ok hc f (show n < mins l by omega) hk
    have pp := part_in sp.2.1 (pickF_in hp (i := 5 * n + 4) (by omega))
    have pv := fun k (hk : k < 4) => part_in (sv k hk).2.1 (pickF_in hp (i := 5 * n + k) (by omega))
    have e1 : ∀ m, (hist l ps (n + 1)).pl.getD m 0 = if m < n then (hist l ps n).pl.getD m 0 else if m = n then partF (stepP l (hist l ps n) n) (pickF ps (5 * n + 4)) else 0 := fun m => by
      have := getD_app 0 (hist l ps n).pl (partF (stepP l (hist l ps n) n) (pickF ps (5 * n + 4))) m
      rw [f.np] at this
      exact this
    have e2 : ∀ m, (hist l ps (n + 1)).va.getD m dV4 = if m < n then (hist l ps n).va.getD m dV4 else if m = n then v4of fun k => partF (stepV l (hist l ps n) n k) (pickF ps (5 * n + k)) else dV4 := fun m => by
      have := getD_app dV4 (hist l ps n).va (v4of fun k => partF (stepV l (hist l ps n) n k) (pickF ps (5 * n + k))) m
      rw [f.nv] at this
      exact this
    have e3 : ∀ k, k < 4 → vAt (hist l ps (n + 1)) n k = partF (stepV l (hist l ps n) n k) (pickF ps (5 * n + k)) := fun k hk => by
      unfold vAt
      rw [e2, if_neg (by omega), if_pos rfl, at4_v4of _ hk]
    have e4 : ∀ m k, m < n → vAt (hist l ps (n + 1)) m k = vAt (hist l ps n) m k := fun m k hm => by
      unfold vAt
      rw [e2, if_pos hm]
    refine ⟨by simp [hist, f.np], by simp [hist, f.nv], fun m hm => ?_, fun m hm => ?_, fun m k hm hk => ?_, fun m k hm hk => ?_⟩
    · rw [e1]
      split
      · exact f.pin m (by assumption)
      · rw [if_pos (by omega), show m = n by omega]
        omega
    · rw [e1, e1, if_pos (by omega)]
      split
      · exact f.pup m (by assumption)
      · rw [if_pos (by omega)]
        have := sp.2.2.2 (by omega)
        rw [show n - 1 = m by omega] at this
        omega
    · by_cases h : m < n
      · rw [e4 m k h]; exact f.vin m k h hk
      · rw [show m = n by omega, e3 k hk]
        have := pv k hk
        have := sv k hk
        omega
    · rw [e4 m k (by omega)]
      by_cases h : m + 1 < n
      · rw [e4 _ k h]; exact f.vst m k h hk
      · rw [show m + 1 = n by omega, e3 k hk]
        have := pv k hk
        have := (sv k hk).2.2.2 (by omega)
        rw [show n - 1 = m by omega] at this
        omega
end Go.Proofs.Ytgijpimjfoabjaa

/- The laws' history: the walk. -/
namespace Go.Proofs.Ytgijpimjfoabjaa
open Go Sy
set_option maxRecDepth 100000
set_option maxHeartbeats 4000000
set_option linter.unusedVariables false
set_option linter.unusedSimpArgs false
def hC (f : Nat → Int) (k : Nat) : List AV := [iv (if 0 < k then f 0 else 0), iv (if 1 < k then f 1 else 0), iv (if 2 < k then f 2 else 0), iv (if 3 < k then f 3 else 0)]
theorem hC_set (f : Nat → Int) (k : Nat) (h : k < 4) : List.take (k * 1) (hC f k) ++ [iv (f k)] ++ List.drop (k * 1 + 1) (hC f k) = hC f (k + 1) := by
  rcases k with _ | _ | _ | _ | k <;> first | rfl | omega
theorem hC_len (f : Nat → Int) (k : Nat) : (hC f k).length = 4 := rfl
theorem hC_frz (f : Nat → Int) (k : Nat) : frzAll (hC f k) = true := rfl
theorem hC_ids {m : Nat → Option Blk} {n : Nat} (f : Nat → Int) (k : Nat) : List.flatMap (ids m n) (hC f k) = [] := flat_frz n _ (hC_frz f k)
theorem hC_take (f : Nat → Int) (k : Nat) : List.take 4 (hC f k) = hC f k := rfl
theorem hC_end (f : Nat → Int) : hC f 4 = cV (v4of f) := rfl
attribute [push_cast] hC_len hC_frz hC_ids hC_take
theorem pl_bound {l : Log} (g : Good l) {m : Nat} (hm : m < mins l) : -1073741824 ≤ (plS l m).lo ∧ (plS l m).hi ≤ 1073741824 := by
  unfold plS cplace
  exact ⟨pLo_ge _ _ _, pHi_le _ _ _⟩
theorem fn13 (l : Log) (ps : List Int) (h3 : l.rs.length ≤ 1000000) (hc : cchk l = 0) (hp : ∀ x ∈ ps, 0 ≤ x ∧ x ≤ 255) : Sy.Fn Try.prog 13 [aLog l, .sl 1 0 cU ps] (aH (hist l ps (mins l))) := by
  refine Fn_of_W mixed Xt13 rfl ?_
  have g := (good_of_cchk hc).1
  have hmm := mins_pos g
  have c30 := fn30 l h3
  rw [if_pos hc, hc] at c30
  repeat' (first | refine WK_go ?_ | refine W_seqL ?_ | refine W_seq ?_ | (refine W_regL ?_; simp (maxSteps := 400000) (disch := omega) only [push_cast, ↓reduceIte, reduceCtorEq, Nat.reduceAdd, Nat.reduceSub, Nat.reduceEqDiff, Nat.reduceLeDiff, Nat.reduceLT, Nat.reduceBEq, Nat.reduceDiv, Nat.reduceMod, Nat.reducePow, Nat.reduceMul, Int.reduceToNat, Int.reduceLT, Int.reduceLE]) | refine W_block ?_ | (refine W_skip ?_; simp (maxSteps := 400000) (disch := omega) only [push_cast, ↓reduceIte, reduceCtorEq, Nat.reduceAdd, Nat.reduceSub, Nat.reduceEqDiff, Nat.reduceLeDiff, Nat.reduceLT, Nat.reduceBEq, Nat.reduceDiv, Nat.reduceMod, Nat.reducePow, Nat.reduceMul, Int.reduceToNat, Int.reduceLT, Int.reduceLE]) | (refine W_exit ?_; simp (maxSteps := 400000) (disch := omega) only [push_cast, ↓reduceIte, reduceCtorEq, Nat.reduceAdd, Nat.reduceSub, Nat.reduceEqDiff, Nat.reduceLeDiff, Nat.reduceLT, Nat.reduceBEq, Nat.reduceDiv, Nat.reduceMod, Nat.reducePow, Nat.reduceMul, Int.reduceToNat, Int.reduceLT, Int.reduceLE]) | refine And.intro (by omega) ?_ | refine And.intro (by intro hq; (try simp only [Bool.and_eq_true, Bool.or_eq_true, Bool.and_eq_false_iff, Bool.or_eq_false_iff, decide_eq_true_eq, decide_eq_false_iff_not, Bool.not_eq_true', Bool.not_eq_false', beq_iff_eq, beq_eq_false_iff_ne, ne_eq] at hq); omega) ?_ | (refine CallC.now (c30) ?_; simp (maxSteps := 400000) (disch := omega) only [push_cast, ↓reduceIte, reduceCtorEq, Nat.reduceAdd, Nat.reduceSub, Nat.reduceEqDiff, Nat.reduceLeDiff, Nat.reduceLT, Nat.reduceBEq, Nat.reduceDiv, Nat.reduceMod, Nat.reducePow, Nat.reduceMul, Int.reduceToNat, Int.reduceLT, Int.reduceLE]) | fail)

  refine W_le (le_adoptC 9 0 2 1 (0 : Int) cI (by omega) _ rfl rfl (by simp)) ?_
  simp (maxSteps := 400000) (disch := omega) only [push_cast, ↓reduceIte, reduceCtorEq, Nat.reduceAdd, Nat.reduceSub, Nat.reduceEqDiff, Nat.reduceLeDiff, Nat.reduceLT, Nat.reduceBEq, Nat.reduceDiv, Nat.reduceMod, Nat.reducePow, Nat.reduceMul, Int.reduceToNat, Int.reduceLT, Int.reduceLE]
  refine W_le (le_adoptC 9 1 23 4 dV4 cV (by omega) _ rfl rfl (by simp)) ?_
  simp (maxSteps := 400000) (disch := omega) only [push_cast, ↓reduceIte, reduceCtorEq, Nat.reduceAdd, Nat.reduceSub, Nat.reduceEqDiff, Nat.reduceLeDiff, Nat.reduceLT, Nat.reduceBEq, Nat.reduceDiv, Nat.reduceMod, Nat.reducePow, Nat.reduceMul, Int.reduceToNat, Int.reduceLT, Int.reduceLE]
  refine W_loopU (fun m : Nat => [(8, iv m)]) (fun m => [(9, .cells [.row 11 m, .row 12 m]), (11, .row m 2 1 0 cI (hist l ps m).pl), (12, .row m 23 4 dV4 cV (hist l ps m).va)]) (fun m => m ≤ mins l) (fun m => mins l - m) 0 (by omega) (by rfl) (by rfl) (fun m hm => ?_)
  have hf := hist_fit hc hp m hm
  have hn1 := hf.np
  have hn2 := hf.nv
  simp (maxSteps := 400000) (disch := omega) only [push_cast, ↓reduceIte, reduceCtorEq, Nat.reduceAdd, Nat.reduceSub, Nat.reduceEqDiff, Nat.reduceLeDiff, Nat.reduceLT, Nat.reduceBEq, Nat.reduceDiv, Nat.reduceMod, Nat.reducePow, Nat.reduceMul, Int.reduceToNat, Int.reduceLT, Int.reduceLE]
  repeat' (first | refine WK_go ?_ | refine W_seqL ?_ | refine W_seq ?_ | (refine W_regL ?_; simp (maxSteps := 400000) (disch := omega) only [push_cast, ↓reduceIte, reduceCtorEq, Nat.reduceAdd, Nat.reduceSub, Nat.reduceEqDiff, Nat.reduceLeDiff, Nat.reduceLT, Nat.reduceBEq, Nat.reduceDiv, Nat.reduceMod, Nat.reducePow, Nat.reduceMul, Int.reduceToNat, Int.reduceLT, Int.reduceLE]) | refine W_block ?_ | (refine W_skip ?_; simp (maxSteps := 400000) (disch := omega) only [push_cast, ↓reduceIte, reduceCtorEq, Nat.reduceAdd, Nat.reduceSub, Nat.reduceEqDiff, Nat.reduceLeDiff, Nat.reduceLT, Nat.reduceBEq, Nat.reduceDiv, Nat.reduceMod, Nat.reducePow, Nat.reduceMul, Int.reduceToNat, Int.reduceLT, Int.reduceLE]) | (refine W_exit ?_; simp (maxSteps := 400000) (disch := omega) only [push_cast, ↓reduceIte, reduceCtorEq, Nat.reduceAdd, Nat.reduceSub, Nat.reduceEqDiff, Nat.reduceLeDiff, Nat.reduceLT, Nat.reduceBEq, Nat.reduceDiv, Nat.reduceMod, Nat.reducePow, Nat.reduceMul, Int.reduceToNat, Int.reduceLT, Int.reduceLE]) | refine And.intro (by omega) ?_ | refine And.intro (by intro hq; (try simp only [Bool.and_eq_true, Bool.or_eq_true, Bool.and_eq_false_iff, Bool.or_eq_false_iff, decide_eq_true_eq, decide_eq_false_iff_not, Bool.not_eq_true', Bool.not_eq_false', beq_iff_eq, beq_eq_false_iff_ne, ne_eq] at hq); omega) ?_ | fail)
  refine W_condD (by rfl) (fun h => ?_) (fun h => ?_)
  · have hlt : m < mins l := by omega
    have c16 := r16 l m g hlt
    rw [places_get hlt] at c16
    change Sy.Fn _ _ _ (.agg (cBand (plS l m))) at c16
    repeat' (first | refine WK_go ?_ | refine W_seqL ?_ | refine W_seq ?_ | (refine W_regL ?_; simp (maxSteps := 400000) (disch := omega) only [push_cast, ↓reduceIte, reduceCtorEq, Nat.reduceAdd, Nat.reduceSub, Nat.reduceEqDiff, Nat.reduceLeDiff, Nat.reduceLT, Nat.reduceBEq, Nat.reduceDiv, Nat.reduceMod, Nat.reducePow, Nat.reduceMul, Int.reduceToNat, Int.reduceLT, Int.reduceLE]) | refine W_block ?_ | (refine W_skip ?_; simp (maxSteps := 400000) (disch := omega) only [push_cast, ↓reduceIte, reduceCtorEq, Nat.reduceAdd, Nat.reduceSub, Nat.reduceEqDiff, Nat.reduceLeDiff, Nat.reduceLT, Nat.reduceBEq, Nat.reduceDiv, Nat.reduceMod, Nat.reducePow, Nat.reduceMul, Int.reduceToNat, Int.reduceLT, Int.reduceLE]) | (refine W_exit ?_; simp (maxSteps := 400000) (disch := omega) only [push_cast, ↓reduceIte, reduceCtorEq, Nat.reduceAdd, Nat.reduceSub, Nat.reduceEqDiff, Nat.reduceLeDiff, Nat.reduceLT, Nat.reduceBEq, Nat.reduceDiv, Nat.reduceMod, Nat.reducePow, Nat.reduceMul, Int.reduceToNat, Int.reduceLT, Int.reduceLE]) | refine And.intro (by omega) ?_ | refine And.intro (by intro hq; (try simp only [Bool.and_eq_true, Bool.or_eq_true, Bool.and_eq_false_iff, Bool.or_eq_false_iff, decide_eq_true_eq, decide_eq_false_iff_not, Bool.not_eq_true', Bool.not_eq_false', beq_iff_eq, beq_eq_false_iff_ne, ne_eq] at hq); omega) ?_ | (refine CallC.now (c16) ?_; simp (maxSteps := 400000) (disch := omega) only [push_cast, ↓reduceIte, reduceCtorEq, Nat.reduceAdd, Nat.reduceSub, Nat.reduceEqDiff, Nat.reduceLeDiff, Nat.reduceLT, Nat.reduceBEq, Nat.reduceDiv, Nat.reduceMod, Nat.reducePow, Nat.reduceMul, Int.reduceToNat, Int.reduceLT, Int.reduceLE]) | fail)
    have e1 : ((m : Int) - 1).toNat = m - 1 := by omega
    generalize hH : hist l ps m = H at *
    let f : Nat → Int := fun k => partF (stepV l H m k) (pickF ps (5 * m + k))
    refine W_loopU (fun k : Nat => [(11, iv k)]) (fun k => [(21, .cells (hC f k))]) (fun k => k ≤ 4) (fun k => 4 - k) 0 (by omega) (by rfl) (by rfl) (fun k hk => ?_)
    simp (maxSteps := 400000) (disch := omega) only [push_cast, ↓reduceIte, reduceCtorEq, Nat.reduceAdd, Nat.reduceSub, Nat.reduceEqDiff, Nat.reduceLeDiff, Nat.reduceLT, Nat.reduceBEq, Nat.reduceDiv, Nat.reduceMod, Nat.reducePow, Nat.reduceMul, Int.reduceToNat, Int.reduceLT, Int.reduceLE]
    repeat' (first | refine WK_go ?_ | refine W_seqL ?_ | refine W_seq ?_ | (refine W_regL ?_; simp (maxSteps := 400000) (disch := omega) only [push_cast, ↓reduceIte, reduceCtorEq, Nat.reduceAdd, Nat.reduceSub, Nat.reduceEqDiff, Nat.reduceLeDiff, Nat.reduceLT, Nat.reduceBEq, Nat.reduceDiv, Nat.reduceMod, Nat.reducePow, Nat.reduceMul, Int.reduceToNat, Int.reduceLT, Int.reduceLE]) | refine W_block ?_ | (refine W_skip ?_; simp (maxSteps := 400000) (disch := omega) only [push_cast, ↓reduceIte, reduceCtorEq, Nat.reduceAdd, Nat.reduceSub, Nat.reduceEqDiff, Nat.reduceLeDiff, Nat.reduceLT, Nat.reduceBEq, Nat.reduceDiv, Nat.reduceMod, Nat.reducePow, Nat.reduceMul, Int.reduceToNat, Int.reduceLT, Int.reduceLE]) | (refine W_exit ?_; simp (maxSteps := 400000) (disch := omega) only [push_cast, ↓reduceIte, reduceCtorEq, Nat.reduceAdd, Nat.reduceSub, Nat.reduceEqDiff, Nat.reduceLeDiff, Nat.reduceLT, Nat.reduceBEq, Nat.reduceDiv, Nat.reduceMod, Nat.reducePow, Nat.reduceMul, Int.reduceToNat, Int.reduceLT, Int.reduceLE]) | refine And.intro (by omega) ?_ | refine And.intro (by intro hq; (try simp only [Bool.and_eq_true, Bool.or_eq_true, Bool.and_eq_false_iff, Bool.or_eq_false_iff, decide_eq_true_eq, decide_eq_false_iff_not, Bool.not_eq_true', Bool.not_eq_false', beq_iff_eq, beq_eq_false_iff_ne, ne_eq] at hq); omega) ?_ | fail)
    refine W_condD (by rfl) (fun h6 => ?_) (fun h6 => ?_)
    · have hk4 : k < 4 := by omega
      have c17 := r17 l m k g hlt hk4
      rw [values_get hlt] at c17
      change Sy.Fn _ _ _ (.agg (cBand (vlS l k m))) at c17
      have hvb := vlS_bound g hk4 hlt
      have hdr := g.dr k hk4
      have hst := stepV_ok hc hf hlt hk4
      have hpk := pickF_in hp (i := 5 * m + k) (by omega)
      have c42 := fn42 ps (5 * m + k) (by omega)
      have c41 := fn41 (stepV l H m k) (pickF ps (5 * m + k)) hst.2.1 (by omega) (by omega) hpk
      have hset : List.take (k * 1) (hC f k) ++ [iv (partF (stepV l H m k) (pickF ps (5 * m + k)))] ++ List.drop (k * 1 + 1) (hC f k) = hC f (k + 1) := hC_set f k hk4
      by_cases hm0 : 0 < m
      · have hp1 := hf.vin (m - 1) k (by omega) hk4
        have hvb1 := vlS_bound g hk4 (show m - 1 < mins l by omega)
        have hnv := nV (H.va.getD (m - 1) dV4) k hk4
        have e2 : [iv (max (vlS l k m).lo (at4 (H.va.getD (m - 1) dV4) k - drift l k)), iv (min (vlS l k m).hi (at4 (H.va.getD (m - 1) dV4) k + drift l k))] = cBand (stepV l H m k) := by
          unfold stepV; rw [if_pos hm0]
        unfold vAt at hp1
        repeat' (first | refine WK_go ?_ | refine W_seqL ?_ | refine W_seq ?_ | (refine W_regL ?_; simp (maxSteps := 400000) (disch := omega) only [push_cast, ↓reduceIte, reduceCtorEq, Nat.reduceAdd, Nat.reduceSub, Nat.reduceEqDiff, Nat.reduceLeDiff, Nat.reduceLT, Nat.reduceBEq, Nat.reduceDiv, Nat.reduceMod, Nat.reducePow, Nat.reduceMul, Int.reduceToNat, Int.reduceLT, Int.reduceLE]) | refine W_block ?_ | (refine W_skip ?_; simp (maxSteps := 400000) (disch := omega) only [push_cast, ↓reduceIte, reduceCtorEq, Nat.reduceAdd, Nat.reduceSub, Nat.reduceEqDiff, Nat.reduceLeDiff, Nat.reduceLT, Nat.reduceBEq, Nat.reduceDiv, Nat.reduceMod, Nat.reducePow, Nat.reduceMul, Int.reduceToNat, Int.reduceLT, Int.reduceLE]) | (refine W_exit ?_; simp (maxSteps := 400000) (disch := omega) only [push_cast, ↓reduceIte, reduceCtorEq, Nat.reduceAdd, Nat.reduceSub, Nat.reduceEqDiff, Nat.reduceLeDiff, Nat.reduceLT, Nat.reduceBEq, Nat.reduceDiv, Nat.reduceMod, Nat.reducePow, Nat.reduceMul, Int.reduceToNat, Int.reduceLT, Int.reduceLE]) | refine And.intro (by omega) ?_ | refine And.intro (by intro hq; (try simp only [Bool.and_eq_true, Bool.or_eq_true, Bool.and_eq_false_iff, Bool.or_eq_false_iff, decide_eq_true_eq, decide_eq_false_iff_not, Bool.not_eq_true', Bool.not_eq_false', beq_iff_eq, beq_eq_false_iff_ne, ne_eq] at hq); omega) ?_ | (refine CallC.now (c17) ?_; simp (maxSteps := 400000) (disch := omega) only [push_cast, ↓reduceIte, reduceCtorEq, Nat.reduceAdd, Nat.reduceSub, Nat.reduceEqDiff, Nat.reduceLeDiff, Nat.reduceLT, Nat.reduceBEq, Nat.reduceDiv, Nat.reduceMod, Nat.reducePow, Nat.reduceMul, Int.reduceToNat, Int.reduceLT, Int.reduceLE]) | fail)
        refine W_condD (by rfl) (fun _ => ?_) (fun h7 => by omega)
        rw [← e2] at c41
        repeat' (first | refine WK_go ?_ | refine W_seqL ?_ | refine W_seq ?_ | (refine W_regL ?_; simp (maxSteps := 400000) (disch := omega) only [push_cast, ↓reduceIte, reduceCtorEq, Nat.reduceAdd, Nat.reduceSub, Nat.reduceEqDiff, Nat.reduceLeDiff, Nat.reduceLT, Nat.reduceBEq, Nat.reduceDiv, Nat.reduceMod, Nat.reducePow, Nat.reduceMul, Int.reduceToNat, Int.reduceLT, Int.reduceLE, hnv, e1, hset]) | refine W_block ?_ | (refine W_skip ?_; simp (maxSteps := 400000) (disch := omega) only [push_cast, ↓reduceIte, reduceCtorEq, Nat.reduceAdd, Nat.reduceSub, Nat.reduceEqDiff, Nat.reduceLeDiff, Nat.reduceLT, Nat.reduceBEq, Nat.reduceDiv, Nat.reduceMod, Nat.reducePow, Nat.reduceMul, Int.reduceToNat, Int.reduceLT, Int.reduceLE, hnv, e1, hset]) | (refine W_exit ?_; simp (maxSteps := 400000) (disch := omega) only [push_cast, ↓reduceIte, reduceCtorEq, Nat.reduceAdd, Nat.reduceSub, Nat.reduceEqDiff, Nat.reduceLeDiff, Nat.reduceLT, Nat.reduceBEq, Nat.reduceDiv, Nat.reduceMod, Nat.reducePow, Nat.reduceMul, Int.reduceToNat, Int.reduceLT, Int.reduceLE, hnv, e1, hset]) | refine And.intro (by omega) ?_ | refine And.intro (by intro hq; (try simp only [Bool.and_eq_true, Bool.or_eq_true, Bool.and_eq_false_iff, Bool.or_eq_false_iff, decide_eq_true_eq, decide_eq_false_iff_not, Bool.not_eq_true', Bool.not_eq_false', beq_iff_eq, beq_eq_false_iff_ne, ne_eq] at hq); omega) ?_ | (refine CallC.now (c42) ?_; simp (maxSteps := 400000) (disch := omega) only [push_cast, ↓reduceIte, reduceCtorEq, Nat.reduceAdd, Nat.reduceSub, Nat.reduceEqDiff, Nat.reduceLeDiff, Nat.reduceLT, Nat.reduceBEq, Nat.reduceDiv, Nat.reduceMod, Nat.reducePow, Nat.reduceMul, Int.reduceToNat, Int.reduceLT, Int.reduceLE, hnv, e1, hset]) | (refine CallC.now (c41) ?_; simp (maxSteps := 400000) (disch := omega) only [push_cast, ↓reduceIte, reduceCtorEq, Nat.reduceAdd, Nat.reduceSub, Nat.reduceEqDiff, Nat.reduceLeDiff, Nat.reduceLT, Nat.reduceBEq, Nat.reduceDiv, Nat.reduceMod, Nat.reducePow, Nat.reduceMul, Int.reduceToNat, Int.reduceLT, Int.reduceLE, hnv, e1, hset]) | fail)
        refine ⟨k + 1, by omega, by omega, by rfl, ?_⟩
        simp (maxSteps := 400000) (disch := omega) only [push_cast, ↓reduceIte, reduceCtorEq, Nat.reduceAdd, Nat.reduceSub, Nat.reduceEqDiff, Nat.reduceLeDiff, Nat.reduceLT, Nat.reduceBEq, Nat.reduceDiv, Nat.reduceMod, Nat.reducePow, Nat.reduceMul, Int.reduceToNat, Int.reduceLT, Int.reduceLE, S.mk.injEq, List.cons.injEq, Prod.mk.injEq, AV.v.injEq, Value.int.injEq, Value.bool.injEq, Blk.cells.injEq]
      · repeat' (first | refine WK_go ?_ | refine W_seqL ?_ | refine W_seq ?_ | (refine W_regL ?_; simp (maxSteps := 400000) (disch := omega) only [push_cast, ↓reduceIte, reduceCtorEq, Nat.reduceAdd, Nat.reduceSub, Nat.reduceEqDiff, Nat.reduceLeDiff, Nat.reduceLT, Nat.reduceBEq, Nat.reduceDiv, Nat.reduceMod, Nat.reducePow, Nat.reduceMul, Int.reduceToNat, Int.reduceLT, Int.reduceLE]) | refine W_block ?_ | (refine W_skip ?_; simp (maxSteps := 400000) (disch := omega) only [push_cast, ↓reduceIte, reduceCtorEq, Nat.reduceAdd, Nat.reduceSub, Nat.reduceEqDiff, Nat.reduceLeDiff, Nat.reduceLT, Nat.reduceBEq, Nat.reduceDiv, Nat.reduceMod, Nat.reducePow, Nat.reduceMul, Int.reduceToNat, Int.reduceLT, Int.reduceLE]) | (refine W_exit ?_; simp (maxSteps := 400000) (disch := omega) only [push_cast, ↓reduceIte, reduceCtorEq, Nat.reduceAdd, Nat.reduceSub, Nat.reduceEqDiff, Nat.reduceLeDiff, Nat.reduceLT, Nat.reduceBEq, Nat.reduceDiv, Nat.reduceMod, Nat.reducePow, Nat.reduceMul, Int.reduceToNat, Int.reduceLT, Int.reduceLE]) | refine And.intro (by omega) ?_ | refine And.intro (by intro hq; (try simp only [Bool.and_eq_true, Bool.or_eq_true, Bool.and_eq_false_iff, Bool.or_eq_false_iff, decide_eq_true_eq, decide_eq_false_iff_not, Bool.not_eq_true', Bool.not_eq_false', beq_iff_eq, beq_eq_false_iff_ne, ne_eq] at hq); omega) ?_ | (refine CallC.now (c17) ?_; simp (maxSteps := 400000) (disch := omega) only [push_cast, ↓reduceIte, reduceCtorEq, Nat.reduceAdd, Nat.reduceSub, Nat.reduceEqDiff, Nat.reduceLeDiff, Nat.reduceLT, Nat.reduceBEq, Nat.reduceDiv, Nat.reduceMod, Nat.reducePow, Nat.reduceMul, Int.reduceToNat, Int.reduceLT, Int.reduceLE]) | fail)
        refine W_condD (by rfl) (fun h7 => by omega) (fun _ => ?_)
        have e2 : cBand (stepV l H m k) = cBand (vlS l k m) := by unfold stepV; rw [if_neg hm0]
        rw [e2] at c41
        repeat' (first | refine WK_go ?_ | refine W_seqL ?_ | refine W_seq ?_ | (refine W_regL ?_; simp (maxSteps := 400000) (disch := omega) only [push_cast, ↓reduceIte, reduceCtorEq, Nat.reduceAdd, Nat.reduceSub, Nat.reduceEqDiff, Nat.reduceLeDiff, Nat.reduceLT, Nat.reduceBEq, Nat.reduceDiv, Nat.reduceMod, Nat.reducePow, Nat.reduceMul, Int.reduceToNat, Int.reduceLT, Int.reduceLE, hset]) | refine W_block ?_ | (refine W_skip ?_; simp (maxSteps := 400000) (disch := omega) only [push_cast, ↓reduceIte, reduceCtorEq, Nat.reduceAdd, Nat.reduceSub, Nat.reduceEqDiff, Nat.reduceLeDiff, Nat.reduceLT, Nat.reduceBEq, Nat.reduceDiv, Nat.reduceMod, Nat.reducePow, Nat.reduceMul, Int.reduceToNat, Int.reduceLT, Int.reduceLE, hset]) | (refine W_exit ?_; simp (maxSteps := 400000) (disch := omega) only [push_cast, ↓reduceIte, reduceCtorEq, Nat.reduceAdd, Nat.reduceSub, Nat.reduceEqDiff, Nat.reduceLeDiff, Nat.reduceLT, Nat.reduceBEq, Nat.reduceDiv, Nat.reduceMod, Nat.reducePow, Nat.reduceMul, Int.reduceToNat, Int.reduceLT, Int.reduceLE, hset]) | refine And.intro (by omega) ?_ | refine And.intro (by intro hq; (try simp only [Bool.and_eq_true, Bool.or_eq_true, Bool.and_eq_false_iff, Bool.or_eq_false_iff, decide_eq_true_eq, decide_eq_false_iff_not, Bool.not_eq_true', Bool.not_eq_false', beq_iff_eq, beq_eq_false_iff_ne, ne_eq] at hq); omega) ?_ | (refine CallC.now (c42) ?_; simp (maxSteps := 400000) (disch := omega) only [push_cast, ↓reduceIte, reduceCtorEq, Nat.reduceAdd, Nat.reduceSub, Nat.reduceEqDiff, Nat.reduceLeDiff, Nat.reduceLT, Nat.reduceBEq, Nat.reduceDiv, Nat.reduceMod, Nat.reducePow, Nat.reduceMul, Int.reduceToNat, Int.reduceLT, Int.reduceLE, hset]) | (refine CallC.now (c41) ?_; simp (maxSteps := 400000) (disch := omega) only [push_cast, ↓reduceIte, reduceCtorEq, Nat.reduceAdd, Nat.reduceSub, Nat.reduceEqDiff, Nat.reduceLeDiff, Nat.reduceLT, Nat.reduceBEq, Nat.reduceDiv, Nat.reduceMod, Nat.reducePow, Nat.reduceMul, Int.reduceToNat, Int.reduceLT, Int.reduceLE, hset]) | fail)
        refine ⟨k + 1, by omega, by omega, by rfl, ?_⟩
        simp (maxSteps := 400000) (disch := omega) only [push_cast, ↓reduceIte, reduceCtorEq, Nat.reduceAdd, Nat.reduceSub, Nat.reduceEqDiff, Nat.reduceLeDiff, Nat.reduceLT, Nat.reduceBEq, Nat.reduceDiv, Nat.reduceMod, Nat.reducePow, Nat.reduceMul, Int.reduceToNat, Int.reduceLT, Int.reduceLE, S.mk.injEq, List.cons.injEq, Prod.mk.injEq, AV.v.injEq, Value.int.injEq, Value.bool.injEq, Blk.cells.injEq]
    obtain rfl : k = 4 := by omega
    have hst := stepP_ok hc hf hlt
    have hpk := pickF_in hp (i := 5 * m + 4) (by omega)
    have hplb := pl_bound g hlt
    have c42 := fn42 ps (5 * m + 4) (by omega)
    have c41 := fn41 (stepP l H m) (pickF ps (5 * m + 4)) hst.2.1 (by omega) (by omega) hpk
    have hhist : hist l ps (m + 1) = ⟨H.pl ++ [partF (stepP l H m) (pickF ps (5 * m + 4))], H.va ++ [v4of f]⟩ := by subst hH; rfl
    by_cases hm0 : 0 < m
    · have e2 : [iv (max (plS l m).lo (H.pl.getD (m - 1) 0)), iv (plS l m).hi] = cBand (stepP l H m) := by
        unfold stepP; rw [if_pos hm0]
      repeat' (first | refine WK_go ?_ | refine W_seqL ?_ | refine W_seq ?_ | (refine W_regL ?_; simp (maxSteps := 400000) (disch := omega) only [push_cast, ↓reduceIte, reduceCtorEq, Nat.reduceAdd, Nat.reduceSub, Nat.reduceEqDiff, Nat.reduceLeDiff, Nat.reduceLT, Nat.reduceBEq, Nat.reduceDiv, Nat.reduceMod, Nat.reducePow, Nat.reduceMul, Int.reduceToNat, Int.reduceLT, Int.reduceLE]) | refine W_block ?_ | (refine W_skip ?_; simp (maxSteps := 400000) (disch := omega) only [push_cast, ↓reduceIte, reduceCtorEq, Nat.reduceAdd, Nat.reduceSub, Nat.reduceEqDiff, Nat.reduceLeDiff, Nat.reduceLT, Nat.reduceBEq, Nat.reduceDiv, Nat.reduceMod, Nat.reducePow, Nat.reduceMul, Int.reduceToNat, Int.reduceLT, Int.reduceLE]) | (refine W_exit ?_; simp (maxSteps := 400000) (disch := omega) only [push_cast, ↓reduceIte, reduceCtorEq, Nat.reduceAdd, Nat.reduceSub, Nat.reduceEqDiff, Nat.reduceLeDiff, Nat.reduceLT, Nat.reduceBEq, Nat.reduceDiv, Nat.reduceMod, Nat.reducePow, Nat.reduceMul, Int.reduceToNat, Int.reduceLT, Int.reduceLE]) | refine And.intro (by omega) ?_ | refine And.intro (by intro hq; (try simp only [Bool.and_eq_true, Bool.or_eq_true, Bool.and_eq_false_iff, Bool.or_eq_false_iff, decide_eq_true_eq, decide_eq_false_iff_not, Bool.not_eq_true', Bool.not_eq_false', beq_iff_eq, beq_eq_false_iff_ne, ne_eq] at hq); omega) ?_ | fail)
      refine W_condD (by rfl) (fun _ => ?_) (fun h7 => by omega)
      rw [← e2] at c41
      repeat' (first | refine WK_go ?_ | refine W_seqL ?_ | refine W_seq ?_ | (refine W_regL ?_; simp (maxSteps := 400000) (disch := omega) only [push_cast, ↓reduceIte, reduceCtorEq, Nat.reduceAdd, Nat.reduceSub, Nat.reduceEqDiff, Nat.reduceLeDiff, Nat.reduceLT, Nat.reduceBEq, Nat.reduceDiv, Nat.reduceMod, Nat.reducePow, Nat.reduceMul, Int.reduceToNat, Int.reduceLT, Int.reduceLE, e1]) | refine W_block ?_ | (refine W_skip ?_; simp (maxSteps := 400000) (disch := omega) only [push_cast, ↓reduceIte, reduceCtorEq, Nat.reduceAdd, Nat.reduceSub, Nat.reduceEqDiff, Nat.reduceLeDiff, Nat.reduceLT, Nat.reduceBEq, Nat.reduceDiv, Nat.reduceMod, Nat.reducePow, Nat.reduceMul, Int.reduceToNat, Int.reduceLT, Int.reduceLE, e1]) | (refine W_exit ?_; simp (maxSteps := 400000) (disch := omega) only [push_cast, ↓reduceIte, reduceCtorEq, Nat.reduceAdd, Nat.reduceSub, Nat.reduceEqDiff, Nat.reduceLeDiff, Nat.reduceLT, Nat.reduceBEq, Nat.reduceDiv, Nat.reduceMod, Nat.reducePow, Nat.reduceMul, Int.reduceToNat, Int.reduceLT, Int.reduceLE, e1]) | refine And.intro (by omega) ?_ | refine And.intro (by intro hq; (try simp only [Bool.and_eq_true, Bool.or_eq_true, Bool.and_eq_false_iff, Bool.or_eq_false_iff, decide_eq_true_eq, decide_eq_false_iff_not, Bool.not_eq_true', Bool.not_eq_false', beq_iff_eq, beq_eq_false_iff_ne, ne_eq] at hq); omega) ?_ | (refine CallC.now (c42) ?_; simp (maxSteps := 400000) (disch := omega) only [push_cast, ↓reduceIte, reduceCtorEq, Nat.reduceAdd, Nat.reduceSub, Nat.reduceEqDiff, Nat.reduceLeDiff, Nat.reduceLT, Nat.reduceBEq, Nat.reduceDiv, Nat.reduceMod, Nat.reducePow, Nat.reduceMul, Int.reduceToNat, Int.reduceLT, Int.reduceLE, e1]) | (refine CallC.now (c41) ?_; simp (maxSteps := 400000) (disch := omega) only [push_cast, ↓reduceIte, reduceCtorEq, Nat.reduceAdd, Nat.reduceSub, Nat.reduceEqDiff, Nat.reduceLeDiff, Nat.reduceLT, Nat.reduceBEq, Nat.reduceDiv, Nat.reduceMod, Nat.reducePow, Nat.reduceMul, Int.reduceToNat, Int.reduceLT, Int.reduceLE, e1]) | fail)
      refine ⟨rfl, trivial, Int, 0, cI, [partF (stepP l H m) (pickF ps (5 * m + 4))], rfl, by omega, fun x _ => ⟨rfl, rfl⟩, rfl, ?_⟩
      simp (maxSteps := 400000) (disch := omega) only [push_cast, ↓reduceIte, reduceCtorEq, Nat.reduceAdd, Nat.reduceSub, Nat.reduceEqDiff, Nat.reduceLeDiff, Nat.reduceLT, Nat.reduceBEq, Nat.reduceDiv, Nat.reduceMod, Nat.reducePow, Nat.reduceMul, Int.reduceToNat, Int.reduceLT, Int.reduceLE]
      refine ⟨rfl, ⟨Nat.le_of_ble_eq_true rfl, rfl⟩, trivial, [partF (stepP l H m) (pickF ps (5 * m + 4))], rfl, by first | omega | (simp; omega), by first | omega | (simp; omega), ?_⟩
      simp (maxSteps := 400000) (disch := omega) only [push_cast, ↓reduceIte, reduceCtorEq, Nat.reduceAdd, Nat.reduceSub, Nat.reduceEqDiff, Nat.reduceLeDiff, Nat.reduceLT, Nat.reduceBEq, Nat.reduceDiv, Nat.reduceMod, Nat.reducePow, Nat.reduceMul, Int.reduceToNat, Int.reduceLT, Int.reduceLE]
      repeat' (first | refine WK_go ?_ | refine W_seqL ?_ | refine W_seq ?_ | (refine W_regL ?_; simp (maxSteps := 400000) (disch := omega) only [push_cast, ↓reduceIte, reduceCtorEq, Nat.reduceAdd, Nat.reduceSub, Nat.reduceEqDiff, Nat.reduceLeDiff, Nat.reduceLT, Nat.reduceBEq, Nat.reduceDiv, Nat.reduceMod, Nat.reducePow, Nat.reduceMul, Int.reduceToNat, Int.reduceLT, Int.reduceLE, hC_end]) | refine W_block ?_ | (refine W_skip ?_; simp (maxSteps := 400000) (disch := omega) only [push_cast, ↓reduceIte, reduceCtorEq, Nat.reduceAdd, Nat.reduceSub, Nat.reduceEqDiff, Nat.reduceLeDiff, Nat.reduceLT, Nat.reduceBEq, Nat.reduceDiv, Nat.reduceMod, Nat.reducePow, Nat.reduceMul, Int.reduceToNat, Int.reduceLT, Int.reduceLE, hC_end]) | (refine W_exit ?_; simp (maxSteps := 400000) (disch := omega) only [push_cast, ↓reduceIte, reduceCtorEq, Nat.reduceAdd, Nat.reduceSub, Nat.reduceEqDiff, Nat.reduceLeDiff, Nat.reduceLT, Nat.reduceBEq, Nat.reduceDiv, Nat.reduceMod, Nat.reducePow, Nat.reduceMul, Int.reduceToNat, Int.reduceLT, Int.reduceLE, hC_end]) | refine And.intro (by omega) ?_ | refine And.intro (by intro hq; (try simp only [Bool.and_eq_true, Bool.or_eq_true, Bool.and_eq_false_iff, Bool.or_eq_false_iff, decide_eq_true_eq, decide_eq_false_iff_not, Bool.not_eq_true', Bool.not_eq_false', beq_iff_eq, beq_eq_false_iff_ne, ne_eq] at hq); omega) ?_ | fail)
      refine ⟨rfl, trivial, V4, dV4, cV, [v4of f], rfl, by omega, fun x _ => ⟨rfl, rfl⟩, rfl, ?_⟩
      simp (maxSteps := 400000) (disch := omega) only [push_cast, ↓reduceIte, reduceCtorEq, Nat.reduceAdd, Nat.reduceSub, Nat.reduceEqDiff, Nat.reduceLeDiff, Nat.reduceLT, Nat.reduceBEq, Nat.reduceDiv, Nat.reduceMod, Nat.reducePow, Nat.reduceMul, Int.reduceToNat, Int.reduceLT, Int.reduceLE]
      refine ⟨rfl, ⟨Nat.le_of_ble_eq_true rfl, rfl⟩, trivial, [v4of f], rfl, by first | omega | (simp; omega), by first | omega | (simp; omega), ?_⟩
      simp (maxSteps := 400000) (disch := omega) only [push_cast, ↓reduceIte, reduceCtorEq, Nat.reduceAdd, Nat.reduceSub, Nat.reduceEqDiff, Nat.reduceLeDiff, Nat.reduceLT, Nat.reduceBEq, Nat.reduceDiv, Nat.reduceMod, Nat.reducePow, Nat.reduceMul, Int.reduceToNat, Int.reduceLT, Int.reduceLE]
      repeat' (first | refine WK_go ?_ | refine W_seqL ?_ | refine W_seq ?_ | (refine W_regL ?_; simp (maxSteps := 400000) (disch := omega) only [push_cast, ↓reduceIte, reduceCtorEq, Nat.reduceAdd, Nat.reduceSub, Nat.reduceEqDiff, Nat.reduceLeDiff, Nat.reduceLT, Nat.reduceBEq, Nat.reduceDiv, Nat.reduceMod, Nat.reducePow, Nat.reduceMul, Int.reduceToNat, Int.reduceLT, Int.reduceLE]) | refine W_block ?_ | (refine W_skip ?_; simp (maxSteps := 400000) (disch := omega) only [push_cast, ↓reduceIte, reduceCtorEq, Nat.reduceAdd, Nat.reduceSub, Nat.reduceEqDiff, Nat.reduceLeDiff, Nat.reduceLT, Nat.reduceBEq, Nat.reduceDiv, Nat.reduceMod, Nat.reducePow, Nat.reduceMul, Int.reduceToNat, Int.reduceLT, Int.reduceLE]) | (refine W_exit ?_; simp (maxSteps := 400000) (disch := omega) only [push_cast, ↓reduceIte, reduceCtorEq, Nat.reduceAdd, Nat.reduceSub, Nat.reduceEqDiff, Nat.reduceLeDiff, Nat.reduceLT, Nat.reduceBEq, Nat.reduceDiv, Nat.reduceMod, Nat.reducePow, Nat.reduceMul, Int.reduceToNat, Int.reduceLT, Int.reduceLE]) | refine And.intro (by omega) ?_ | refine And.intro (by intro hq; (try simp only [Bool.and_eq_true, Bool.or_eq_true, Bool.and_eq_false_iff, Bool.or_eq_false_iff, decide_eq_true_eq, decide_eq_false_iff_not, Bool.not_eq_true', Bool.not_eq_false', beq_iff_eq, beq_eq_false_iff_ne, ne_eq] at hq); omega) ?_ | fail)
      refine ⟨m + 1, by omega, by omega, by rfl, ?_⟩
      rw [hhist]
      simp (maxSteps := 400000) (disch := omega) only [push_cast, ↓reduceIte, reduceCtorEq, Nat.reduceAdd, Nat.reduceSub, Nat.reduceEqDiff, Nat.reduceLeDiff, Nat.reduceLT, Nat.reduceBEq, Nat.reduceDiv, Nat.reduceMod, Nat.reducePow, Nat.reduceMul, Int.reduceToNat, Int.reduceLT, Int.reduceLE, S.mk.injEq, List.cons.injEq, Prod.mk.injEq, AV.v.injEq, Value.int.injEq, Value.bool.injEq, Blk.cells.injEq]
    · repeat' (first | refine WK_go ?_ | refine W_seqL ?_ | refine W_seq ?_ | (refine W_regL ?_; simp (maxSteps := 400000) (disch := omega) only [push_cast, ↓reduceIte, reduceCtorEq, Nat.reduceAdd, Nat.reduceSub, Nat.reduceEqDiff, Nat.reduceLeDiff, Nat.reduceLT, Nat.reduceBEq, Nat.reduceDiv, Nat.reduceMod, Nat.reducePow, Nat.reduceMul, Int.reduceToNat, Int.reduceLT, Int.reduceLE]) | refine W_block ?_ | (refine W_skip ?_; simp (maxSteps := 400000) (disch := omega) only [push_cast, ↓reduceIte, reduceCtorEq, Nat.reduceAdd, Nat.reduceSub, Nat.reduceEqDiff, Nat.reduceLeDiff, Nat.reduceLT, Nat.reduceBEq, Nat.reduceDiv, Nat.reduceMod, Nat.reducePow, Nat.reduceMul, Int.reduceToNat, Int.reduceLT, Int.reduceLE]) | (refine W_exit ?_; simp (maxSteps := 400000) (disch := omega) only [push_cast, ↓reduceIte, reduceCtorEq, Nat.reduceAdd, Nat.reduceSub, Nat.reduceEqDiff, Nat.reduceLeDiff, Nat.reduceLT, Nat.reduceBEq, Nat.reduceDiv, Nat.reduceMod, Nat.reducePow, Nat.reduceMul, Int.reduceToNat, Int.reduceLT, Int.reduceLE]) | refine And.intro (by omega) ?_ | refine And.intro (by intro hq; (try simp only [Bool.and_eq_true, Bool.or_eq_true, Bool.and_eq_false_iff, Bool.or_eq_false_iff, decide_eq_true_eq, decide_eq_false_iff_not, Bool.not_eq_true', Bool.not_eq_false', beq_iff_eq, beq_eq_false_iff_ne, ne_eq] at hq); omega) ?_ | fail)
      refine W_condD (by rfl) (fun h7 => by omega) (fun _ => ?_)
      have e2 : cBand (stepP l H m) = cBand (plS l m) := by unfold stepP; rw [if_neg hm0]
      rw [e2] at c41
      repeat' (first | refine WK_go ?_ | refine W_seqL ?_ | refine W_seq ?_ | (refine W_regL ?_; simp (maxSteps := 400000) (disch := omega) only [push_cast, ↓reduceIte, reduceCtorEq, Nat.reduceAdd, Nat.reduceSub, Nat.reduceEqDiff, Nat.reduceLeDiff, Nat.reduceLT, Nat.reduceBEq, Nat.reduceDiv, Nat.reduceMod, Nat.reducePow, Nat.reduceMul, Int.reduceToNat, Int.reduceLT, Int.reduceLE]) | refine W_block ?_ | (refine W_skip ?_; simp (maxSteps := 400000) (disch := omega) only [push_cast, ↓reduceIte, reduceCtorEq, Nat.reduceAdd, Nat.reduceSub, Nat.reduceEqDiff, Nat.reduceLeDiff, Nat.reduceLT, Nat.reduceBEq, Nat.reduceDiv, Nat.reduceMod, Nat.reducePow, Nat.reduceMul, Int.reduceToNat, Int.reduceLT, Int.reduceLE]) | (refine W_exit ?_; simp (maxSteps := 400000) (disch := omega) only [push_cast, ↓reduceIte, reduceCtorEq, Nat.reduceAdd, Nat.reduceSub, Nat.reduceEqDiff, Nat.reduceLeDiff, Nat.reduceLT, Nat.reduceBEq, Nat.reduceDiv, Nat.reduceMod, Nat.reducePow, Nat.reduceMul, Int.reduceToNat, Int.reduceLT, Int.reduceLE]) | refine And.intro (by omega) ?_ | refine And.intro (by intro hq; (try simp only [Bool.and_eq_true, Bool.or_eq_true, Bool.and_eq_false_iff, Bool.or_eq_false_iff, decide_eq_true_eq, decide_eq_false_iff_not, Bool.not_eq_true', Bool.not_eq_false', beq_iff_eq, beq_eq_false_iff_ne, ne_eq] at hq); omega) ?_ | (refine CallC.now (c42) ?_; simp (maxSteps := 400000) (disch := omega) only [push_cast, ↓reduceIte, reduceCtorEq, Nat.reduceAdd, Nat.reduceSub, Nat.reduceEqDiff, Nat.reduceLeDiff, Nat.reduceLT, Nat.reduceBEq, Nat.reduceDiv, Nat.reduceMod, Nat.reducePow, Nat.reduceMul, Int.reduceToNat, Int.reduceLT, Int.reduceLE]) | (refine CallC.now (c41) ?_; simp (maxSteps := 400000) (disch := omega) only [push_cast, ↓reduceIte, reduceCtorEq, Nat.reduceAdd, Nat.reduceSub, Nat.reduceEqDiff, Nat.reduceLeDiff, Nat.reduceLT, Nat.reduceBEq, Nat.reduceDiv, Nat.reduceMod, Nat.reducePow, Nat.reduceMul, Int.reduceToNat, Int.reduceLT, Int.reduceLE]) | fail)
      refine ⟨rfl, trivial, Int, 0, cI, [partF (stepP l H m) (pickF ps (5 * m + 4))], rfl, by omega, fun x _ => ⟨rfl, rfl⟩, rfl, ?_⟩
      simp (maxSteps := 400000) (disch := omega) only [push_cast, ↓reduceIte, reduceCtorEq, Nat.reduceAdd, Nat.reduceSub, Nat.reduceEqDiff, Nat.reduceLeDiff, Nat.reduceLT, Nat.reduceBEq, Nat.reduceDiv, Nat.reduceMod, Nat.reducePow, Nat.reduceMul, Int.reduceToNat, Int.reduceLT, Int.reduceLE]
      refine ⟨rfl, ⟨Nat.le_of_ble_eq_true rfl, rfl⟩, trivial, [partF (stepP l H m) (pickF ps (5 * m + 4))], rfl, by first | omega | (simp; omega), by first | omega | (simp; omega), ?_⟩
      simp (maxSteps := 400000) (disch := omega) only [push_cast, ↓reduceIte, reduceCtorEq, Nat.reduceAdd, Nat.reduceSub, Nat.reduceEqDiff, Nat.reduceLeDiff, Nat.reduceLT, Nat.reduceBEq, Nat.reduceDiv, Nat.reduceMod, Nat.reducePow, Nat.reduceMul, Int.reduceToNat, Int.reduceLT, Int.reduceLE]
      repeat' (first | refine WK_go ?_ | refine W_seqL ?_ | refine W_seq ?_ | (refine W_regL ?_; simp (maxSteps := 400000) (disch := omega) only [push_cast, ↓reduceIte, reduceCtorEq, Nat.reduceAdd, Nat.reduceSub, Nat.reduceEqDiff, Nat.reduceLeDiff, Nat.reduceLT, Nat.reduceBEq, Nat.reduceDiv, Nat.reduceMod, Nat.reducePow, Nat.reduceMul, Int.reduceToNat, Int.reduceLT, Int.reduceLE, hC_end]) | refine W_block ?_ | (refine W_skip ?_; simp (maxSteps := 400000) (disch := omega) only [push_cast, ↓reduceIte, reduceCtorEq, Nat.reduceAdd, Nat.reduceSub, Nat.reduceEqDiff, Nat.reduceLeDiff, Nat.reduceLT, Nat.reduceBEq, Nat.reduceDiv, Nat.reduceMod, Nat.reducePow, Nat.reduceMul, Int.reduceToNat, Int.reduceLT, Int.reduceLE, hC_end]) | (refine W_exit ?_; simp (maxSteps := 400000) (disch := omega) only [push_cast, ↓reduceIte, reduceCtorEq, Nat.reduceAdd, Nat.reduceSub, Nat.reduceEqDiff, Nat.reduceLeDiff, Nat.reduceLT, Nat.reduceBEq, Nat.reduceDiv, Nat.reduceMod, Nat.reducePow, Nat.reduceMul, Int.reduceToNat, Int.reduceLT, Int.reduceLE, hC_end]) | refine And.intro (by omega) ?_ | refine And.intro (by intro hq; (try simp only [Bool.and_eq_true, Bool.or_eq_true, Bool.and_eq_false_iff, Bool.or_eq_false_iff, decide_eq_true_eq, decide_eq_false_iff_not, Bool.not_eq_true', Bool.not_eq_false', beq_iff_eq, beq_eq_false_iff_ne, ne_eq] at hq); omega) ?_ | fail)
      refine ⟨rfl, trivial, V4, dV4, cV, [v4of f], rfl, by omega, fun x _ => ⟨rfl, rfl⟩, rfl, ?_⟩
      simp (maxSteps := 400000) (disch := omega) only [push_cast, ↓reduceIte, reduceCtorEq, Nat.reduceAdd, Nat.reduceSub, Nat.reduceEqDiff, Nat.reduceLeDiff, Nat.reduceLT, Nat.reduceBEq, Nat.reduceDiv, Nat.reduceMod, Nat.reducePow, Nat.reduceMul, Int.reduceToNat, Int.reduceLT, Int.reduceLE]
      refine ⟨rfl, ⟨Nat.le_of_ble_eq_true rfl, rfl⟩, trivial, [v4of f], rfl, by first | omega | (simp; omega), by first | omega | (simp; omega), ?_⟩
      simp (maxSteps := 400000) (disch := omega) only [push_cast, ↓reduceIte, reduceCtorEq, Nat.reduceAdd, Nat.reduceSub, Nat.reduceEqDiff, Nat.reduceLeDiff, Nat.reduceLT, Nat.reduceBEq, Nat.reduceDiv, Nat.reduceMod, Nat.reducePow, Nat.reduceMul, Int.reduceToNat, Int.reduceLT, Int.reduceLE]
      repeat' (first | refine WK_go ?_ | refine W_seqL ?_ | refine W_seq ?_ | (refine W_regL ?_; simp (maxSteps := 400000) (disch := omega) only [push_cast, ↓reduceIte, reduceCtorEq, Nat.reduceAdd, Nat.reduceSub, Nat.reduceEqDiff, Nat.reduceLeDiff, Nat.reduceLT, Nat.reduceBEq, Nat.reduceDiv, Nat.reduceMod, Nat.reducePow, Nat.reduceMul, Int.reduceToNat, Int.reduceLT, Int.reduceLE]) | refine W_block ?_ | (refine W_skip ?_; simp (maxSteps := 400000) (disch := omega) only [push_cast, ↓reduceIte, reduceCtorEq, Nat.reduceAdd, Nat.reduceSub, Nat.reduceEqDiff, Nat.reduceLeDiff, Nat.reduceLT, Nat.reduceBEq, Nat.reduceDiv, Nat.reduceMod, Nat.reducePow, Nat.reduceMul, Int.reduceToNat, Int.reduceLT, Int.reduceLE]) | (refine W_exit ?_; simp (maxSteps := 400000) (disch := omega) only [push_cast, ↓reduceIte, reduceCtorEq, Nat.reduceAdd, Nat.reduceSub, Nat.reduceEqDiff, Nat.reduceLeDiff, Nat.reduceLT, Nat.reduceBEq, Nat.reduceDiv, Nat.reduceMod, Nat.reducePow, Nat.reduceMul, Int.reduceToNat, Int.reduceLT, Int.reduceLE]) | refine And.intro (by omega) ?_ | refine And.intro (by intro hq; (try simp only [Bool.and_eq_true, Bool.or_eq_true, Bool.and_eq_false_iff, Bool.or_eq_false_iff, decide_eq_true_eq, decide_eq_false_iff_not, Bool.not_eq_true', Bool.not_eq_false', beq_iff_eq, beq_eq_false_iff_ne, ne_eq] at hq); omega) ?_ | fail)
      refine ⟨m + 1, by omega, by omega, by rfl, ?_⟩
      rw [hhist]
      simp (maxSteps := 400000) (disch := omega) only [push_cast, ↓reduceIte, reduceCtorEq, Nat.reduceAdd, Nat.reduceSub, Nat.reduceEqDiff, Nat.reduceLeDiff, Nat.reduceLT, Nat.reduceBEq, Nat.reduceDiv, Nat.reduceMod, Nat.reducePow, Nat.reduceMul, Int.reduceToNat, Int.reduceLT, Int.reduceLE, S.mk.injEq, List.cons.injEq, Prod.mk.injEq, AV.v.injEq, Value.int.injEq, Value.bool.injEq, Blk.cells.injEq]
  obtain rfl : m = mins l := by omega
  repeat' (first | refine WK_go ?_ | refine W_seqL ?_ | refine W_seq ?_ | (refine W_regL ?_; simp (maxSteps := 400000) (disch := omega) only [push_cast, ↓reduceIte, reduceCtorEq, Nat.reduceAdd, Nat.reduceSub, Nat.reduceEqDiff, Nat.reduceLeDiff, Nat.reduceLT, Nat.reduceBEq, Nat.reduceDiv, Nat.reduceMod, Nat.reducePow, Nat.reduceMul, Int.reduceToNat, Int.reduceLT, Int.reduceLE]) | refine W_block ?_ | (refine W_skip ?_; simp (maxSteps := 400000) (disch := omega) only [push_cast, ↓reduceIte, reduceCtorEq, Nat.reduceAdd, Nat.reduceSub, Nat.reduceEqDiff, Nat.reduceLeDiff, Nat.reduceLT, Nat.reduceBEq, Nat.reduceDiv, Nat.reduceMod, Nat.reducePow, Nat.reduceMul, Int.reduceToNat, Int.reduceLT, Int.reduceLE]) | (refine W_exit ?_; simp (maxSteps := 400000) (disch := omega) only [push_cast, ↓reduceIte, reduceCtorEq, Nat.reduceAdd, Nat.reduceSub, Nat.reduceEqDiff, Nat.reduceLeDiff, Nat.reduceLT, Nat.reduceBEq, Nat.reduceDiv, Nat.reduceMod, Nat.reducePow, Nat.reduceMul, Int.reduceToNat, Int.reduceLT, Int.reduceLE]) | refine And.intro (by omega) ?_ | refine And.intro (by intro hq; (try simp only [Bool.and_eq_true, Bool.or_eq_true, Bool.and_eq_false_iff, Bool.or_eq_false_iff, decide_eq_true_eq, decide_eq_false_iff_not, Bool.not_eq_true', Bool.not_eq_false', beq_iff_eq, beq_eq_false_iff_ne, ne_eq] at hq); omega) ?_ | fail)
  refine W_ret ⟨[_], ⟨⟨by simp, rfl⟩, rfl⟩, ?_⟩
  simp (maxSteps := 400000) (disch := omega) only [push_cast, ↓reduceIte, reduceCtorEq, Nat.reduceAdd, Nat.reduceSub, Nat.reduceEqDiff, Nat.reduceLeDiff, Nat.reduceLT, Nat.reduceBEq, Nat.reduceDiv, Nat.reduceMod, Nat.reducePow, Nat.reduceMul, Int.reduceToNat, Int.reduceLT, Int.reduceLE, pack, hn1, hn2]
  rfl
end Go.Proofs.Ytgijpimjfoabjaa

/- ClaimSpans: the walk. -/
namespace Go.Proofs.Ytgijpimjfoabjaa
open Go Sy
set_option maxRecDepth 100000
set_option maxHeartbeats 4000000
set_option linter.unusedVariables false
set_option linter.unusedSimpArgs false
theorem nvL (l : Log) (m k : Nat) (h : k < 4) : nth (vCells l m 4) (k * 2) = iv (vlS l k m).lo := by
  rcases k with _ | _ | _ | _ | k <;> first | rfl | omega
theorem nvH (l : Log) (m k : Nat) (h : k < 4) : nth (vCells l m 4) (k * 2 + 1) = iv (vlS l k m).hi := by
  rcases k with _ | _ | _ | _ | k <;> first | rfl | omega
theorem lvC (l : Log) (m j : Nat) : (vCells l m j).length = 8 := rfl
theorem frvC (l : Log) (m j : Nat) : frzAll (vCells l m j) = true := rfl
theorem ivC {m' : Nat → Option Blk} {n : Nat} (l : Log) (m j : Nat) : List.flatMap (ids m' n) (vCells l m j) = [] := flat_frz n _ (frvC l m j)
theorem tvC (l : Log) (m j : Nat) : List.take 8 (vCells l m j) = vCells l m j := rfl
attribute [push_cast] nvL nvH lvC frvC ivC tvC
def hC2 (f : Nat → Int) (k : Nat) (x : Int) : List AV := hC (fun j => if j = k then x else f j) (k + 1)
theorem hC2_len (f : Nat → Int) (k : Nat) (x : Int) : (hC2 f k x).length = 4 := rfl
theorem hC2_frz (f : Nat → Int) (k : Nat) (x : Int) : frzAll (hC2 f k x) = true := rfl
theorem hC2_ids {m : Nat → Option Blk} {n : Nat} (f : Nat → Int) (k : Nat) (x : Int) : List.flatMap (ids m n) (hC2 f k x) = [] := flat_frz n _ (hC2_frz f k x)
attribute [push_cast] hC2_len hC2_frz hC2_ids
end Go.Proofs.Ytgijpimjfoabjaa

/- With and Without. -/
namespace Go.Proofs.Ytgijpimjfoabjaa
open Go Sy
set_option maxRecDepth 100000
set_option maxHeartbeats 4000000
set_option linter.unusedVariables false
set_option linter.unusedSimpArgs false
theorem c65 (l : Log) (c : Clm) (g : Good l) (hc : OkC c) : Sy.Fn Try.prog 65 [crs l, aC c] (iv (canC l c)) := by
  obtain ⟨kd, h1, h2⟩ := hc.kd
  have hm := mins_pos g
  have ht := g.at0 0 (by have := g.n2; omega)
  have := fn65 l (t0 l) (places l (mins l)) (fun k => values l k (mins l)) c kd h1 h2 (by rw [places_len]; omega) (by rw [places_len]; omega) (fun k _ => by simp only [values_len, places_len]) ht
  unfold canC
  rw [show c.kind.toNat = kd by omega]
  exact this
end Go.Proofs.Ytgijpimjfoabjaa

/- ClaimProven: the walk. -/
namespace Go.Proofs.Ytgijpimjfoabjaa
open Go Sy
set_option maxRecDepth 100000
set_option maxHeartbeats 4000000
set_option linter.unusedVariables false
set_option linter.unusedSimpArgs false
end Go.Proofs.Ytgijpimjfoabjaa

