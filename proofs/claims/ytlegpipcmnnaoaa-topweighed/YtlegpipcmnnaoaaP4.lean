/- For every list of boxes, every place and both ways to lay the load the law TopWeighed returns true. -/
import Derived.Test.YtlegpipcmnnaoaaP3
import Derived.Test.YtlegpipcmnnaoaaRows
import Derived.ShutString
namespace Go.Proofs.Ytlegpipcmnnaoaa
open Go Sy
set_option maxRecDepth 100000
set_option maxHeartbeats 4000000
set_option linter.unusedVariables false
set_option linter.unusedSimpArgs false
structure Axl where
  x : Int
  limit : Int
  wheels : Int
structure Unt where
  kind : Int
  length : Int
  behind : Int
  front : Int
  rear : Int
  width : Int
  height : Int
  mass : Int
  steer : Int
  most : Int
  axles : List Axl
structure Veh where
  name : ByteArray
  units : List Unt
  fr : Int
  to : Int
def dA : Axl := ⟨0, 0, 0⟩
def cA (a : Axl) : List AV := [iv a.x, iv a.limit, iv a.wheels]
def aA (l : List Axl) : AV := .sl 3 dA cA l
def dU : Unt := ⟨0, 0, 0, 0, 0, 0, 0, 0, 0, 0, []⟩
def cU (u : Unt) : List AV := [iv u.kind, iv u.length, iv u.behind, iv u.front, iv u.rear, iv u.width, iv u.height, iv u.mass, iv u.steer, iv u.most, aA u.axles]
def aU (l : List Unt) : AV := .sl 11 dU cU l
def cV (v : Veh) : List AV := [stv v.name, aU v.units, iv v.fr, iv v.to]
theorem nA0 (a : Axl) : nth (cA a) 0 = iv a.x := rfl
theorem nA1 (a : Axl) : nth (cA a) 1 = iv a.limit := rfl
theorem nA2 (a : Axl) : nth (cA a) 2 = iv a.wheels := rfl
theorem lA (a : Axl) : (cA a).length = 3 := rfl
theorem nU0 (a : Unt) : nth (cU a) 0 = iv a.kind := rfl
theorem nU1 (a : Unt) : nth (cU a) 1 = iv a.length := rfl
theorem nU2 (a : Unt) : nth (cU a) 2 = iv a.behind := rfl
theorem nU3 (a : Unt) : nth (cU a) 3 = iv a.front := rfl
theorem nU4 (a : Unt) : nth (cU a) 4 = iv a.rear := rfl
theorem nU5 (a : Unt) : nth (cU a) 5 = iv a.width := rfl
theorem nU6 (a : Unt) : nth (cU a) 6 = iv a.height := rfl
theorem nU7 (a : Unt) : nth (cU a) 7 = iv a.mass := rfl
theorem nU8 (a : Unt) : nth (cU a) 8 = iv a.steer := rfl
theorem nU9 (a : Unt) : nth (cU a) 9 = iv a.most := rfl
theorem nU10 (a : Unt) : nth (cU a) 10 = .sl 3 dA cA a.axles := rfl
theorem lU (a : Unt) : (cU a).length = 11 := rfl
theorem nV0 (a : Veh) : nth (cV a) 0 = stv a.name := rfl
theorem nV1 (a : Veh) : nth (cV a) 1 = .sl 11 dU cU a.units := rfl
theorem nV2 (a : Veh) : nth (cV a) 2 = iv a.fr := rfl
theorem nV3 (a : Veh) : nth (cV a) 3 = iv a.to := rfl
theorem lV (a : Veh) : (cV a).length = 4 := rfl
theorem aUe (l : List Unt) : aU l = .sl 11 dU cU l := rfl
theorem aAe (l : List Axl) : aA l = .sl 3 dA cA l := rfl
theorem tA (s : Axl) : List.take 3 (cA s) = cA s := rfl
theorem frA (s : Axl) : frzAll (cA s) = true := rfl
theorem iA {m : Nat → Option Blk} {n : Nat} (s : Axl) : List.flatMap (ids m n) (cA s) = [] := flat_frz n _ (frA s)
theorem tU (s : Unt) : List.take 11 (cU s) = cU s := rfl
theorem frU (s : Unt) : frzAll (cU s) = true := rfl
theorem iU {m : Nat → Option Blk} {n : Nat} (s : Unt) : List.flatMap (ids m n) (cU s) = [] := flat_frz n _ (frU s)
theorem tV (s : Veh) : List.take 4 (cV s) = cV s := rfl
theorem frV (s : Veh) : frzAll (cV s) = true := rfl
theorem iV {m : Nat → Option Blk} {n : Nat} (s : Veh) : List.flatMap (ids m n) (cV s) = [] := flat_frz n _ (frV s)
attribute [push_cast] tA frA iA tU frU iU tV frV iV nA0 nA1 nA2 lA nU0 nU1 nU2 nU3 nU4 nU5 nU6 nU7 nU8 nU9 nU10 lU nV0 nV1 nV2 nV3 lV aUe aAe
theorem fn48 (x lo hi : Int) : Sy.Fn Try.prog 48 [iv x, iv lo, iv hi] (bv (inR x lo hi)) := by
  refine Fn_of_W mixed Xt48 rfl ?_
  repeat' (first | refine w1g ?_ | refine w1l ?_ | refine w1q ?_ | refine w1b ?_ | refine w1p ?_ | ((first | refine w1r ?_ | refine w1k ?_ | refine w1e ?_); (refine sy1 ?_; try exact True.intro)) | refine an2 ?_ | fail)
  exact W_ret ⟨[_], ⟨rfl, rfl⟩, rfl⟩
theorem fn47 (x : Int) : Sy.Fn Try.prog 47 [iv x] (bv (!inR x 0 131072)) := by
  refine Fn_of_W mixed Xt47 rfl ?_
  repeat' (first | refine w1g ?_ | refine w1l ?_ | refine w1q ?_ | refine w1b ?_ | refine w1p ?_ | ((first | refine w1r ?_ | refine w1k ?_ | refine w1e ?_ | refine CallC.now (fn48 _ _ _) ?_); (refine sy1 ?_; try exact True.intro)) | refine an2 ?_ | fail)
  exact W_ret ⟨[_], ⟨rfl, rfl⟩, rfl⟩
abbrev sa (l : List Axl) (j : Nat) : Axl := l.getD j dA
abbrev su (l : List Unt) (j : Nat) : Unt := l.getD j dU
def lastX (l : List Axl) (j : Nat) : Int := if j = 0 then 0 else (sa l (j - 1)).x
def axB (u : Unt) (j : Nat) : Bool := inR (sa u.axles j).x (lastX u.axles j) (u.length + u.rear) && inR (sa u.axles j).limit 1 1048576 && decide (1 ≤ (sa u.axles j).wheels) && decide ((sa u.axles j).wheels ≤ 16)
def axOK (u : Unt) : Bool := (List.range u.axles.length).all (axB u)
def hd1 (u : Unt) : Prop := (0 ≤ u.kind ∧ u.kind ≤ 3) ∧ (100 ≤ u.length ∧ u.length ≤ 131072) ∧ (-u.length ≤ u.behind ∧ u.behind ≤ 131072) ∧ (0 ≤ u.front ∧ u.front ≤ 131072) ∧ (0 ≤ u.rear ∧ u.rear ≤ 131072) ∧ (0 ≤ u.width ∧ u.width ≤ 131072) ∧ (0 ≤ u.height ∧ u.height ≤ 131072)
def hd2 (u : Unt) : Prop := (1 ≤ u.mass ∧ u.mass ≤ 1048576) ∧ (0 ≤ u.steer ∧ u.steer ≤ 900) ∧ (0 ≤ u.most ∧ u.most ≤ 40) ∧ 0 < u.axles.length
instance (u : Unt) : Decidable (hd1 u) := by unfold hd1; infer_instance
instance (u : Unt) : Decidable (hd2 u) := by unfold hd2; infer_instance
def unitB (u : Unt) : Bool := decide (hd1 u) && decide (hd2 u) && axOK u
theorem axOK_no {u : Unt} {i : Nat} (hi : i < u.axles.length) (h : axB u i = false) : axOK u = false := by
  rw [← Bool.not_eq_true]
  unfold axOK
  rw [List.all_eq_true]
  intro q
  rw [q i (by simpa using hi)] at h; cases h
theorem axOK_yes {u : Unt} (h : ∀ j, j < u.axles.length → axB u j = true) : axOK u = true := by
  unfold axOK
  rw [List.all_eq_true]
  intro j hj
  exact h j (by simpa using hj)
theorem unitB_no1 {u : Unt} (h : ¬ hd1 u) : unitB u = false := by unfold unitB; rw [decide_eq_false h, Bool.false_and, Bool.false_and]
theorem unitB_no2 {u : Unt} (h1 : hd1 u) (h : ¬ hd2 u) : unitB u = false := by unfold unitB; rw [decide_eq_true h1, decide_eq_false h, Bool.true_and, Bool.false_and]
theorem unitB_ax {u : Unt} (h1 : hd1 u) (h : hd2 u) : unitB u = axOK u := by unfold unitB; rw [decide_eq_true h1, decide_eq_true h, Bool.true_and, Bool.true_and]
theorem fn30 (u : Unt) (hl : u.axles.length ≤ 140737488355328) : Sy.Fn Try.prog 30 [.agg (cU u)] (bv (unitB u)) := by
  refine Fn_of_W mixed Xt30 rfl ?_
  have c46 := fn46 [u.front, u.rear, u.width, u.height] (Nat.le_of_ble_eq_true rfl) 47 [] [] (fun x => !inR x 0 131072) (fun x _ => fn47 x)
  repeat' (first | refine w1g ?_ | refine w1l ?_ | refine w1q ?_ | refine w1b ?_ | refine w1p ?_ | ((first | refine w1r ?_ | refine w1k ?_ | refine w1e ?_); (refine sy1 ?_; try exact True.intro)) | refine an2 ?_ | fail)
  refine ⟨rfl, trivial, Int, 0, cI, [u.front, u.rear, u.width, u.height], rfl, by omega, fun x _ => ⟨rfl, rfl⟩, rfl, ?_⟩
  (refine sy1 ?_; try exact True.intro)
  repeat' (first | refine w1g ?_ | refine w1l ?_ | refine w1q ?_ | refine w1b ?_ | refine w1p ?_ | ((first | refine w1r ?_ | refine w1k ?_ | refine w1e ?_ | refine CallC.go _ (fun _ => ⟨trivial, c46⟩) rfl ?_ | refine CallC.go _ (fun _ => ⟨trivial, fn48 _ _ _⟩) rfl ?_); (refine sy1 ?_; try exact True.intro)) | refine an2 ?_ | fail)
  refine W_cond (by rfl) (fun h => ?_) (fun h => ?_)
  · have hno : ¬ hd1 u := by
      rintro ⟨a0, a1, a2, a3, a4, a5, a6⟩
      rw [wrap64 ⟨by omega, by omega⟩] at h
      simp only [inR, Bool.or_eq_true, Bool.or_eq_false_iff, Bool.and_eq_true, Bool.and_eq_false_iff, Bool.not_not, Bool.not_eq_true', Bool.not_eq_false', decide_eq_true_eq, decide_eq_false_iff_not, Bool.not_or, Bool.not_and] at h
      omega
    rw [unitB_no1 hno]
    repeat' (first | refine w1g ?_ | refine w1l ?_ | refine w1q ?_ | refine w1b ?_ | refine w1p ?_ | ((first | refine w1r ?_ | refine w1k ?_ | refine w1e ?_); (refine sy1 ?_; try exact True.intro)) | refine an2 ?_ | fail)
    exact W_ret ⟨[_], ⟨rfl, rfl⟩, rfl⟩
  have h1 : hd1 u := by
    by_cases hL : 100 ≤ u.length ∧ u.length ≤ 131072
    · rw [wrap64 ⟨by omega, by omega⟩] at h
      simp only [inR, Bool.or_eq_true, Bool.or_eq_false_iff, Bool.and_eq_true, Bool.and_eq_false_iff, Bool.not_not, Bool.not_eq_true', Bool.not_eq_false', decide_eq_true_eq, decide_eq_false_iff_not, Bool.not_or, Bool.not_and] at h
      unfold hd1
      omega
    · exfalso
      generalize IntKind.i64.wrap (0 - u.length) = w at h
      simp only [inR, Bool.or_eq_true, Bool.or_eq_false_iff, Bool.and_eq_true, Bool.and_eq_false_iff, Bool.not_not, Bool.not_eq_true', Bool.not_eq_false', decide_eq_true_eq, decide_eq_false_iff_not, Bool.not_or, Bool.not_and] at h
      omega
  repeat' (first | refine w1g ?_ | refine w1l ?_ | refine w1q ?_ | refine w1b ?_ | refine w1p ?_ | ((first | refine w1r ?_ | refine w1k ?_ | refine w1e ?_ | refine CallC.now (fn48 _ _ _) ?_ | refine CallC.go _ (fun _ => ⟨trivial, fn48 _ _ _⟩) rfl ?_); (refine sy1 ?_; try exact True.intro)) | refine an2 ?_ | fail)
  refine W_cond (by rfl) (fun h => ?_) (fun h => ?_)
  · have hno : ¬ hd2 u := by
      rintro ⟨a0, a1, a2, a3⟩
      simp only [inR, Bool.or_eq_true, Bool.or_eq_false_iff, Bool.and_eq_true, Bool.and_eq_false_iff, Bool.not_not, Bool.not_eq_true', Bool.not_eq_false', decide_eq_true_eq, decide_eq_false_iff_not, Bool.not_or, Bool.not_and, beq_iff_eq] at h
      omega
    rw [unitB_no2 h1 hno]
    repeat' (first | refine w1g ?_ | refine w1l ?_ | refine w1q ?_ | refine w1b ?_ | refine w1p ?_ | ((first | refine w1r ?_ | refine w1k ?_ | refine w1e ?_); (refine sy1 ?_; try exact True.intro)) | refine an2 ?_ | fail)
    exact W_ret ⟨[_], ⟨rfl, rfl⟩, rfl⟩
  have h2 : hd2 u := by
    simp only [inR, Bool.or_eq_true, Bool.or_eq_false_iff, Bool.and_eq_true, Bool.and_eq_false_iff, Bool.not_not, Bool.not_eq_true', Bool.not_eq_false', decide_eq_true_eq, decide_eq_false_iff_not, Bool.not_or, Bool.not_and, beq_eq_false_iff_ne] at h
    unfold hd2
    omega
  rw [unitB_ax h1 h2]
  repeat' (first | refine w1g ?_ | refine w1l ?_ | refine w1q ?_ | refine w1b ?_ | refine w1p ?_ | ((first | refine w1r ?_ | refine w1k ?_ | refine w1e ?_); (refine sy1 ?_; try exact True.intro)) | refine an2 ?_ | fail)
  refine W_loopU (fun i : Nat => [(4, iv (lastX u.axles i)), (74, iv i)]) (fun i => []) (fun i => i ≤ u.axles.length ∧ ∀ j, j < i → axB u j = true) (fun i => u.axles.length - i) 0 ⟨by omega, fun j hj => by omega⟩ (by rfl) (by rfl) (fun i hi => ?_)
  obtain ⟨hi, hall⟩ := hi
  obtain ⟨a0, a1, a2, a3, a4, a5, a6⟩ := h1
  (refine sy1 ?_; try exact True.intro)
  repeat' (first | refine w1g ?_ | refine w1l ?_ | refine w1q ?_ | refine w1b ?_ | refine w1p ?_ | ((first | refine w1r ?_ | refine w1k ?_ | refine w1e ?_); (refine sy1 ?_; try exact True.intro)) | refine an2 ?_ | fail)
  refine W_condD (by rfl) (fun h5 => ?_) (fun h5 => ?_)
  · have hlt : i < u.axles.length := by omega
    have hsp : u.axles.getD i dA = sa u.axles i := rfl
    have hls : lastX u.axles (i + 1) = (sa u.axles i).x := by unfold lastX; rw [if_neg (by omega), Nat.add_sub_cancel]
    have hab : axB u i = (inR (sa u.axles i).x (lastX u.axles i) (u.length + u.rear) && inR (sa u.axles i).limit 1 1048576 && decide (1 ≤ (sa u.axles i).wheels) && decide ((sa u.axles i).wheels ≤ 16)) := rfl
    generalize hs : sa u.axles i = a at *
    repeat' (first | refine w1g ?_ | refine w1l ?_ | refine w1q ?_ | refine w1b ?_ | refine w1p ?_ | ((first | refine w1r ?_ | refine w1k ?_ | refine w1e ?_ | refine CallC.now (fn48 _ _ _) ?_ | refine CallC.go _ (fun _ => ⟨trivial, fn48 _ _ _⟩) rfl ?_); simp (maxSteps := 400000) (disch := omega) only [push_cast, ↓reduceIte, reduceCtorEq, Nat.reduceAdd, Nat.reduceSub, Nat.reduceEqDiff, Nat.reduceLeDiff, Nat.reduceLT, Nat.reduceBEq, Nat.reduceDiv, Nat.reduceMod, Nat.reducePow, Nat.reduceMul, Int.reduceToNat, Int.reduceLT, Int.reduceLE, hsp]) | refine an2 ?_ | fail)
    refine W_cond (by rfl) (fun hb => ?_) (fun hb => ?_)
    · have hno : axB u i = false := by
        rw [hab]
        generalize inR a.x (lastX u.axles i) (u.length + u.rear) = b1 at *
        generalize inR a.limit 1 1048576 = b2 at *
        cases b1 <;> cases b2 <;> simp at hb ⊢ <;> omega
      rw [axOK_no hlt hno]
      repeat' (first | refine w1g ?_ | refine w1l ?_ | refine w1q ?_ | refine w1b ?_ | refine w1p ?_ | ((first | refine w1r ?_ | refine w1k ?_ | refine w1e ?_); (refine sy1 ?_; try exact True.intro)) | refine an2 ?_ | fail)
      exact W_ret ⟨[_], ⟨rfl, rfl⟩, rfl⟩
    · have hyes : axB u i = true := by
        rw [hab]
        generalize inR a.x (lastX u.axles i) (u.length + u.rear) = b1 at *
        generalize inR a.limit 1 1048576 = b2 at *
        cases b1 <;> cases b2 <;> simp at hb ⊢ <;> omega
      repeat' (first | refine w1g ?_ | refine w1l ?_ | refine w1q ?_ | refine w1b ?_ | refine w1p ?_ | ((first | refine w1r ?_ | refine w1k ?_ | refine w1e ?_); (refine sy1 ?_; try exact True.intro)) | refine an2 ?_ | fail)
      refine ⟨i + 1, ⟨by omega, up_all hall hyes⟩, by omega, by rfl, ?_⟩
      rw [hls]
      (refine syE ?_; try exact True.intro)
  · rw [axOK_yes (fun j hj => hall j (by omega))]
    repeat' (first | refine w1g ?_ | refine w1l ?_ | refine w1q ?_ | refine w1b ?_ | refine w1p ?_ | ((first | refine w1r ?_ | refine w1k ?_ | refine w1e ?_); (refine sy1 ?_; try exact True.intro)) | refine an2 ?_ | fail)
    exact W_ret ⟨[_], ⟨rfl, rfl⟩, rfl⟩
end Go.Proofs.Ytlegpipcmnnaoaa

namespace Go.Proofs.Ytlegpipcmnnaoaa
open Go Sy
set_option maxRecDepth 100000
set_option maxHeartbeats 4000000
set_option linter.unusedVariables false
set_option linter.unusedSimpArgs false
theorem fn27 (u : Unt) : Sy.Fn Try.prog 27 [.agg (cU u)] (bv (decide (24 < u.axles.length))) := by
  refine Fn_of_W mixed Xt27 rfl ?_
  repeat' (first | refine w1g ?_ | refine w1l ?_ | refine w1q ?_ | refine w1b ?_ | refine w1p ?_ | ((first | refine w1r ?_ | refine w1k ?_ | refine w1e ?_); (refine sy1 ?_; try exact True.intro)) | refine an2 ?_ | fail)
  have e : decide ((24 : Int) < u.axles.length) = decide (24 < u.axles.length) := by rw [Bool.eq_iff_iff]; simp only [decide_eq_true_eq]; omega
  rw [e]
  exact W_ret ⟨[_], ⟨rfl, rfl⟩, rfl⟩
theorem fn29 (u : Unt) (hl : u.axles.length ≤ 140737488355328) : Sy.Fn Try.prog 29 [.agg (cU u)] (bv (!unitB u)) := by
  refine Fn_of_W mixed Xt29 rfl ?_
  repeat' (first | refine w1g ?_ | refine w1l ?_ | refine w1q ?_ | refine w1b ?_ | refine w1p ?_ | ((first | refine w1r ?_ | refine w1k ?_ | refine w1e ?_ | refine CallC.now (fn30 u hl) ?_); (refine sy1 ?_; try exact True.intro)) | refine an2 ?_ | fail)
  exact W_ret ⟨[_], ⟨rfl, rfl⟩, rfl⟩
theorem fn43 (l : List Unt) (hl : l.length ≤ 1000000) (g : Nat) (p : Unt → Bool) (hg : ∀ x ∈ l, Sy.Fn Try.prog g [.agg (cU x)] (bv (p x))) : Sy.Fn Try.prog 43 [aU l, .clo g [] []] (iv (idxF p l 0)) := by
  refine Fn_of_W mixed Xt43 rfl ?_
  repeat' (first | refine w1g ?_ | refine w1l ?_ | refine w1q ?_ | refine w1b ?_ | refine w1p ?_ | ((first | refine w1r ?_ | refine w1k ?_ | refine w1e ?_); (refine sy1 ?_; try exact True.intro)) | refine an2 ?_ | fail)
  refine W_loopU (fun i : Nat => [(8, iv i)]) (fun i => []) (fun i => i ≤ l.length ∧ ∀ j, j < i → p (l.getD j dU) = false) (fun i => l.length - i) 0 ⟨by omega, fun j hj => by omega⟩ (by rfl) (by rfl) (fun i hi => ?_)
  obtain ⟨hi, hp⟩ := hi
  (refine sy1 ?_; try exact True.intro)
  repeat' (first | refine w1g ?_ | refine w1l ?_ | refine w1q ?_ | refine w1b ?_ | refine w1p ?_ | ((first | refine w1r ?_ | refine w1k ?_ | refine w1e ?_); (refine sy1 ?_; try exact True.intro)) | refine an2 ?_ | fail)
  refine W_condD (by rfl) (fun h => ?_) (fun h => ?_)
  · have hlt : i < l.length := by omega
    have cg := hg _ (getD_mem dU l i hlt)
    repeat' (first | refine w1g ?_ | refine w1l ?_ | refine w1q ?_ | refine w1b ?_ | refine w1p ?_ | ((first | refine w1r ?_ | refine w1k ?_ | refine w1e ?_ | refine CallC.now (cg) ?_); (refine sy1 ?_; try exact True.intro)) | refine an2 ?_ | fail)
    refine W_cond (by rfl) (fun hb => ?_) (fun hb => ?_)
    · repeat' (first | refine w1g ?_ | refine w1l ?_ | refine w1q ?_ | refine w1b ?_ | refine w1p ?_ | ((first | refine w1r ?_ | refine w1k ?_ | refine w1e ?_); (refine sy1 ?_; try exact True.intro)) | refine an2 ?_ | fail)
      exact W_ret ⟨[_], ⟨rfl, rfl⟩, by rw [idxF_at p dU l i 0 hlt hp hb, Int.zero_add]; rfl⟩
    · repeat' (first | refine w1g ?_ | refine w1l ?_ | refine w1q ?_ | refine w1b ?_ | refine w1p ?_ | ((first | refine w1r ?_ | refine w1k ?_ | refine w1e ?_); (refine sy1 ?_; try exact True.intro)) | refine an2 ?_ | fail)
      refine ⟨i + 1, ⟨by omega, up_all hp hb⟩, by omega, by rfl, ?_⟩
      (refine syE ?_; try exact True.intro)
  · repeat' (first | refine w1g ?_ | refine w1l ?_ | refine w1q ?_ | refine w1b ?_ | refine w1p ?_ | ((first | refine w1r ?_ | refine w1k ?_ | refine w1e ?_); (refine sy1 ?_; try exact True.intro)) | refine an2 ?_ | fail)
    exact W_ret ⟨[_], ⟨rfl, rfl⟩, by rw [idxF_none p dU l 0 (fun j hj => hp j (by omega))]; rfl⟩
theorem fn26 (l : List Unt) (hl : l.length ≤ 1000000) (g : Nat) (p : Unt → Bool) (hg : ∀ x ∈ l, Sy.Fn Try.prog g [.agg (cU x)] (bv (p x))) : Sy.Fn Try.prog 26 [aU l, .clo g [] []] (bv (l.any p)) := by
  refine Fn_of_W mixed Xt26 rfl ?_
  repeat' (first | refine w1g ?_ | refine w1l ?_ | refine w1q ?_ | refine w1b ?_ | refine w1p ?_ | ((first | refine w1r ?_ | refine w1k ?_ | refine w1e ?_ | refine CallC.now (fn43 l hl g p hg) ?_); (refine sy1 ?_; try exact True.intro)) | refine an2 ?_ | fail)
  exact W_ret ⟨[_], ⟨rfl, rfl⟩, by rw [← idxF_any p l 0 (by omega)]; rfl⟩
end Go.Proofs.Ytlegpipcmnnaoaa

namespace Go.Proofs.Ytlegpipcmnnaoaa
open Go Sy
set_option maxRecDepth 100000
set_option maxHeartbeats 4000000
set_option linter.unusedVariables false
set_option linter.unusedSimpArgs false
def manyB (v : Veh) : Bool := decide (12 < v.units.length) || v.units.any (fun u => decide (24 < u.axles.length))
def argP (v : Veh) : Prop := nameB v.name = false ∨ v.units.length = 0 ∨ (su v.units 0).kind ≠ 0 ∨ v.fr < 0 ∨ v.to < v.fr ∨ (v.units.length : Int) ≤ v.to
instance (v : Veh) : Decidable (argP v) := by unfold argP; infer_instance
def chkV (v : Veh) : Int := if manyB v = true then 6 else if argP v then 2 else if v.units.any (fun u => !unitB u) = true then 2 else 0
abbrev Gr (v : Veh) : Prop := v.units.length ≤ 20 ∧ ∀ u ∈ v.units, u.axles.length ≤ 40
theorem fn13 (v : Veh) (hv : Gr v) : Sy.Fn Try.prog 13 [.agg (cV v)] (iv (chkV v)) := by
  refine Fn_of_W mixed Xt13 rfl ?_
  have hl := hv.1
  have c1 := fn26 v.units (by omega) 27 (fun u => decide (24 < u.axles.length)) (fun u _ => fn27 u)
  have c2 := fn26 v.units (by omega) 29 (fun u => !unitB u) (fun u hu => fn29 u (by have := hv.2 u hu; omega))
  repeat' (first | refine w1g ?_ | refine w1l ?_ | refine w1q ?_ | refine w1b ?_ | refine w1p ?_ | ((first | refine w1r ?_ | refine w1k ?_ | refine w1e ?_ | refine CallC.go _ (fun _ => ⟨trivial, c1⟩) rfl ?_); (refine sy1 ?_; try exact True.intro)) | refine an2 ?_ | fail)
  refine W_cond (by rfl) (fun h => ?_) (fun h => ?_)
  · have e : manyB v = true := by
      unfold manyB
      rw [← h]; congr 1; rw [Bool.eq_iff_iff]; simp only [decide_eq_true_eq]; omega
    unfold chkV
    rw [if_pos e]
    repeat' (first | refine w1g ?_ | refine w1l ?_ | refine w1q ?_ | refine w1b ?_ | refine w1p ?_ | ((first | refine w1r ?_ | refine w1k ?_ | refine w1e ?_); (refine sy1 ?_; try exact True.intro)) | refine an2 ?_ | fail)
    exact W_ret ⟨[_], ⟨rfl, rfl⟩, rfl⟩
  have e : ¬ manyB v = true := by
    rw [Bool.not_eq_true]
    unfold manyB
    rw [← h]; congr 1; rw [Bool.eq_iff_iff]; simp only [decide_eq_true_eq]; omega
  unfold chkV
  rw [if_neg e]
  have hsu : v.units.getD 0 dU = su v.units 0 := rfl
  repeat' (first | refine w1g ?_ | refine w1l ?_ | refine w1q ?_ | refine w1b ?_ | refine w1p ?_ | ((first | refine w1r ?_ | refine w1k ?_ | refine w1e ?_ | refine CallC.now (fn28 _) ?_); simp (maxSteps := 400000) (disch := omega) only [push_cast, ↓reduceIte, reduceCtorEq, Nat.reduceAdd, Nat.reduceSub, Nat.reduceEqDiff, Nat.reduceLeDiff, Nat.reduceLT, Nat.reduceBEq, Nat.reduceDiv, Nat.reduceMod, Nat.reducePow, Nat.reduceMul, Int.reduceToNat, Int.reduceLT, Int.reduceLE, hsu]) | refine an2 ?_ | fail)
  refine W_cond (by rfl) (fun h => ?_) (fun h => ?_)
  · have ea : argP v := by
      unfold argP
      generalize nameB v.name = b at *
      cases b
      · exact .inl rfl
      · right
        simp only [Bool.or_eq_true, Bool.or_eq_false_iff, decide_eq_true_eq, decide_eq_false_iff_not, bne_iff_ne, beq_iff_eq, beq_eq_false_iff_ne, bne_eq_false_iff_eq, Bool.not_true, Bool.not_false, Bool.false_eq_true, false_or, true_and, reduceCtorEq, ne_eq] at h ⊢
        omega
    rw [if_pos ea]
    repeat' (first | refine w1g ?_ | refine w1l ?_ | refine w1q ?_ | refine w1b ?_ | refine w1p ?_ | ((first | refine w1r ?_ | refine w1k ?_ | refine w1e ?_); (refine sy1 ?_; try exact True.intro)) | refine an2 ?_ | fail)
    exact W_ret ⟨[_], ⟨rfl, rfl⟩, rfl⟩
  have ea : ¬ argP v := by
    unfold argP
    generalize nameB v.name = b at *
    cases b
    · simp at h
    · simp only [Bool.or_eq_true, Bool.or_eq_false_iff, decide_eq_true_eq, decide_eq_false_iff_not, bne_iff_ne, beq_iff_eq, beq_eq_false_iff_ne, bne_eq_false_iff_eq, Bool.not_true, Bool.not_false, Bool.false_eq_true, false_or, true_and, reduceCtorEq, ne_eq] at h ⊢
      omega
  rw [if_neg ea]
  repeat' (first | refine w1g ?_ | refine w1l ?_ | refine w1q ?_ | refine w1b ?_ | refine w1p ?_ | ((first | refine w1r ?_ | refine w1k ?_ | refine w1e ?_ | refine CallC.now (c2) ?_); (refine sy1 ?_; try exact True.intro)) | refine an2 ?_ | fail)
  refine W_cond (by rfl) (fun h => ?_) (fun h => ?_)
  · rw [if_pos h]
    repeat' (first | refine w1g ?_ | refine w1l ?_ | refine w1q ?_ | refine w1b ?_ | refine w1p ?_ | ((first | refine w1r ?_ | refine w1k ?_ | refine w1e ?_); (refine sy1 ?_; try exact True.intro)) | refine an2 ?_ | fail)
    exact W_ret ⟨[_], ⟨rfl, rfl⟩, rfl⟩
  · rw [if_neg (by rw [h]; decide)]
    repeat' (first | refine w1g ?_ | refine w1l ?_ | refine w1q ?_ | refine w1b ?_ | refine w1p ?_ | ((first | refine w1r ?_ | refine w1k ?_ | refine w1e ?_); (refine sy1 ?_; try exact True.intro)) | refine an2 ?_ | fail)
    exact W_ret ⟨[_], ⟨rfl, rfl⟩, rfl⟩
end Go.Proofs.Ytlegpipcmnnaoaa

namespace Go.Proofs.Ytlegpipcmnnaoaa
open Go Sy
set_option maxRecDepth 100000
set_option linter.unusedVariables false
set_option linter.unusedSimpArgs false
theorem cdiv_le {n d : Int} (hd : 0 < d) : n ≤ cdiv n d * d ∧ cdiv n d * d < n + d := by
  unfold cdiv
  have e := Int.ediv_mul_add_emod (-n) d
  have e1 := Int.emod_nonneg (-n) (Int.ne_of_gt hd)
  have e2 := Int.emod_lt_of_pos (-n) hd
  rw [Int.neg_mul]
  omega
abbrev aG (gr : List Int) : AV := .sl 1 0 cI gr
theorem lt_mul {a b w : Int} (hw : 0 < w) (h : a * w < b * w) : a < b := Int.lt_of_mul_lt_mul_right h (Int.le_of_lt hw)
theorem cdiv_rng {m p w : Int} (hm : 0 ≤ m) (hp : 0 ≤ p ∧ p ≤ w) (hw : 0 < w) : 0 ≤ cdiv (m * p) w ∧ cdiv (m * p) w ≤ m := by
  have a1 : 0 ≤ m * p := Int.mul_nonneg hm hp.1
  have a2 : m * p ≤ m * w := Int.mul_le_mul_of_nonneg_left hp.2 hm
  obtain ⟨h1, h2⟩ := cdiv_le (n := m * p) hw
  generalize cdiv (m * p) w = c at *
  constructor
  · have : (-1) * w < c * w := by omega
    have := lt_mul hw this
    omega
  · have : c * w < (m + 1) * w := by rw [Int.add_mul]; omega
    have := lt_mul hw this
    omega
theorem up_eq {a n : Int} (ha : 0 ≤ a) (hn : 0 < n) : (a + n - 1).tdiv n = cdiv a n := by
  rw [Int.tdiv_eq_ediv_of_nonneg (by omega)]
  obtain ⟨h1, h2⟩ := cdiv_le (n := a) hn
  have b1 := Int.ediv_mul_add_emod (a + n - 1) n
  have b2 := Int.emod_nonneg (a + n - 1) (Int.ne_of_gt hn)
  have b3 := Int.emod_lt_of_pos (a + n - 1) hn
  generalize cdiv a n = c at *
  generalize (a + n - 1) / n = q at *
  generalize (a + n - 1) % n = r at *
  have d1 := lt_mul (a := c) (b := q + 1) hn (by rw [Int.add_mul]; omega)
  have d2 := lt_mul (a := q) (b := c + 1) hn (by rw [Int.add_mul]; omega)
  omega
theorem rangeD {f : Nat → Int} {n i : Nat} (h : i < n) : ((List.range n).map f).getD i 0 = f i := by simp [List.getD, h]
theorem range_map_succ {α : Type} (f : Nat → α) (n : Nat) : (List.range (n + 1)).map f = (List.range n).map f ++ [f n] := by simp [List.range_succ]
end Go.Proofs.Ytlegpipcmnnaoaa

namespace Go.Proofs.Ytlegpipcmnnaoaa
open Go Sy
set_option maxRecDepth 100000
set_option maxHeartbeats 4000000
set_option linter.unusedVariables false
set_option linter.unusedSimpArgs false
def extra (v : Veh) (m L x : Int) (i : Nat) : Int := if v.fr = v.to then (if v.fr = i then m else 0) else if v.fr = i then levL m 0 L x else if v.to = i then levR m 0 L x else 0
def each (v : Veh) (m L x : Int) (i : Nat) : Int := cdiv ((su v.units i).mass + extra v m L x i) (su v.units i).axles.length
def heavy (v : Veh) (m L x : Int) (i : Nat) : Bool := (su v.units i).axles.any (fun a => decide (a.limit < each v m L x i))
def axE (v : Veh) (m L x : Int) : Int := if chkV v ≠ 0 then chkV v else if (!okMass m || !inR L 1 16777216) = true then 3 else if inR x 0 L = false then 19 else if (List.range v.units.length).any (heavy v m L x) = true then 14 else 0
def axL (v : Veh) (m L x : Int) : List Int := if axE v m L x = 0 then (List.range v.units.length).map (each v m L x) else []
theorem range_any {p : Nat → Bool} {n i : Nat} (hi : i < n) (h : p i = true) : (List.range n).any p = true := List.any_eq_true.2 ⟨i, by simpa using hi, h⟩
theorem range_none {p : Nat → Bool} {n : Nat} (h : ∀ j, j < n → p j = false) : (List.range n).any p = false := by
  rw [← Bool.not_eq_true, List.any_eq_true]
  rintro ⟨j, hj, hp⟩
  rw [h j (by simpa using hj)] at hp; cases hp
theorem chkV_ok {v : Veh} (h : chkV v = 0) : v.units.length ≤ 12 ∧ (∀ i, i < v.units.length → hd1 (su v.units i) ∧ hd2 (su v.units i) ∧ (su v.units i).axles.length ≤ 24) ∧ 0 < v.units.length ∧ 0 ≤ v.fr ∧ v.fr ≤ v.to ∧ v.to < v.units.length := by
  unfold chkV at h
  by_cases h1 : manyB v = true
  · rw [if_pos h1] at h; omega
  rw [if_neg h1] at h
  by_cases h2 : argP v
  · rw [if_pos h2] at h; omega
  rw [if_neg h2] at h
  by_cases h3 : (v.units.any fun u => !unitB u) = true
  · rw [if_pos h3] at h; omega
  rw [Bool.not_eq_true] at h1 h3
  unfold manyB at h1
  rw [Bool.or_eq_false_iff, decide_eq_false_iff_not, ← Bool.not_eq_true, List.any_eq_true] at h1
  rw [← Bool.not_eq_true, List.any_eq_true] at h3
  unfold argP at h2
  simp only [not_or] at h2
  refine ⟨by omega, fun i hi => ?_, by omega, by omega, by omega, by omega⟩
  have hm := getD_mem dU v.units i hi
  have hu : unitB (su v.units i) = true := by
    rw [← Bool.not_eq_false]
    intro q
    exact h3 ⟨_, hm, by rw [q]; rfl⟩
  unfold unitB at hu
  simp only [Bool.and_eq_true, decide_eq_true_eq] at hu
  refine ⟨hu.1.1, hu.1.2, ?_⟩
  apply Classical.byContradiction
  intro q
  exact h1.2 ⟨_, hm, decide_eq_true (show 24 < (su v.units i).axles.length by omega)⟩
structure AxOK (v : Veh) (m L x : Int) : Prop where
  ch : chkV v = 0
  hm : 1 ≤ m ∧ m ≤ 16777216
  hL : 1 ≤ L ∧ L ≤ 16777216
  hx : 0 ≤ x ∧ x ≤ L
theorem AxOK.lev {v : Veh} {m L x : Int} (h : AxOK v m L x) : levE m 0 L x = 0 := by
  have hm := h.hm; have hL := h.hL; have hx := h.hx
  unfold levE okMass okPlace
  rw [if_neg, if_neg (by omega), if_neg]
  · rw [Bool.not_eq_false, inR_iff]; exact hx
  · rw [Bool.not_eq_true]
    simp only [Bool.or_eq_false_iff, Bool.not_eq_false', inR_iff]
    omega
theorem AxOK.lr {v : Veh} {m L x : Int} (h : AxOK v m L x) : (0 ≤ levL m 0 L x ∧ levL m 0 L x ≤ m) ∧ 0 ≤ levR m 0 L x ∧ levR m 0 L x ≤ m := by
  have hm := h.hm; have hL := h.hL; have hx := h.hx
  unfold levL levR
  rw [if_pos h.lev, if_pos h.lev]
  exact ⟨cdiv_rng (by omega) (by omega) (by omega), cdiv_rng (by omega) (by omega) (by omega)⟩
theorem AxOK.ex {v : Veh} {m L x : Int} (h : AxOK v m L x) (i : Nat) : 0 ≤ extra v m L x i ∧ extra v m L x i ≤ m := by
  have hm := h.hm
  have := h.lr
  unfold extra
  repeat' split
  all_goals omega
theorem AxOK.ea {v : Veh} {m L x : Int} (h : AxOK v m L x) {i : Nat} (hi : i < v.units.length) : (1 ≤ (su v.units i).mass ∧ (su v.units i).mass ≤ 1048576) ∧ (1 ≤ ((su v.units i).axles.length : Int) ∧ ((su v.units i).axles.length : Int) ≤ 24) ∧ (0 ≤ each v m L x i ∧ each v m L x i ≤ 17825792) ∧ ((su v.units i).mass + extra v m L x i + (su v.units i).axles.length - 1).tdiv (su v.units i).axles.length = each v m L x i := by
  have hm := h.hm
  have he := h.ex i
  obtain ⟨_, h2, h3⟩ := (chkV_ok h.ch).2.1 i hi
  obtain ⟨m1, _, _, m4⟩ := h2
  unfold each
  refine ⟨m1, by omega, ?_, up_eq (by omega) (by omega)⟩
  have r := cdiv_le (n := (su v.units i).mass + extra v m L x i) (d := (su v.units i).axles.length) (by omega)
  generalize cdiv ((su v.units i).mass + extra v m L x i) (su v.units i).axles.length = c at *
  have hn : 0 < ((su v.units i).axles.length : Int) := by omega
  generalize ((su v.units i).axles.length : Int) = n at *
  constructor
  · have : (-1) * n < c * n := by omega
    have := lt_mul hn this
    omega
  · apply Classical.byContradiction
    intro q
    have : 17825793 * n ≤ c * n := Int.mul_le_mul_of_nonneg_right (by omega) (by omega)
    omega
theorem ext_one {v : Veh} {m L x : Int} (h0 : 0 ≤ v.fr) (h : v.fr = v.to) : (List.replicate v.units.length (0 : Int)).set v.fr.toNat m = (List.range v.units.length).map (extra v m L x) := by
  apply List.ext_getElem
  · simp
  · intro j h1 h2
    simp only [List.getElem_set, List.getElem_replicate, List.getElem_map, List.getElem_range]
    unfold extra
    rw [if_pos h]
    by_cases q : v.fr = j
    · rw [if_pos (by omega), if_pos q]
    · rw [if_neg (by omega), if_neg q]
theorem ext_two {v : Veh} {m L x : Int} (h0 : 0 ≤ v.fr) (h : v.fr < v.to) : ((List.replicate v.units.length (0 : Int)).set v.fr.toNat (levL m 0 L x)).set v.to.toNat (levR m 0 L x) = (List.range v.units.length).map (extra v m L x) := by
  apply List.ext_getElem
  · simp
  · intro j h1 h2
    simp only [List.getElem_set, List.getElem_replicate, List.getElem_map, List.getElem_range]
    unfold extra
    rw [if_neg (show ¬ v.fr = v.to by omega)]
    by_cases q : v.to = j
    · rw [if_pos (show v.to.toNat = j by omega), if_neg (show ¬ v.fr = (j : Int) by omega), if_pos q]
    · rw [if_neg (show ¬ v.to.toNat = j by omega)]
      by_cases q2 : v.fr = j
      · rw [if_pos (show v.fr.toNat = j by omega), if_pos q2]
      · rw [if_neg (show ¬ v.fr.toNat = j by omega), if_neg q2, if_neg q]
theorem fn20 (a : Axl) (n : Int) : Sy.Fn Try.prog 20 [.agg (cA a), .fp [iv n] 0] (bv (decide (a.limit < n))) := by
  refine Fn_of_W mixed Xt20 rfl ?_
  repeat' (first | refine w1g ?_ | refine w1l ?_ | refine w1q ?_ | refine w1b ?_ | refine w1p ?_ | ((first | refine w1r ?_ | refine w1k ?_ | refine w1e ?_); (refine sy1 ?_; try exact True.intro)) | refine an2 ?_ | fail)
  exact W_ret ⟨[_], ⟨rfl, rfl⟩, rfl⟩
theorem fn41 (l : List Axl) (hl : l.length ≤ 1000000) (n : Int) : Sy.Fn Try.prog 41 [aA l, .clo 20 [] [.fp [iv n] 0]] (iv (idxF (fun a => decide (a.limit < n)) l 0)) := by
  refine Fn_of_W mixed Xt41 rfl ?_
  repeat' (first | refine w1g ?_ | refine w1l ?_ | refine w1q ?_ | refine w1b ?_ | refine w1p ?_ | ((first | refine w1r ?_ | refine w1k ?_ | refine w1e ?_); (refine sy1 ?_; try exact True.intro)) | refine an2 ?_ | fail)
  refine W_loopU (fun i : Nat => [(8, iv i)]) (fun i => []) (fun i => i ≤ l.length ∧ ∀ j, j < i → decide ((l.getD j dA).limit < n) = false) (fun i => l.length - i) 0 ⟨by omega, fun j hj => by omega⟩ (by rfl) (by rfl) (fun i hi => ?_)
  obtain ⟨hi, hp⟩ := hi
  (refine sy1 ?_; try exact True.intro)
  repeat' (first | refine w1g ?_ | refine w1l ?_ | refine w1q ?_ | refine w1b ?_ | refine w1p ?_ | ((first | refine w1r ?_ | refine w1k ?_ | refine w1e ?_); (refine sy1 ?_; try exact True.intro)) | refine an2 ?_ | fail)
  refine W_condD (by rfl) (fun h => ?_) (fun h => ?_)
  · have hlt : i < l.length := by omega
    have cg := fn20 (l.getD i dA) n
    repeat' (first | refine w1g ?_ | refine w1l ?_ | refine w1q ?_ | refine w1b ?_ | refine w1p ?_ | ((first | refine w1r ?_ | refine w1k ?_ | refine w1e ?_ | refine CallC.now (cg) ?_); (refine sy1 ?_; try exact True.intro)) | refine an2 ?_ | fail)
    refine W_cond (by rfl) (fun hb => ?_) (fun hb => ?_)
    · repeat' (first | refine w1g ?_ | refine w1l ?_ | refine w1q ?_ | refine w1b ?_ | refine w1p ?_ | ((first | refine w1r ?_ | refine w1k ?_ | refine w1e ?_); (refine sy1 ?_; try exact True.intro)) | refine an2 ?_ | fail)
      exact W_ret ⟨[_], ⟨rfl, rfl⟩, by rw [idxF_at (fun a => decide (a.limit < n)) dA l i 0 hlt hp hb, Int.zero_add]; rfl⟩
    · repeat' (first | refine w1g ?_ | refine w1l ?_ | refine w1q ?_ | refine w1b ?_ | refine w1p ?_ | ((first | refine w1r ?_ | refine w1k ?_ | refine w1e ?_); (refine sy1 ?_; try exact True.intro)) | refine an2 ?_ | fail)
      refine ⟨i + 1, ⟨by omega, up_all hp hb⟩, by omega, by rfl, ?_⟩
      (refine syE ?_; try exact True.intro)
  · repeat' (first | refine w1g ?_ | refine w1l ?_ | refine w1q ?_ | refine w1b ?_ | refine w1p ?_ | ((first | refine w1r ?_ | refine w1k ?_ | refine w1e ?_); (refine sy1 ?_; try exact True.intro)) | refine an2 ?_ | fail)
    exact W_ret ⟨[_], ⟨rfl, rfl⟩, by rw [idxF_none (fun a => decide (a.limit < n)) dA l 0 (fun j hj => hp j (by omega))]; rfl⟩
theorem fn19 (l : List Axl) (hl : l.length ≤ 1000000) (n : Int) : Sy.Fn Try.prog 19 [aA l, .clo 20 [] [.fp [iv n] 0]] (bv (l.any (fun a => decide (a.limit < n)))) := by
  refine Fn_of_W mixed Xt19 rfl ?_
  repeat' (first | refine w1g ?_ | refine w1l ?_ | refine w1q ?_ | refine w1b ?_ | refine w1p ?_ | ((first | refine w1r ?_ | refine w1k ?_ | refine w1e ?_ | refine CallC.now (fn41 l hl n) ?_); (refine sy1 ?_; try exact True.intro)) | refine an2 ?_ | fail)
  exact W_ret ⟨[_], ⟨rfl, rfl⟩, by rw [← idxF_any _ l 0 (by omega)]; rfl⟩
theorem fn10 (v : Veh) (m L x : Int) (hv : Gr v) : Sy.Fn Try.prog 10 [.agg (cV v), iv m, iv L, iv x] (.tup [aG (axL v m L x), iv (axE v m L x)]) := by
  refine Fn_of_W mixed Xt10 rfl ?_
  have hl := hv.1
  have hsu : ∀ j, v.units.getD j dU = su v.units j := fun j => rfl
  repeat' (first | refine w1g ?_ | refine w1l ?_ | refine w1q ?_ | refine w1b ?_ | refine w1p ?_ | ((first | refine w1r ?_ | refine w1k ?_ | refine w1e ?_ | refine CallC.now (fn13 v hv) ?_); (refine sy1 ?_; try exact True.intro)) | refine an2 ?_ | fail)
  refine W_cond (by rfl) (fun h => ?_) (fun h => ?_)
  · have hc : chkV v ≠ 0 := by simpa using h
    have e : axE v m L x = chkV v := by unfold axE; rw [if_pos hc]
    have e2 : axL v m L x = [] := by unfold axL; rw [e, if_neg hc]
    rw [e, e2]
    repeat' (first | refine w1g ?_ | refine w1l ?_ | refine w1q ?_ | refine w1b ?_ | refine w1p ?_ | ((first | refine w1r ?_ | refine w1k ?_ | refine w1e ?_); (refine sy1 ?_; try exact True.intro)) | refine an2 ?_ | fail)
    refine W_le (le_nil 8 1 0 cI rfl) ?_
    exact W_ret ⟨[_, _], ⟨rfl, rfl, rfl⟩, rfl⟩
  have hc : chkV v = 0 := by simpa using h
  have he0 : axE v m L x = if (!okMass m || !inR L 1 16777216) = true then 3 else if inR x 0 L = false then 19 else if (List.range v.units.length).any (heavy v m L x) = true then 14 else 0 := by unfold axE; rw [if_neg (by rw [hc]; decide)]
  repeat' (first | refine w1g ?_ | refine w1l ?_ | refine w1q ?_ | refine w1b ?_ | refine w1p ?_ | ((first | refine w1r ?_ | refine w1k ?_ | refine w1e ?_ | refine CallC.now (fn17 _) ?_ | refine CallC.go _ (fun _ => ⟨trivial, fn18 _ _ _⟩) rfl ?_); (refine sy1 ?_; try exact True.intro)) | refine an2 ?_ | fail)
  refine W_cond (by rfl) (fun h1 => ?_) (fun h1 => ?_)
  · have e : axE v m L x = 3 := by rw [he0, if_pos h1]
    have e2 : axL v m L x = [] := by unfold axL; rw [e]; rfl
    rw [e, e2]
    repeat' (first | refine w1g ?_ | refine w1l ?_ | refine w1q ?_ | refine w1b ?_ | refine w1p ?_ | ((first | refine w1r ?_ | refine w1k ?_ | refine w1e ?_); (refine sy1 ?_; try exact True.intro)) | refine an2 ?_ | fail)
    refine W_le (le_nil 8 1 0 cI rfl) ?_
    exact W_ret ⟨[_, _], ⟨rfl, rfl, rfl⟩, rfl⟩
  rw [if_neg (by rw [h1]; decide)] at he0
  repeat' (first | refine w1g ?_ | refine w1l ?_ | refine w1q ?_ | refine w1b ?_ | refine w1p ?_ | ((first | refine w1r ?_ | refine w1k ?_ | refine w1e ?_ | refine CallC.now (fn18 _ _ _) ?_); (refine sy1 ?_; try exact True.intro)) | refine an2 ?_ | fail)
  refine W_cond (by rfl) (fun h2 => ?_) (fun h2 => ?_)
  · have e : axE v m L x = 19 := by rw [he0, if_pos (by simpa using h2)]
    have e2 : axL v m L x = [] := by unfold axL; rw [e]; rfl
    rw [e, e2]
    repeat' (first | refine w1g ?_ | refine w1l ?_ | refine w1q ?_ | refine w1b ?_ | refine w1p ?_ | ((first | refine w1r ?_ | refine w1k ?_ | refine w1e ?_); (refine sy1 ?_; try exact True.intro)) | refine an2 ?_ | fail)
    refine W_le (le_nil 8 1 0 cI rfl) ?_
    exact W_ret ⟨[_, _], ⟨rfl, rfl, rfl⟩, rfl⟩
  rw [if_neg (by simpa using h2)] at he0
  have hok : AxOK v m L x := ⟨hc, by
    rw [Bool.or_eq_false_iff, Bool.not_eq_false', Bool.not_eq_false'] at h1
    exact inR_iff.1 h1.1, by
    rw [Bool.or_eq_false_iff, Bool.not_eq_false', Bool.not_eq_false'] at h1
    exact inR_iff.1 h1.2, by
    rw [Bool.not_eq_false'] at h2
    exact inR_iff.1 h2⟩
  obtain ⟨hl12, hun, hl0, hfr, hft, hto⟩ := chkV_ok hc
  repeat' (first | refine w1g ?_ | refine w1l ?_ | refine w1q ?_ | refine w1b ?_ | refine w1p ?_ | ((first | refine w1r ?_ | refine w1k ?_ | refine w1e ?_); (refine sy1 ?_; try exact True.intro)) | refine an2 ?_ | fail)
  refine ⟨rfl, ⟨by omega, by omega, by omega⟩, Int, 0, cI, 0, rfl, rfl, by omega, rfl, ?_⟩
  simp (maxSteps := 400000) (disch := omega) only [push_cast, ↓reduceIte, reduceCtorEq, Nat.reduceAdd, Nat.reduceSub, Nat.reduceEqDiff, Nat.reduceLeDiff, Nat.reduceLT, Nat.reduceBEq, Nat.reduceDiv, Nat.reduceMod, Nat.reducePow, Nat.reduceMul, Int.reduceToNat, Int.reduceLT, Int.reduceLE, Int.toNat_natCast]
  have hrl : (List.replicate v.units.length (0 : Int)).length = v.units.length := List.length_replicate ..
  have c15 := fn15 m 0 L x
  repeat' (first | refine w1g ?_ | refine w1l ?_ | refine w1q ?_ | refine w1b ?_ | refine w1p ?_ | ((first | refine w1r ?_ | refine w1k ?_ | refine w1e ?_); (refine sy1 ?_; try exact True.intro)) | refine an2 ?_ | fail)
  refine W_meet [] [(25, .row 0 2 1 0 cI ((List.range v.units.length).map (extra v m L x)))] ?_ ?_
  · refine W_cond (by rfl) (fun h3 => ?_) (fun h3 => ?_)
    · repeat' (first | refine w1g ?_ | refine w1l ?_ | refine w1q ?_ | refine w1b ?_ | refine w1p ?_ | ((first | refine w1r ?_ | refine w1k ?_ | refine w1e ?_); simp (maxSteps := 400000) (disch := omega) only [push_cast, ↓reduceIte, reduceCtorEq, Nat.reduceAdd, Nat.reduceSub, Nat.reduceEqDiff, Nat.reduceLeDiff, Nat.reduceLT, Nat.reduceBEq, Nat.reduceDiv, Nat.reduceMod, Nat.reducePow, Nat.reduceMul, Int.reduceToNat, Int.reduceLT, Int.reduceLE, hrl]) | refine an2 ?_ | fail)
      refine ⟨rfl, ⟨Nat.le_of_ble_eq_true rfl, rfl⟩, by omega, m, rfl, rfl, ?_⟩
      rw [ext_one hfr (by simpa using h3)]
      (refine sy1 ?_; try exact True.intro)
      exact ⟨rfl, by rfl⟩
    · repeat' (first | refine w1g ?_ | refine w1l ?_ | refine w1q ?_ | refine w1b ?_ | refine w1p ?_ | ((first | refine w1r ?_ | refine w1k ?_ | refine w1e ?_ | refine CallC.now (c15) ?_); simp (maxSteps := 400000) (disch := omega) only [push_cast, ↓reduceIte, reduceCtorEq, Nat.reduceAdd, Nat.reduceSub, Nat.reduceEqDiff, Nat.reduceLeDiff, Nat.reduceLT, Nat.reduceBEq, Nat.reduceDiv, Nat.reduceMod, Nat.reducePow, Nat.reduceMul, Int.reduceToNat, Int.reduceLT, Int.reduceLE, hrl, List.length_set]) | refine an2 ?_ | fail)
      refine ⟨rfl, ⟨Nat.le_of_ble_eq_true rfl, rfl⟩, by omega, levL m 0 L x, rfl, rfl, ?_⟩
      simp (maxSteps := 400000) (disch := omega) only [push_cast, ↓reduceIte, reduceCtorEq, Nat.reduceAdd, Nat.reduceSub, Nat.reduceEqDiff, Nat.reduceLeDiff, Nat.reduceLT, Nat.reduceBEq, Nat.reduceDiv, Nat.reduceMod, Nat.reducePow, Nat.reduceMul, Int.reduceToNat, Int.reduceLT, Int.reduceLE, List.length_set, hrl]
      refine ⟨by omega, ?_⟩
      refine ⟨rfl, ⟨Nat.le_of_ble_eq_true rfl, rfl⟩, by omega, levR m 0 L x, rfl, rfl, ?_⟩
      rw [ext_two hfr (by simp only [beq_eq_false_iff_ne] at h3; omega)]
      (refine sy1 ?_; try exact True.intro)
      first | exact ⟨rfl, by rfl⟩ | rfl
  repeat' (first | refine w1g ?_ | refine w1l ?_ | refine w1q ?_ | refine w1b ?_ | refine w1p ?_ | ((first | refine w1r ?_ | refine w1k ?_ | refine w1e ?_); (refine sy1 ?_; try exact True.intro)) | refine an2 ?_ | fail)
  refine W_le (le_adopt 12 2 1 (0 : Int) cI (by omega) rfl) ?_
  (refine sy1 ?_; try exact True.intro)
  have hel : ((List.range v.units.length).map (extra v m L x)).length = v.units.length := by simp
  have hed : ∀ i, i < v.units.length → ((List.range v.units.length).map (extra v m L x)).getD i 0 = extra v m L x i := fun i hi => rangeD hi
  refine W_loopU (fun i : Nat => [(12, .row 37 i), (69, iv i)]) (fun i => [(37, .row i 2 1 0 cI ((List.range i).map (each v m L x)))]) (fun i => i ≤ v.units.length ∧ ∀ j, j < i → heavy v m L x j = false) (fun i => v.units.length - i) 0 ⟨by omega, fun j hj => by omega⟩ (by rfl) (by rfl) (fun i hi => ?_)
  obtain ⟨hi, hno⟩ := hi
  (refine sy1 ?_; try exact True.intro)
  repeat' (first | refine w1g ?_ | refine w1l ?_ | refine w1q ?_ | refine w1b ?_ | refine w1p ?_ | ((first | refine w1r ?_ | refine w1k ?_ | refine w1e ?_); (refine sy1 ?_; try exact True.intro)) | refine an2 ?_ | fail)
  refine W_condD (by rfl) (fun h7 => ?_) (fun h7 => ?_)
  · have hlt : i < v.units.length := by omega
    have hrl2 : ((List.range i).map (each v m L x)).length = i := by simp
    have hrs := range_map_succ (each v m L x) i
    obtain ⟨e1, e2, e3, e4⟩ := hok.ea hlt
    have e5 := hok.ex i
    have e6 := hok.hm
    have c19 := fn19 (su v.units i).axles (by omega) (each v m L x i)
    have hh : (su v.units i).axles.any (fun a => decide (a.limit < each v m L x i)) = heavy v m L x i := rfl
    rw [hh] at c19
    repeat' (first | refine w1g ?_ | refine w1l ?_ | refine w1q ?_ | refine w1b ?_ | refine w1p ?_ | ((first | refine w1r ?_ | refine w1k ?_ | refine w1e ?_ | refine CallC.go _ (fun _ => ⟨trivial, c19⟩) rfl ?_); simp (maxSteps := 400000) (disch := omega) only [push_cast, ↓reduceIte, reduceCtorEq, Nat.reduceAdd, Nat.reduceSub, Nat.reduceEqDiff, Nat.reduceLeDiff, Nat.reduceLT, Nat.reduceBEq, Nat.reduceDiv, Nat.reduceMod, Nat.reducePow, Nat.reduceMul, Int.reduceToNat, Int.reduceLT, Int.reduceLE, hsu, hel, hed, e4]) | refine an2 ?_ | fail)
    refine W_cond (by rfl) (fun hb => ?_) (fun hb => ?_)
    · have e : axE v m L x = 14 := by rw [he0, if_pos (range_any hlt hb)]
      have e2 : axL v m L x = [] := by unfold axL; rw [e]; rfl
      rw [e, e2]
      repeat' (first | refine w1g ?_ | refine w1l ?_ | refine w1q ?_ | refine w1b ?_ | refine w1p ?_ | ((first | refine w1r ?_ | refine w1k ?_ | refine w1e ?_); (refine sy1 ?_; try exact True.intro)) | refine an2 ?_ | fail)
      refine W_le (le_nil 8 1 0 cI rfl) ?_
      exact W_ret ⟨[_, _], ⟨rfl, rfl, rfl⟩, rfl⟩
    · repeat' (first | refine w1g ?_ | refine w1l ?_ | refine w1q ?_ | refine w1b ?_ | refine w1p ?_ | ((first | refine w1r ?_ | refine w1k ?_ | refine w1e ?_); (refine sy1 ?_; try exact True.intro)) | refine an2 ?_ | fail)
      refine ⟨rfl, trivial, Int, 0, cI, [each v m L x i], rfl, by omega, fun x _ => ⟨rfl, rfl⟩, rfl, ?_⟩
      (refine sy1 ?_; try exact True.intro)
      refine ⟨rfl, ⟨Nat.le_of_ble_eq_true rfl, rfl⟩, trivial, [each v m L x i], rfl, by first | omega | (simp; omega), by first | omega | (simp; omega), ?_⟩
      (refine sy1 ?_; try exact True.intro)
      repeat' (first | refine w1g ?_ | refine w1l ?_ | refine w1q ?_ | refine w1b ?_ | refine w1p ?_ | ((first | refine w1r ?_ | refine w1k ?_ | refine w1e ?_); (refine sy1 ?_; try exact True.intro)) | refine an2 ?_ | fail)
      refine ⟨i + 1, ⟨by omega, up_all hno hb⟩, by omega, by rfl, ?_⟩
      rw [hrs]
      (refine syE ?_; try exact True.intro)
  obtain rfl : i = v.units.length := by omega
  have e : axE v m L x = 0 := by rw [he0, if_neg (by rw [range_none hno]; decide)]
  have e2 : axL v m L x = (List.range v.units.length).map (each v m L x) := by unfold axL; rw [if_pos e]
  rw [e, e2]
  repeat' (first | refine w1g ?_ | refine w1l ?_ | refine w1q ?_ | refine w1b ?_ | refine w1p ?_ | ((first | refine w1r ?_ | refine w1k ?_ | refine w1e ?_); (refine sy1 ?_; try exact True.intro)) | refine an2 ?_ | fail)
  refine W_ret ⟨[_, _], ⟨rfl, rfl, rfl⟩, ?_⟩
  simp (maxSteps := 400000) (disch := omega) only [push_cast, ↓reduceIte, reduceCtorEq, Nat.reduceAdd, Nat.reduceSub, Nat.reduceEqDiff, Nat.reduceLeDiff, Nat.reduceLT, Nat.reduceBEq, Nat.reduceDiv, Nat.reduceMod, Nat.reducePow, Nat.reduceMul, Int.reduceToNat, Int.reduceLT, Int.reduceLE, pack]
end Go.Proofs.Ytlegpipcmnnaoaa

namespace Go.Proofs.Ytlegpipcmnnaoaa
open Go Sy
set_option maxRecDepth 100000
set_option linter.unusedVariables false
set_option linter.unusedSimpArgs false
abbrev byt (s : ByteArray) (i : Nat) : Nat := (s.get! i).toNat
def gC (c : Nat) : Bool := (decide (97 ≤ c) && decide (c ≤ 122)) || (decide (48 ≤ c) && decide (c ≤ 57))
theorem gC_lt {c : Nat} (h : gC c = true) : c < 128 := by
  unfold gC at h
  simp only [Bool.or_eq_true, Bool.and_eq_true, decide_eq_true_eq] at h
  omega
theorem dec_lt {s : ByteArray} {p : Nat} (h : byt s p < 128) : Utf8.decode s p = (byt s p, 1) := by
  unfold Utf8.decode
  simp only [Nat.add_zero]
  rw [if_pos h]
theorem dec_ge {s : ByteArray} {p : Nat} (h : 128 ≤ byt s p) : 128 ≤ (Utf8.decode s p).1 := by
  unfold Utf8.decode
  simp only [Nat.add_zero]
  rw [if_neg (by unfold byt at h; omega)]
  split
  · split
    · assumption
    · decide
  split
  · split
    · rename_i q; simp only [Bool.and_eq_true, decide_eq_true_eq, ge_iff_le] at q; omega
    · decide
  split
  · split
    · rename_i q; simp only [Bool.and_eq_true, decide_eq_true_eq, ge_iff_le] at q; omega
    · decide
  · decide
def goodB (s : ByteArray) : Bool := (List.range s.size).all fun i => gC (byt s i)
theorem good_iff {s : ByteArray} : goodB s = true ↔ ∀ i, i < s.size → gC (byt s i) = true := by
  unfold goodB
  rw [List.all_eq_true]
  exact ⟨fun h i hi => h i (by simpa using hi), fun h i hi => h i (by simpa using hi)⟩
def naB (s : ByteArray) : Bool := decide (1 ≤ s.size) && (decide (s.size ≤ 20) && goodB s)
theorem dec_good (s : ByteArray) (p : Nat) : gC (Utf8.decode s p).1 = gC (byt s p) ∧ (gC (byt s p) = true → Utf8.decode s p = (byt s p, 1)) := by
  by_cases h : byt s p < 128
  · rw [dec_lt h]; exact ⟨rfl, fun _ => rfl⟩
  · have h1 := dec_ge (s := s) (p := p) (by omega)
    have e1 : gC (Utf8.decode s p).1 = false := by
      rw [← Bool.not_eq_true]; intro q; have := gC_lt q; omega
    have e2 : gC (byt s p) = false := by
      rw [← Bool.not_eq_true]; intro q; have := gC_lt q; omega
    rw [e1, e2]
    exact ⟨rfl, fun q => by cases q⟩
end Go.Proofs.Ytlegpipcmnnaoaa

namespace Go.Proofs.Ytlegpipcmnnaoaa
open Go Sy
set_option maxRecDepth 100000
set_option maxHeartbeats 4000000
set_option linter.unusedVariables false
set_option linter.unusedSimpArgs false
abbrev tx (s : ByteArray) : AV := .v (.string s)
structure Pce where
  x : Int
  y : Int
  z : Int
  l : Int
  w : Int
  h : Int
  m : Int
structure Eye where
  x : Int
  y : Int
  z : Int
  st : Int
structure Lod where
  name : ByteArray
  ps : List Pce
  es : List Eye
  fr : Int
def dPc : Pce := ⟨0, 0, 0, 0, 0, 0, 0⟩
def dEy : Eye := ⟨0, 0, 0, 0⟩
abbrev cPc (p : Pce) : List AV := [iv p.x, iv p.y, iv p.z, iv p.l, iv p.w, iv p.h, iv p.m]
abbrev cEy (e : Eye) : List AV := [iv e.x, iv e.y, iv e.z, iv e.st]
abbrev aPc (l : List Pce) : AV := .sl 7 dPc cPc l
abbrev aEy (l : List Eye) : AV := .sl 4 dEy cEy l
abbrev cLd (l : Lod) : List AV := [tx l.name, aPc l.ps, aEy l.es, iv l.fr]
def pceB (p : Pce) : Bool := inR p.x (-131072) 131072 && (decide (1 ≤ p.l) && decide (p.l ≤ 131072 - p.x)) && (inR p.y (-131072) 131072 && (decide (1 ≤ p.w) && decide (p.w ≤ 131072 - p.y))) && (inR p.z 0 131072 && (decide (1 ≤ p.h) && decide (p.h ≤ 131072 - p.z))) && inR p.m 0 16777216
def eyeB (e : Eye) : Bool := inR e.x (-131072) 131072 && inR e.y (-131072) 131072 && inR e.z 0 131072 && inR e.st 0 4194304
theorem fn22 (x lo hi : Int) : Sy.Fn Try.prog 22 [iv x, iv lo, iv hi] (bv (inR x lo hi)) := by
  refine Fn_of_W mixed Xt22 rfl ?_
  repeat' (first | refine w1g ?_ | refine w1l ?_ | refine w1q ?_ | refine w1b ?_ | refine w1p ?_ | ((first | refine w1r ?_ | refine w1k ?_ | refine w1e ?_); (refine sy1 ?_; try exact True.intro)) | refine an2 ?_ | fail)
  exact W_ret ⟨[_], ⟨rfl, rfl⟩, by unfold inR; rfl⟩
theorem fn24 (e : Eye) : Sy.Fn Try.prog 24 [.agg (cEy e)] (bv (eyeB e)) := by
  refine Fn_of_W mixed Xt24 rfl ?_
  repeat' (first | refine w1g ?_ | refine w1l ?_ | refine w1q ?_ | refine w1b ?_ | refine w1p ?_ | ((first | refine w1r ?_ | refine w1k ?_ | refine w1e ?_ | refine CallC.now (fn22 _ _ _) ?_ | refine CallC.go _ (fun _ => ⟨trivial, fn22 _ _ _⟩) rfl ?_); (refine sy1 ?_; try exact True.intro)) | refine an2 ?_ | fail)
  exact W_ret ⟨[_], ⟨rfl, rfl⟩, by unfold eyeB; rfl⟩
theorem name_no {s : ByteArray} {p : Nat} (hp : p < s.size) (h : gC (byt s p) = false) : naB s = false := by
  rw [← Bool.not_eq_true]
  intro q
  unfold naB at q
  simp only [Bool.and_eq_true] at q
  rw [good_iff.1 q.2.2 p hp] at h
  cases h
theorem fn21 (s : ByteArray) : Sy.Fn Try.prog 21 [tx s] (bv (naB s)) := by
  refine Fn_of_W mixed Xt21 rfl ?_
  repeat' (first | refine w1g ?_ | refine w1l ?_ | refine w1q ?_ | refine w1b ?_ | refine w1p ?_ | ((first | refine w1r ?_ | refine w1k ?_ | refine w1e ?_); (refine sy1 ?_; try exact True.intro)) | refine an2 ?_ | fail)
  refine W_cond (by rfl) (fun h => ?_) (fun h => ?_)
  · have e : naB s = false := by
      rw [← Bool.not_eq_true]
      unfold naB
      simp only [Bool.and_eq_true, decide_eq_true_eq, Bool.or_eq_true] at h ⊢
      omega
    rw [e]
    repeat' (first | refine w1g ?_ | refine w1l ?_ | refine w1q ?_ | refine w1b ?_ | refine w1p ?_ | ((first | refine w1r ?_ | refine w1k ?_ | refine w1e ?_); (refine sy1 ?_; try exact True.intro)) | refine an2 ?_ | fail)
    exact W_ret ⟨[_], ⟨rfl, rfl⟩, rfl⟩
  simp only [Bool.or_eq_false_iff, decide_eq_false_iff_not] at h
  refine W_skip ?_
  (refine sy1 ?_; try exact True.intro)
  repeat (first | refine WK_go ?_ | refine W_seqL ?_ | refine W_seq ?_ | refine W_block ?_)
  refine W_regX [1] ?_
  simp (maxSteps := 400000) (disch := omega) only [push_cast, ↓reduceIte, reduceCtorEq, Nat.reduceAdd, Nat.reduceSub, Nat.reduceEqDiff, Nat.reduceLeDiff, Nat.reduceLT, Nat.reduceBEq, Nat.reduceDiv, Nat.reduceMod, Nat.reducePow, Nat.reduceMul, Int.reduceToNat, Int.reduceLT, Int.reduceLE, chainX, SpM, List.take_succ_cons, List.take_zero, List.drop_succ_cons, List.drop_zero]
  refine ⟨[], rfl, rfl, s, rfl, fun b => ?_⟩
  (refine sy1 ?_; try exact True.intro)
  repeat' (first | refine w1g ?_ | refine w1l ?_ | refine w1q ?_ | refine w1b ?_ | refine w1p ?_ | ((first | refine w1r ?_ | refine w1k ?_ | refine w1e ?_); (refine sy1 ?_; try exact True.intro)) | refine an2 ?_ | fail)
  refine W_loopU (fun i : Nat => []) (fun i => [(10, .oth (.si b s i))]) (fun i => i ≤ s.size ∧ ∀ j, j < i → gC (byt s j) = true) (fun i => s.size - i) 0 ⟨by omega, fun j hj => by omega⟩ (by rfl) (by rfl) (fun i hi => ?_)
  obtain ⟨hi, hall⟩ := hi
  (refine sy1 ?_; try exact True.intro)
  repeat (first | refine WK_go ?_ | refine W_seqL ?_ | refine W_seq ?_ | refine W_block ?_)
  refine W_regX [0] ?_
  simp (maxSteps := 400000) (disch := omega) only [push_cast, ↓reduceIte, reduceCtorEq, Nat.reduceAdd, Nat.reduceSub, Nat.reduceEqDiff, Nat.reduceLeDiff, Nat.reduceLT, Nat.reduceBEq, Nat.reduceDiv, Nat.reduceMod, Nat.reducePow, Nat.reduceMul, Int.reduceToNat, Int.reduceLT, Int.reduceLE, chainX, SpM, List.take_succ_cons, List.take_zero, List.drop_succ_cons, List.drop_zero]
  refine ⟨[], rfl, rfl, 10, b, s, i, rfl, rfl, ?_⟩
  by_cases hlt : i < s.size
  · obtain ⟨e1, e2⟩ := dec_good s i
    rw [show outN s i = .tup [bv true, .v (goInt i), .v (.int .i32 (Utf8.decode s i).1)] by unfold outN; rw [if_pos hlt], show advN s i = i + (Utf8.decode s i).2 by unfold advN; rw [if_pos hlt]]
    generalize (Utf8.decode s i).1 = c at *
    (refine sy1 ?_; try exact True.intro)
    repeat' (first | refine w1g ?_ | refine w1l ?_ | refine w1q ?_ | refine w1b ?_ | refine w1p ?_ | ((first | refine w1r ?_ | refine w1k ?_ | refine w1e ?_); (refine sy1 ?_; try exact True.intro)) | refine an2 ?_ | fail)
    refine W_cond (by rfl) (fun _ => ?_) (fun hz => by cases hz)
    repeat' (first | refine w1g ?_ | refine w1l ?_ | refine w1q ?_ | refine w1b ?_ | refine w1p ?_ | ((first | refine w1r ?_ | refine w1k ?_ | refine w1e ?_); (refine sy1 ?_; try exact True.intro)) | refine an2 ?_ | fail)
    have key : ((decide ((c : Int) < 97) || decide (122 < (c : Int))) && (decide ((c : Int) < 48) || decide (57 < (c : Int)))) = !gC c := by
      rw [Bool.eq_iff_iff]
      unfold gC
      simp only [Bool.and_eq_true, Bool.or_eq_true, Bool.not_eq_true', Bool.or_eq_false_iff, Bool.and_eq_false_iff, decide_eq_true_eq, decide_eq_false_iff_not]
      omega
    rw [key, e1]
    refine W_cond (by rfl) (fun hb => ?_) (fun hb => ?_)
    · rw [name_no hlt (by simpa using hb)]
      repeat' (first | refine w1g ?_ | refine w1l ?_ | refine w1q ?_ | refine w1b ?_ | refine w1p ?_ | ((first | refine w1r ?_ | refine w1k ?_ | refine w1e ?_); (refine sy1 ?_; try exact True.intro)) | refine an2 ?_ | fail)
      exact W_ret ⟨[_], ⟨rfl, rfl⟩, rfl⟩
    · have hg : gC (byt s i) = true := by simpa using hb
      rw [e2 hg]
      repeat' (first | refine w1g ?_ | refine w1l ?_ | refine w1q ?_ | refine w1b ?_ | refine w1p ?_ | ((first | refine w1r ?_ | refine w1k ?_ | refine w1e ?_); (refine sy1 ?_; try exact True.intro)) | refine an2 ?_ | fail)
      refine ⟨i + 1, ⟨by omega, up_all hall hg⟩, by omega, by rfl, ?_⟩
      (refine syE ?_; try exact True.intro)
  · rw [show outN s i = .tup [bv false] by unfold outN; rw [if_neg hlt], show advN s i = i by unfold advN; rw [if_neg hlt]]
    have e : naB s = true := by
      unfold naB
      rw [good_iff.2 (fun j hj => hall j (by omega))]
      simp only [Bool.and_true, Bool.and_eq_true, decide_eq_true_eq]
      omega
    rw [e]
    (refine sy1 ?_; try exact True.intro)
    repeat' (first | refine w1g ?_ | refine w1l ?_ | refine w1q ?_ | refine w1b ?_ | refine w1p ?_ | ((first | refine w1r ?_ | refine w1k ?_ | refine w1e ?_); (refine sy1 ?_; try exact True.intro)) | refine an2 ?_ | fail)
    refine W_cond (by rfl) (fun hz => by cases hz) (fun _ => ?_)
    repeat' (first | refine w1g ?_ | refine w1l ?_ | refine w1q ?_ | refine w1b ?_ | refine w1p ?_ | ((first | refine w1r ?_ | refine w1k ?_ | refine w1e ?_); (refine sy1 ?_; try exact True.intro)) | refine an2 ?_ | fail)
    exact W_ret ⟨[_], ⟨rfl, rfl⟩, rfl⟩
end Go.Proofs.Ytlegpipcmnnaoaa

namespace Go.Proofs.Ytlegpipcmnnaoaa
open Go Sy
set_option maxRecDepth 100000
set_option maxHeartbeats 4000000
set_option linter.unusedVariables false
set_option linter.unusedSimpArgs false
def aKB (x l lo : Int) : Bool := inR x lo 131072 && (decide (1 ≤ l) && decide (l ≤ 131072 - x))
theorem pceB_eq (p : Pce) : pceB p = (aKB p.x p.l (-131072) && aKB p.y p.w (-131072) && aKB p.z p.h 0 && inR p.m 0 16777216) := rfl
theorem ax_key (x l lo : Int) (hl : -131072 ≤ lo) : (!inR x lo 131072 || decide (l < 1) || decide (IntKind.i64.wrap (131072 - x) < l)) = !aKB x l lo := by
  unfold aKB
  by_cases h1 : inR x lo 131072 = true
  rotate_left
  · rw [Bool.not_eq_true] at h1; rw [h1]; rfl
  have g1 := inR_iff.1 h1
  rw [wrap64 ⟨by omega, by omega⟩, h1, Bool.eq_iff_iff]
  simp only [Bool.not_true, Bool.false_or, Bool.true_and, Bool.or_eq_true, Bool.not_eq_true', Bool.and_eq_false_iff, decide_eq_true_eq, decide_eq_false_iff_not]
  omega
theorem fn23 (p : Pce) : Sy.Fn Try.prog 23 [.agg (cPc p)] (bv (pceB p)) := by
  refine Fn_of_W mixed Xt23 rfl ?_
  rw [pceB_eq]
  repeat' (first | refine w1g ?_ | refine w1l ?_ | refine w1q ?_ | refine w1b ?_ | refine w1p ?_ | ((first | refine w1r ?_ | refine w1k ?_ | refine w1e ?_); (refine sy1 ?_; try exact True.intro)) | refine an2 ?_ | fail)
  refine W_loopU (fun k : Nat => [(22, iv k)]) (fun k => []) (fun k => k ≤ 3 ∧ (0 < k → aKB p.x p.l (-131072) = true) ∧ (1 < k → aKB p.y p.w (-131072) = true) ∧ (2 < k → aKB p.z p.h 0 = true)) (fun k => 3 - k) 0 ⟨by omega, by omega, by omega, by omega⟩ (by rfl) (by rfl) (fun k hk => ?_)
  obtain ⟨hk, g1, g2, g3⟩ := hk
  (refine sy1 ?_; try exact True.intro)
  repeat' (first | refine w1g ?_ | refine w1l ?_ | refine w1q ?_ | refine w1b ?_ | refine w1p ?_ | ((first | refine w1r ?_ | refine w1k ?_ | refine w1e ?_); (refine sy1 ?_; try exact True.intro)) | refine an2 ?_ | fail)
  refine W_condD (by rfl) (fun h5 => ?_) (fun h5 => ?_)
  · obtain rfl | rfl | rfl : k = 0 ∨ k = 1 ∨ k = 2 := by omega
    · repeat' (first | refine w1g ?_ | refine w1l ?_ | refine w1q ?_ | refine w1b ?_ | refine w1p ?_ | ((first | refine w1r ?_ | refine w1k ?_ | refine w1e ?_ | refine CallC.now (fn22 _ _ _) ?_ | refine CallC.go _ (fun _ => ⟨trivial, fn22 _ _ _⟩) rfl ?_); simp (maxSteps := 400000) (disch := omega) only [push_cast, ↓reduceIte, reduceCtorEq, Nat.reduceAdd, Nat.reduceSub, Nat.reduceEqDiff, Nat.reduceLeDiff, Nat.reduceLT, Nat.reduceBEq, Nat.reduceDiv, Nat.reduceMod, Nat.reducePow, Nat.reduceMul, Int.reduceToNat, Int.reduceLT, Int.reduceLE, Nat.mul_one]) | refine an2 ?_ | fail)
      rw [ax_key _ _ _ (by omega)]
      refine W_cond (by rfl) (fun hb => ?_) (fun hb => ?_)
      · rw [show aKB p.x p.l (-131072) = false by simpa using hb]
        repeat' (first | refine w1g ?_ | refine w1l ?_ | refine w1q ?_ | refine w1b ?_ | refine w1p ?_ | ((first | refine w1r ?_ | refine w1k ?_ | refine w1e ?_); (refine sy1 ?_; try exact True.intro)) | refine an2 ?_ | fail)
        exact W_ret ⟨[_], ⟨rfl, rfl⟩, rfl⟩
      · repeat' (first | refine w1g ?_ | refine w1l ?_ | refine w1q ?_ | refine w1b ?_ | refine w1p ?_ | ((first | refine w1r ?_ | refine w1k ?_ | refine w1e ?_); (refine sy1 ?_; try exact True.intro)) | refine an2 ?_ | fail)
        refine ⟨1, ⟨by omega, fun _ => by simpa using hb, by omega, by omega⟩, by omega, by rfl, ?_⟩
        (refine syE ?_; try exact True.intro)
    · rw [show ((1 : Nat) : Int) = 1 from rfl]
      repeat' (first | refine w1g ?_ | refine w1l ?_ | refine w1q ?_ | refine w1b ?_ | refine w1p ?_ | ((first | refine w1r ?_ | refine w1k ?_ | refine w1e ?_ | refine CallC.now (fn22 _ _ _) ?_ | refine CallC.go _ (fun _ => ⟨trivial, fn22 _ _ _⟩) rfl ?_); simp (maxSteps := 400000) (disch := omega) only [push_cast, ↓reduceIte, reduceCtorEq, Nat.reduceAdd, Nat.reduceSub, Nat.reduceEqDiff, Nat.reduceLeDiff, Nat.reduceLT, Nat.reduceBEq, Nat.reduceDiv, Nat.reduceMod, Nat.reducePow, Nat.reduceMul, Int.reduceToNat, Int.reduceLT, Int.reduceLE, Nat.mul_one]) | refine an2 ?_ | fail)
      rw [ax_key _ _ _ (by omega)]
      refine W_cond (by rfl) (fun hb => ?_) (fun hb => ?_)
      · rw [show aKB p.y p.w (-131072) = false by simpa using hb]
        simp only [Bool.and_false, Bool.false_and]
        repeat' (first | refine w1g ?_ | refine w1l ?_ | refine w1q ?_ | refine w1b ?_ | refine w1p ?_ | ((first | refine w1r ?_ | refine w1k ?_ | refine w1e ?_); (refine sy1 ?_; try exact True.intro)) | refine an2 ?_ | fail)
        exact W_ret ⟨[_], ⟨rfl, rfl⟩, rfl⟩
      · repeat' (first | refine w1g ?_ | refine w1l ?_ | refine w1q ?_ | refine w1b ?_ | refine w1p ?_ | ((first | refine w1r ?_ | refine w1k ?_ | refine w1e ?_); (refine sy1 ?_; try exact True.intro)) | refine an2 ?_ | fail)
        refine ⟨2, ⟨by omega, fun _ => g1 (by omega), fun _ => by simpa using hb, by omega⟩, by omega, by rfl, ?_⟩
        (refine syE ?_; try exact True.intro)
        rfl
    · rw [show ((2 : Nat) : Int) = 2 from rfl]
      repeat' (first | refine w1g ?_ | refine w1l ?_ | refine w1q ?_ | refine w1b ?_ | refine w1p ?_ | ((first | refine w1r ?_ | refine w1k ?_ | refine w1e ?_ | refine CallC.now (fn22 _ _ _) ?_ | refine CallC.go _ (fun _ => ⟨trivial, fn22 _ _ _⟩) rfl ?_); simp (maxSteps := 400000) (disch := omega) only [push_cast, ↓reduceIte, reduceCtorEq, Nat.reduceAdd, Nat.reduceSub, Nat.reduceEqDiff, Nat.reduceLeDiff, Nat.reduceLT, Nat.reduceBEq, Nat.reduceDiv, Nat.reduceMod, Nat.reducePow, Nat.reduceMul, Int.reduceToNat, Int.reduceLT, Int.reduceLE, Nat.mul_one]) | refine an2 ?_ | fail)
      rw [ax_key _ _ _ (by omega)]
      refine W_cond (by rfl) (fun hb => ?_) (fun hb => ?_)
      · rw [show aKB p.z p.h 0 = false by simpa using hb]
        simp only [Bool.and_false, Bool.false_and]
        repeat' (first | refine w1g ?_ | refine w1l ?_ | refine w1q ?_ | refine w1b ?_ | refine w1p ?_ | ((first | refine w1r ?_ | refine w1k ?_ | refine w1e ?_); (refine sy1 ?_; try exact True.intro)) | refine an2 ?_ | fail)
        exact W_ret ⟨[_], ⟨rfl, rfl⟩, rfl⟩
      · repeat' (first | refine w1g ?_ | refine w1l ?_ | refine w1q ?_ | refine w1b ?_ | refine w1p ?_ | ((first | refine w1r ?_ | refine w1k ?_ | refine w1e ?_); (refine sy1 ?_; try exact True.intro)) | refine an2 ?_ | fail)
        refine ⟨3, ⟨by omega, fun _ => g1 (by omega), fun _ => g2 (by omega), fun _ => by simpa using hb⟩, by omega, by rfl, ?_⟩
        (refine syE ?_; try exact True.intro)
        rfl
  · rw [g1 (by omega), g2 (by omega), g3 (by omega)]
    repeat' (first | refine w1g ?_ | refine w1l ?_ | refine w1q ?_ | refine w1b ?_ | refine w1p ?_ | ((first | refine w1r ?_ | refine w1k ?_ | refine w1e ?_ | refine CallC.now (fn22 _ _ _) ?_); (refine sy1 ?_; try exact True.intro)) | refine an2 ?_ | fail)
    exact W_ret ⟨[_], ⟨rfl, rfl⟩, rfl⟩
theorem fn42 (p : Pce) (h : pceB p = true) : Sy.Fn Try.prog 42 [.agg (cPc p)] (.agg [iv p.x, iv p.y, iv p.z, iv (p.x + p.l), iv (p.y + p.w), iv (p.z + p.h)]) := by
  refine Fn_of_W mixed Xt42 rfl ?_
  unfold pceB at h
  simp only [Bool.and_eq_true, decide_eq_true_eq, inR_iff] at h
  repeat' (first | refine w1g ?_ | refine w1l ?_ | refine w1q ?_ | refine w1b ?_ | refine w1p ?_ | ((first | refine w1r ?_ | refine w1k ?_ | refine w1e ?_); (refine sy1 ?_; try exact True.intro)) | refine an2 ?_ | fail)
  exact W_ret ⟨[_], ⟨⟨by simp, rfl⟩, rfl⟩, rfl⟩
end Go.Proofs.Ytlegpipcmnnaoaa

namespace Go.Proofs.Ytlegpipcmnnaoaa
open Go Sy
set_option maxRecDepth 100000
set_option maxHeartbeats 4000000
set_option linter.unusedVariables false
set_option linter.unusedSimpArgs false
def pc (l : List Pce) (i : Nat) : Pce := l.getD i dPc
def plo (p : Pce) : Nat → Int
  | 0 => p.x
  | 1 => p.y
  | _ => p.z
def psz (p : Pce) : Nat → Int
  | 0 => p.l
  | 1 => p.w
  | _ => p.h
def mo (p : Pce) (k : Nat) : Int := p.m * (plo p k + (plo p k + psz p k))
def smM (l : List Pce) : Int := l.foldl (fun a p => a + p.m) 0
def smK (l : List Pce) (k : Nat) : Int := l.foldl (fun a p => a + mo p k) 0
theorem take_pc {l : List Pce} {i : Nat} (h : i < l.length) : l.take (i + 1) = l.take i ++ [pc l i] := by
  rw [List.take_succ_eq_append_getElem h]
  simp [pc, h]
theorem smM_succ {l : List Pce} {i : Nat} (h : i < l.length) : smM (l.take (i + 1)) = smM (l.take i) + (pc l i).m := by
  rw [take_pc h]; simp [smM, List.foldl_append]
theorem smK_succ {l : List Pce} {i : Nat} (h : i < l.length) (k : Nat) : smK (l.take (i + 1)) k = smK (l.take i) k + mo (pc l i) k := by
  rw [take_pc h]; simp [smK, List.foldl_append]
theorem pceB_iff {p : Pce} : pceB p = true ↔ (((-131072 ≤ p.x ∧ p.x ≤ 131072) ∧ 1 ≤ p.l ∧ p.l ≤ 131072 - p.x) ∧ ((-131072 ≤ p.y ∧ p.y ≤ 131072) ∧ 1 ≤ p.w ∧ p.w ≤ 131072 - p.y) ∧ (0 ≤ p.z ∧ p.z ≤ 131072) ∧ 1 ≤ p.h ∧ p.h ≤ 131072 - p.z) ∧ 0 ≤ p.m ∧ p.m ≤ 16777216 := by
  unfold pceB
  simp only [Bool.and_eq_true, decide_eq_true_eq, inR_iff]
  omega
theorem mo_rng {p : Pce} (h : pceB p = true) (k : Nat) : (-262144 ≤ plo p k + (plo p k + psz p k) ∧ plo p k + (plo p k + psz p k) ≤ 262144) ∧ -4398046511104 ≤ mo p k ∧ mo p k ≤ 4398046511104 := by
  obtain ⟨⟨h1, h2, h3⟩, h4⟩ := pceB_iff.1 h
  have hr : -262144 ≤ plo p k + (plo p k + psz p k) ∧ plo p k + (plo p k + psz p k) ≤ 262144 := by
    rcases k with _ | _ | k <;> simp only [plo, psz] <;> omega
  refine ⟨hr, ?_⟩
  unfold mo
  generalize plo p k + (plo p k + psz p k) = q at *
  constructor
  · have a := Int.mul_le_mul_of_nonneg_left hr.1 h4.1
    have b := Int.mul_le_mul_of_nonneg_right h4.2 (show (0 : Int) ≤ 262144 by omega)
    omega
  · have a := Int.mul_le_mul_of_nonneg_left hr.2 h4.1
    have b := Int.mul_le_mul_of_nonneg_right h4.2 (show (0 : Int) ≤ 262144 by omega)
    omega
theorem sm_rng {l : List Pce} (h : ∀ i, i < l.length → pceB (pc l i) = true) : ∀ n, n ≤ l.length → (0 ≤ smM (l.take n) ∧ smM (l.take n) ≤ n * 16777216) ∧ ∀ k, -(n * 4398046511104) ≤ smK (l.take n) k ∧ smK (l.take n) k ≤ n * 4398046511104
  | 0, _ => by simp [smM, smK]
  | n + 1, hn => by
    obtain ⟨h1, h2⟩ := sm_rng h n (by omega)
    rw [smM_succ (by omega)]
    have hp := h n (by omega)
    obtain ⟨_, h4⟩ := pceB_iff.1 hp
    refine ⟨by omega, fun k => ?_⟩
    rw [smK_succ (by omega)]
    have := (mo_rng hp k).2
    have := h2 k
    omega
abbrev cW (m a b c : Int) : List AV := [iv m, iv a, iv b, iv c]
def wk (F : Nat → Int) (p : Pce) (k j : Nat) : Int := if j < k then F j + mo p j else F j
theorem fn12 (l : List Pce) (hl : l.length ≤ 32) (h : ∀ i, i < l.length → pceB (pc l i) = true) : Sy.Fn Try.prog 12 [aPc l] (.agg (cW (smM l) (smK l 0) (smK l 1) (smK l 2))) := by
  refine Fn_of_W mixed Xt12 rfl ?_
  repeat' (first | refine w1g ?_ | refine w1l ?_ | refine w1q ?_ | refine w1b ?_ | refine w1p ?_ | ((first | refine w1r ?_ | refine w1k ?_ | refine w1e ?_); (refine sy1 ?_; try exact True.intro)) | refine an2 ?_ | fail)
  refine W_loopU (fun i : Nat => [(7, iv i)]) (fun i => [(0, .cells (cW (smM (l.take i)) (smK (l.take i) 0) (smK (l.take i) 1) (smK (l.take i) 2)))]) (fun i => i ≤ l.length) (fun i => l.length - i) 0 (by omega) (by rfl) (by rfl) (fun i hi => ?_)
  (refine sy1 ?_; try exact True.intro)
  repeat' (first | refine w1g ?_ | refine w1l ?_ | refine w1q ?_ | refine w1b ?_ | refine w1p ?_ | ((first | refine w1r ?_ | refine w1k ?_ | refine w1e ?_); (refine sy1 ?_; try exact True.intro)) | refine an2 ?_ | fail)
  refine W_condD (by rfl) (fun h5 => ?_) (fun h5 => ?_)
  · have hlt : i < l.length := by omega
    have hp := h i hlt
    have hpc : l.getD i dPc = pc l i := rfl
    obtain ⟨r1, r2⟩ := sm_rng h i (by omega)
    have e1 := smM_succ hlt
    have e2 := smK_succ hlt
    generalize pc l i = p at *
    generalize smM (l.take i) = M at *
    generalize smK (l.take i) = F at *
    obtain ⟨⟨h1, h2, h3⟩, h4⟩ := pceB_iff.1 hp
    repeat' (first | refine w1g ?_ | refine w1l ?_ | refine w1q ?_ | refine w1b ?_ | refine w1p ?_ | ((first | refine w1r ?_ | refine w1k ?_ | refine w1e ?_); simp (maxSteps := 400000) (disch := omega) only [push_cast, ↓reduceIte, reduceCtorEq, Nat.reduceAdd, Nat.reduceSub, Nat.reduceEqDiff, Nat.reduceLeDiff, Nat.reduceLT, Nat.reduceBEq, Nat.reduceDiv, Nat.reduceMod, Nat.reducePow, Nat.reduceMul, Int.reduceToNat, Int.reduceLT, Int.reduceLE, hpc]) | refine an2 ?_ | fail)
    refine CallC.inl (Inl_of_W mixed Xt25 rfl (fun vs => ?_))
    have c42 := fn42 p hp
    (refine sy1 ?_; try exact True.intro)
    repeat' (first | refine w1g ?_ | refine w1l ?_ | refine w1q ?_ | refine w1b ?_ | refine w1p ?_ | ((first | refine w1r ?_ | refine w1k ?_ | refine w1e ?_ | refine CallC.now (c42) ?_); (refine sy1 ?_; try exact True.intro)) | refine an2 ?_ | fail)
    have q0 : (-262144 ≤ p.x + (p.x + p.l) ∧ p.x + (p.x + p.l) ≤ 262144) ∧ -4398046511104 ≤ p.m * (p.x + (p.x + p.l)) ∧ p.m * (p.x + (p.x + p.l)) ≤ 4398046511104 := mo_rng hp 0
    have q1 : (-262144 ≤ p.y + (p.y + p.w) ∧ p.y + (p.y + p.w) ≤ 262144) ∧ -4398046511104 ≤ p.m * (p.y + (p.y + p.w)) ∧ p.m * (p.y + (p.y + p.w)) ≤ 4398046511104 := mo_rng hp 1
    have q2 : (-262144 ≤ p.z + (p.z + p.h) ∧ p.z + (p.z + p.h) ≤ 262144) ∧ -4398046511104 ≤ p.m * (p.z + (p.z + p.h)) ∧ p.m * (p.z + (p.z + p.h)) ≤ 4398046511104 := mo_rng hp 2
    have f0 := r2 0
    have f1 := r2 1
    have f2 := r2 2
    refine W_loopU (fun k : Nat => [(17, iv k)]) (fun k => [(0, .cells (cW (M + p.m) (wk F p k 0) (wk F p k 1) (wk F p k 2)))]) (fun k => k ≤ 3) (fun k => 3 - k) 0 (by omega) (by rfl) (by rfl) (fun k hk => ?_)
    (refine sy1 ?_; try exact True.intro)
    repeat' (first | refine w1g ?_ | refine w1l ?_ | refine w1q ?_ | refine w1b ?_ | refine w1p ?_ | ((first | refine w1r ?_ | refine w1k ?_ | refine w1e ?_); (refine sy1 ?_; try exact True.intro)) | refine an2 ?_ | fail)
    refine W_condD (by rfl) (fun h6 => ?_) (fun h6 => ?_)
    · obtain rfl | rfl | rfl : k = 0 ∨ k = 1 ∨ k = 2 := by omega
      · rw [show wk F p 0 0 = F 0 from rfl, show wk F p 0 1 = F 1 from rfl, show wk F p 0 2 = F 2 from rfl]
        repeat' (first | refine w1g ?_ | refine w1l ?_ | refine w1q ?_ | refine w1b ?_ | refine w1p ?_ | ((first | refine w1r ?_ | refine w1k ?_ | refine w1e ?_); simp (maxSteps := 400000) (disch := omega) only [push_cast, ↓reduceIte, reduceCtorEq, Nat.reduceAdd, Nat.reduceSub, Nat.reduceEqDiff, Nat.reduceLeDiff, Nat.reduceLT, Nat.reduceBEq, Nat.reduceDiv, Nat.reduceMod, Nat.reducePow, Nat.reduceMul, Int.reduceToNat, Int.reduceLT, Int.reduceLE, Nat.mul_one]) | refine an2 ?_ | fail)
        refine ⟨1, by omega, by omega, by rfl, ?_⟩
        rw [show wk F p 1 0 = F 0 + p.m * (p.x + (p.x + p.l)) from rfl, show wk F p 1 1 = F 1 from rfl, show wk F p 1 2 = F 2 from rfl]
        (refine syE ?_; try exact True.intro)
      · rw [show ((1 : Nat) : Int) = 1 from rfl, show wk F p 1 0 = F 0 + p.m * (p.x + (p.x + p.l)) from rfl, show wk F p 1 1 = F 1 from rfl, show wk F p 1 2 = F 2 from rfl]
        repeat' (first | refine w1g ?_ | refine w1l ?_ | refine w1q ?_ | refine w1b ?_ | refine w1p ?_ | ((first | refine w1r ?_ | refine w1k ?_ | refine w1e ?_); simp (maxSteps := 400000) (disch := omega) only [push_cast, ↓reduceIte, reduceCtorEq, Nat.reduceAdd, Nat.reduceSub, Nat.reduceEqDiff, Nat.reduceLeDiff, Nat.reduceLT, Nat.reduceBEq, Nat.reduceDiv, Nat.reduceMod, Nat.reducePow, Nat.reduceMul, Int.reduceToNat, Int.reduceLT, Int.reduceLE, Nat.mul_one]) | refine an2 ?_ | fail)
        refine ⟨2, by omega, by omega, by rfl, ?_⟩
        rw [show wk F p 2 0 = F 0 + p.m * (p.x + (p.x + p.l)) from rfl, show wk F p 2 1 = F 1 + p.m * (p.y + (p.y + p.w)) from rfl, show wk F p 2 2 = F 2 from rfl]
        (refine syE ?_; try exact True.intro)
        rfl
      · rw [show ((2 : Nat) : Int) = 2 from rfl, show wk F p 2 0 = F 0 + p.m * (p.x + (p.x + p.l)) from rfl, show wk F p 2 1 = F 1 + p.m * (p.y + (p.y + p.w)) from rfl, show wk F p 2 2 = F 2 from rfl]
        repeat' (first | refine w1g ?_ | refine w1l ?_ | refine w1q ?_ | refine w1b ?_ | refine w1p ?_ | ((first | refine w1r ?_ | refine w1k ?_ | refine w1e ?_); simp (maxSteps := 400000) (disch := omega) only [push_cast, ↓reduceIte, reduceCtorEq, Nat.reduceAdd, Nat.reduceSub, Nat.reduceEqDiff, Nat.reduceLeDiff, Nat.reduceLT, Nat.reduceBEq, Nat.reduceDiv, Nat.reduceMod, Nat.reducePow, Nat.reduceMul, Int.reduceToNat, Int.reduceLT, Int.reduceLE, Nat.mul_one]) | refine an2 ?_ | fail)
        refine ⟨3, by omega, by omega, by rfl, ?_⟩
        rw [show wk F p 3 0 = F 0 + p.m * (p.x + (p.x + p.l)) from rfl, show wk F p 3 1 = F 1 + p.m * (p.y + (p.y + p.w)) from rfl, show wk F p 3 2 = F 2 + p.m * (p.z + (p.z + p.h)) from rfl]
        (refine syE ?_; try exact True.intro)
        rfl
    · obtain rfl : k = 3 := by omega
      rw [show wk F p 3 0 = F 0 + mo p 0 from rfl, show wk F p 3 1 = F 1 + mo p 1 from rfl, show wk F p 3 2 = F 2 + mo p 2 from rfl, ← e1, ← e2, ← e2, ← e2]
      repeat' (first | refine w1g ?_ | refine w1l ?_ | refine w1q ?_ | refine w1b ?_ | refine w1p ?_ | ((first | refine w1r ?_ | refine w1k ?_ | refine w1e ?_); (refine sy1 ?_; try exact True.intro)) | refine an2 ?_ | fail)
      refine ⟨[], _, rfl, rfl, ?_⟩
      simp (maxSteps := 400000) (disch := omega) only [push_cast, ↓reduceIte, reduceCtorEq, Nat.reduceAdd, Nat.reduceSub, Nat.reduceEqDiff, Nat.reduceLeDiff, Nat.reduceLT, Nat.reduceBEq, Nat.reduceDiv, Nat.reduceMod, Nat.reducePow, Nat.reduceMul, Int.reduceToNat, Int.reduceLT, Int.reduceLE, pack]
      repeat' (first | refine w1g ?_ | refine w1l ?_ | refine w1q ?_ | refine w1b ?_ | refine w1p ?_ | ((first | refine w1r ?_ | refine w1k ?_ | refine w1e ?_); (refine sy1 ?_; try exact True.intro)) | refine an2 ?_ | fail)
      refine ⟨i + 1, by omega, by omega, by rfl, ?_⟩
      (refine syE ?_; try exact True.intro)
  · obtain rfl : i = l.length := by omega
    rw [List.take_length]
    repeat' (first | refine w1g ?_ | refine w1l ?_ | refine w1q ?_ | refine w1b ?_ | refine w1p ?_ | ((first | refine w1r ?_ | refine w1k ?_ | refine w1e ?_); (refine sy1 ?_; try exact True.intro)) | refine an2 ?_ | fail)
    exact W_ret ⟨[_], ⟨⟨by simp, rfl⟩, rfl⟩, rfl⟩
end Go.Proofs.Ytlegpipcmnnaoaa

namespace Go.Proofs.Ytlegpipcmnnaoaa
open Go Sy
set_option maxRecDepth 100000
set_option maxHeartbeats 4000000
set_option linter.unusedVariables false
set_option linter.unusedSimpArgs false
def gEy (l : List Eye) (i : Nat) : Eye := l.getD i dEy
structure OkL (l : Lod) : Prop where
  n1 : 1 ≤ l.ps.length
  n2 : l.ps.length ≤ 32
  n3 : l.es.length ≤ 32
  nm : naB l.name = true
  fr : inR l.fr 0 1000 = true
  pc : ∀ i, i < l.ps.length → pceB (pc l.ps i) = true
  ey : ∀ i, i < l.es.length → eyeB (gEy l.es i) = true
  ms : inR (smM l.ps) 1 16777216 = true
open Classical in
noncomputable def chkL (l : Lod) : Int := if l.ps.length < 1 ∨ 32 < l.ps.length ∨ 32 < l.es.length then 6 else if OkL l then 0 else 2
theorem chkL_many {l : Lod} (h : l.ps.length < 1 ∨ 32 < l.ps.length ∨ 32 < l.es.length) : chkL l = 6 := by unfold chkL; rw [if_pos h]
theorem chkL_bad {l : Lod} (h : ¬ (l.ps.length < 1 ∨ 32 < l.ps.length ∨ 32 < l.es.length)) (h2 : ¬ OkL l) : chkL l = 2 := by unfold chkL; rw [if_neg h, if_neg h2]
theorem chkL_ok {l : Lod} (h : OkL l) : chkL l = 0 := by
  have := h.n1; have := h.n2; have := h.n3
  unfold chkL; rw [if_neg (by omega), if_pos h]
theorem chkL_zero {l : Lod} (h : chkL l = 0) : OkL l := by
  unfold chkL at h
  split at h
  · omega
  · split at h
    · assumption
    · omega
theorem fn11 (l : Lod) (h1 : l.ps.length ≤ 140737488355328) (h2 : l.es.length ≤ 140737488355328) : Sy.Fn Try.prog 11 [.agg (cLd l)] (iv (chkL l)) := by
  refine Fn_of_W mixed Xt11 rfl ?_
  repeat' (first | refine w1g ?_ | refine w1l ?_ | refine w1q ?_ | refine w1b ?_ | refine w1p ?_ | ((first | refine w1r ?_ | refine w1k ?_ | refine w1e ?_); (refine sy1 ?_; try exact True.intro)) | refine an2 ?_ | fail)
  refine W_cond (by rfl) (fun h => ?_) (fun h => ?_)
  · rw [chkL_many (by simp only [Bool.or_eq_true, decide_eq_true_eq] at h; omega)]
    repeat' (first | refine w1g ?_ | refine w1l ?_ | refine w1q ?_ | refine w1b ?_ | refine w1p ?_ | ((first | refine w1r ?_ | refine w1k ?_ | refine w1e ?_); (refine sy1 ?_; try exact True.intro)) | refine an2 ?_ | fail)
    exact W_ret ⟨[_], ⟨rfl, rfl⟩, rfl⟩
  simp only [Bool.or_eq_false_iff, decide_eq_false_iff_not] at h
  have hm : ¬ (l.ps.length < 1 ∨ 32 < l.ps.length ∨ 32 < l.es.length) := by omega
  have c21 := fn21 l.name
  repeat' (first | refine w1g ?_ | refine w1l ?_ | refine w1q ?_ | refine w1b ?_ | refine w1p ?_ | ((first | refine w1r ?_ | refine w1k ?_ | refine w1e ?_ | refine CallC.now (c21) ?_ | refine CallC.go _ (fun _ => ⟨trivial, fn22 _ _ _⟩) rfl ?_); (refine sy1 ?_; try exact True.intro)) | refine an2 ?_ | fail)
  refine W_cond (by rfl) (fun hb => ?_) (fun hb => ?_)
  · rw [chkL_bad hm (fun q => by rw [q.nm, q.fr] at hb; cases hb)]
    repeat' (first | refine w1g ?_ | refine w1l ?_ | refine w1q ?_ | refine w1b ?_ | refine w1p ?_ | ((first | refine w1r ?_ | refine w1k ?_ | refine w1e ?_); (refine sy1 ?_; try exact True.intro)) | refine an2 ?_ | fail)
    exact W_ret ⟨[_], ⟨rfl, rfl⟩, rfl⟩
  simp only [Bool.or_eq_false_iff, Bool.not_eq_false'] at hb
  repeat' (first | refine w1g ?_ | refine w1l ?_ | refine w1q ?_ | refine w1b ?_ | refine w1p ?_ | ((first | refine w1r ?_ | refine w1k ?_ | refine w1e ?_); (refine sy1 ?_; try exact True.intro)) | refine an2 ?_ | fail)
  refine W_loopU (fun i : Nat => [(36, iv i)]) (fun i => []) (fun i => i ≤ l.ps.length ∧ ∀ j, j < i → pceB (pc l.ps j) = true) (fun i => l.ps.length - i) 0 ⟨by omega, fun j hj => by omega⟩ (by rfl) (by rfl) (fun i hi => ?_)
  obtain ⟨hi, hall⟩ := hi
  (refine sy1 ?_; try exact True.intro)
  repeat' (first | refine w1g ?_ | refine w1l ?_ | refine w1q ?_ | refine w1b ?_ | refine w1p ?_ | ((first | refine w1r ?_ | refine w1k ?_ | refine w1e ?_); (refine sy1 ?_; try exact True.intro)) | refine an2 ?_ | fail)
  refine W_condD (by rfl) (fun h5 => ?_) (fun h5 => ?_)
  · have hlt : i < l.ps.length := by omega
    have hpc : l.ps.getD i dPc = pc l.ps i := rfl
    have c23 := fn23 (pc l.ps i)
    generalize hp : pc l.ps i = p at *
    repeat' (first | refine w1g ?_ | refine w1l ?_ | refine w1q ?_ | refine w1b ?_ | refine w1p ?_ | ((first | refine w1r ?_ | refine w1k ?_ | refine w1e ?_ | refine CallC.now (c23) ?_); simp (maxSteps := 400000) (disch := omega) only [push_cast, ↓reduceIte, reduceCtorEq, Nat.reduceAdd, Nat.reduceSub, Nat.reduceEqDiff, Nat.reduceLeDiff, Nat.reduceLT, Nat.reduceBEq, Nat.reduceDiv, Nat.reduceMod, Nat.reducePow, Nat.reduceMul, Int.reduceToNat, Int.reduceLT, Int.reduceLE, hpc]) | refine an2 ?_ | fail)
    refine W_cond (by rfl) (fun hq => ?_) (fun hq => ?_)
    · rw [chkL_bad hm (fun q => by rw [← hp, q.pc i hlt] at hq; cases hq)]
      repeat' (first | refine w1g ?_ | refine w1l ?_ | refine w1q ?_ | refine w1b ?_ | refine w1p ?_ | ((first | refine w1r ?_ | refine w1k ?_ | refine w1e ?_); (refine sy1 ?_; try exact True.intro)) | refine an2 ?_ | fail)
      exact W_ret ⟨[_], ⟨rfl, rfl⟩, rfl⟩
    · repeat' (first | refine w1g ?_ | refine w1l ?_ | refine w1q ?_ | refine w1b ?_ | refine w1p ?_ | ((first | refine w1r ?_ | refine w1k ?_ | refine w1e ?_); (refine sy1 ?_; try exact True.intro)) | refine an2 ?_ | fail)
      refine ⟨i + 1, ⟨by omega, up_all hall (by rw [hp]; simpa using hq)⟩, by omega, by rfl, ?_⟩
      (refine syE ?_; try exact True.intro)
  have hpc : ∀ j, j < l.ps.length → pceB (pc l.ps j) = true := fun j hj => hall j (by omega)
  repeat' (first | refine w1g ?_ | refine w1l ?_ | refine w1q ?_ | refine w1b ?_ | refine w1p ?_ | ((first | refine w1r ?_ | refine w1k ?_ | refine w1e ?_); (refine sy1 ?_; try exact True.intro)) | refine an2 ?_ | fail)
  refine W_loopU (fun i : Nat => [(47, iv i)]) (fun i => []) (fun i => i ≤ l.es.length ∧ ∀ j, j < i → eyeB (gEy l.es j) = true) (fun i => l.es.length - i) 0 ⟨by omega, fun j hj => by omega⟩ (by rfl) (by rfl) (fun i hi => ?_)
  obtain ⟨hi, hall2⟩ := hi
  (refine sy1 ?_; try exact True.intro)
  repeat' (first | refine w1g ?_ | refine w1l ?_ | refine w1q ?_ | refine w1b ?_ | refine w1p ?_ | ((first | refine w1r ?_ | refine w1k ?_ | refine w1e ?_); (refine sy1 ?_; try exact True.intro)) | refine an2 ?_ | fail)
  refine W_condD (by rfl) (fun h6 => ?_) (fun h6 => ?_)
  · have hlt : i < l.es.length := by omega
    have hey : l.es.getD i dEy = gEy l.es i := rfl
    have c24 := fn24 (gEy l.es i)
    generalize hp : gEy l.es i = p at *
    repeat' (first | refine w1g ?_ | refine w1l ?_ | refine w1q ?_ | refine w1b ?_ | refine w1p ?_ | ((first | refine w1r ?_ | refine w1k ?_ | refine w1e ?_ | refine CallC.now (c24) ?_); simp (maxSteps := 400000) (disch := omega) only [push_cast, ↓reduceIte, reduceCtorEq, Nat.reduceAdd, Nat.reduceSub, Nat.reduceEqDiff, Nat.reduceLeDiff, Nat.reduceLT, Nat.reduceBEq, Nat.reduceDiv, Nat.reduceMod, Nat.reducePow, Nat.reduceMul, Int.reduceToNat, Int.reduceLT, Int.reduceLE, hey]) | refine an2 ?_ | fail)
    refine W_cond (by rfl) (fun hq => ?_) (fun hq => ?_)
    · rw [chkL_bad hm (fun q => by rw [← hp, q.ey i hlt] at hq; cases hq)]
      repeat' (first | refine w1g ?_ | refine w1l ?_ | refine w1q ?_ | refine w1b ?_ | refine w1p ?_ | ((first | refine w1r ?_ | refine w1k ?_ | refine w1e ?_); (refine sy1 ?_; try exact True.intro)) | refine an2 ?_ | fail)
      exact W_ret ⟨[_], ⟨rfl, rfl⟩, rfl⟩
    · repeat' (first | refine w1g ?_ | refine w1l ?_ | refine w1q ?_ | refine w1b ?_ | refine w1p ?_ | ((first | refine w1r ?_ | refine w1k ?_ | refine w1e ?_); (refine sy1 ?_; try exact True.intro)) | refine an2 ?_ | fail)
      refine ⟨i + 1, ⟨by omega, up_all hall2 (by rw [hp]; simpa using hq)⟩, by omega, by rfl, ?_⟩
      (refine syE ?_; try exact True.intro)
  have hey : ∀ j, j < l.es.length → eyeB (gEy l.es j) = true := fun j hj => hall2 j (by omega)
  have c12 := fn12 l.ps (by omega) hpc
  repeat' (first | refine w1g ?_ | refine w1l ?_ | refine w1q ?_ | refine w1b ?_ | refine w1p ?_ | ((first | refine w1r ?_ | refine w1k ?_ | refine w1e ?_ | refine CallC.now (c12) ?_ | refine CallC.now (fn22 _ _ _) ?_); (refine sy1 ?_; try exact True.intro)) | refine an2 ?_ | fail)
  refine W_cond (by rfl) (fun hq => ?_) (fun hq => ?_)
  · rw [chkL_bad hm (fun q => by rw [q.ms] at hq; cases hq)]
    repeat' (first | refine w1g ?_ | refine w1l ?_ | refine w1q ?_ | refine w1b ?_ | refine w1p ?_ | ((first | refine w1r ?_ | refine w1k ?_ | refine w1e ?_); (refine sy1 ?_; try exact True.intro)) | refine an2 ?_ | fail)
    exact W_ret ⟨[_], ⟨rfl, rfl⟩, rfl⟩
  · rw [chkL_ok ⟨by omega, by omega, by omega, hb.1, hb.2, hpc, hey, by simpa using hq⟩]
    repeat' (first | refine w1g ?_ | refine w1l ?_ | refine w1q ?_ | refine w1b ?_ | refine w1p ?_ | ((first | refine w1r ?_ | refine w1k ?_ | refine w1e ?_); (refine sy1 ?_; try exact True.intro)) | refine an2 ?_ | fail)
    exact W_ret ⟨[_], ⟨rfl, rfl⟩, rfl⟩
end Go.Proofs.Ytlegpipcmnnaoaa

namespace Go.Proofs.Ytlegpipcmnnaoaa
open Go Sy
set_option maxRecDepth 100000
set_option linter.unusedVariables false
set_option linter.unusedSimpArgs false
structure Bx where
  x : Int
  y : Int
  z : Int
  l : Int
  w : Int
  h : Int
  m : Int
def dBx : Bx := ⟨0, 0, 0, 0, 0, 0, 0⟩
structure OBx (b : Bx) : Prop where
  x : 0 ≤ b.x ∧ b.x ≤ 255
  y : 0 ≤ b.y ∧ b.y ≤ 255
  z : 0 ≤ b.z ∧ b.z ≤ 255
  l : 0 ≤ b.l ∧ b.l ≤ 255
  w : 0 ≤ b.w ∧ b.w ≤ 255
  h : 0 ≤ b.h ∧ b.h ≤ 255
  m : 0 ≤ b.m ∧ b.m ≤ 65535
def pOf (b : Bx) : Pce := ⟨20 * b.x, 10 * b.y - 1280, 10 * b.z, 1 + 20 * b.l, 1 + 10 * b.w, 1 + 10 * b.h, 1 + b.m % 8000⟩
def crgS : ByteArray := ⟨#[99, 97, 114, 103, 111]⟩
def crg (l : List Bx) : Lod := ⟨crgS, (l.take 4).map pOf, [], 300⟩
theorem pOf_ok {b : Bx} (h : OBx b) : pceB (pOf b) = true ∧ 1 ≤ (pOf b).m ∧ (pOf b).m ≤ 8000 := by
  obtain ⟨h1, h2, h3, h4, h5, h6, h7⟩ := h
  rw [pceB_iff]
  unfold pOf
  dsimp only
  omega
theorem crg_pc {l : List Bx} (h : ∀ b ∈ l, OBx b) {i : Nat} (hi : i < (crg l).ps.length) : pceB (pc (crg l).ps i) = true ∧ 1 ≤ (pc (crg l).ps i).m ∧ (pc (crg l).ps i).m ≤ 8000 := by
  have hi' : i < (l.take 4).length := by simpa [crg] using hi
  have e : pc (crg l).ps i = pOf ((l.take 4)[i]) := by
    simp only [pc, crg, List.getD, List.getElem?_map, List.getElem?_eq_getElem hi', Option.map_some, Option.getD_some]
  rw [e]
  exact pOf_ok (h _ (List.mem_of_mem_take (List.getElem_mem hi')))
theorem crg_sum {l : List Bx} (h : ∀ b ∈ l, OBx b) : ∀ n, n ≤ (crg l).ps.length → (n : Int) ≤ smM ((crg l).ps.take n) ∧ smM ((crg l).ps.take n) ≤ n * 8000
  | 0, _ => by simp [smM]
  | n + 1, hn => by
    have := crg_sum h n (by omega)
    rw [smM_succ (by omega)]
    have := crg_pc h (i := n) (by omega)
    omega
theorem crg_len (l : List Bx) : (crg l).ps.length = min 4 l.length := by simp [crg]
theorem crg_nil : chkL (crg []) = 6 := chkL_many (by simp [crg])
theorem crg_name : naB crgS = true := by decide
theorem crg_ok {l : List Bx} (h : ∀ b ∈ l, OBx b) (hl : l ≠ []) : OkL (crg l) ∧ 1 ≤ smM (crg l).ps ∧ smM (crg l).ps ≤ 32000 := by
  have h1 : 0 < l.length := List.length_pos_iff.2 hl
  have hn := crg_len l
  have hs := crg_sum h (crg l).ps.length (Nat.le_refl _)
  rw [List.take_length] at hs
  have hs' : 1 ≤ smM (crg l).ps ∧ smM (crg l).ps ≤ 32000 := by omega
  refine ⟨⟨by omega, by omega, by simp [crg], crg_name, by show inR 300 0 1000 = true; decide, fun i hi => (crg_pc h hi).1, fun i hi => by simp [crg] at hi, inR_iff.2 (by omega)⟩, hs'⟩
def carS : ByteArray := ⟨#[99, 97, 114, 114, 105, 101, 114]⟩
def car (fr : Int) : Veh := ⟨carS, [⟨0, 3000, 0, 1000, 500, 1200, 2500, 9000, 0, 0, [⟨0, 8000, 2⟩, ⟨3000, 12000, 4⟩]⟩, ⟨2, 6000, 0, 500, 1500, 1250, 1200, 7000, 0, 0, [⟨5000, 12000, 8⟩, ⟨6000, 12000, 8⟩, ⟨7000, 12000, 8⟩]⟩], fr, 1⟩
theorem car_ok1 : chkV (car 1) = 0 := by decide
theorem car_ok0 : chkV (car 0) = 0 := by decide
theorem car_gr (fr : Int) : Gr (car fr) := ⟨by simp [car], fun u hu => by simp [car] at hu; rcases hu with rfl | rfl <;> simp⟩
theorem each0 (fr m L x : Int) : each (car fr) m L x 0 = cdiv (9000 + extra (car fr) m L x 0) 2 := rfl
theorem each1 (fr m L x : Int) : each (car fr) m L x 1 = cdiv (7000 + extra (car fr) m L x 1) 3 := rfl
theorem cdiv2 (n : Int) : n ≤ 2 * cdiv n 2 ∧ 2 * cdiv n 2 ≤ n + 1 := by unfold cdiv; omega
theorem cdiv3 (n : Int) : n ≤ 3 * cdiv n 3 ∧ 3 * cdiv n 3 ≤ n + 2 := by unfold cdiv; omega
theorem heavy0 (fr m L x : Int) : heavy (car fr) m L x 0 = true ↔ 8000 < each (car fr) m L x 0 := by
  have e : (su (car fr).units 0).axles = [⟨0, 8000, 2⟩, ⟨3000, 12000, 4⟩] := rfl
  unfold heavy
  rw [e]
  simp only [List.any_cons, List.any_nil, Bool.or_false, Bool.or_eq_true, decide_eq_true_eq]
  omega
theorem heavy1 (fr m L x : Int) : heavy (car fr) m L x 1 = true ↔ 12000 < each (car fr) m L x 1 := by
  have e : (su (car fr).units 1).axles = [⟨5000, 12000, 8⟩, ⟨6000, 12000, 8⟩, ⟨7000, 12000, 8⟩] := rfl
  unfold heavy
  rw [e]
  simp only [List.any_cons, List.any_nil, Bool.or_false, Bool.or_eq_true, decide_eq_true_eq]
  omega
def hvy (fr m x : Int) : Prop := 8000 < each (car fr) m 6000 x 0 ∨ 12000 < each (car fr) m 6000 x 1
theorem axE_car {fr m x : Int} (hf : fr = 0 ∨ fr = 1) (hm : 1 ≤ m ∧ m ≤ 32000) (hx : 0 ≤ x ∧ x ≤ 6000) : (hvy fr m x → axE (car fr) m 6000 x = 14) ∧ (¬ hvy fr m x → axE (car fr) m 6000 x = 0) := by
  have hc : chkV (car fr) = 0 := by rcases hf with rfl | rfl; exact car_ok0; exact car_ok1
  have h1 : okMass m = true := inR_iff.2 (by omega)
  have h2 : inR 6000 1 16777216 = true := by decide
  have h3 : inR x 0 6000 = true := inR_iff.2 hx
  have e : axE (car fr) m 6000 x = if (List.range 2).any (heavy (car fr) m 6000 x) = true then 14 else 0 := by
    unfold axE
    rw [if_neg (by omega), h1, h2, if_neg (by decide), h3, if_neg (by decide)]
    rfl
  have e2 : (List.range 2).any (heavy (car fr) m 6000 x) = true ↔ hvy fr m x := by
    unfold hvy
    rw [← heavy0, ← heavy1, show List.range 2 = [0, 1] from rfl]
    simp only [List.any_cons, List.any_nil, Bool.or_false, Bool.or_eq_true]
  rw [e]
  exact ⟨fun h => if_pos (e2.2 h), fun h => if_neg (fun q => h (e2.1 q))⟩
theorem axL_car {fr m x : Int} (h : axE (car fr) m 6000 x = 0) : axL (car fr) m 6000 x = [each (car fr) m 6000 x 0, each (car fr) m 6000 x 1] := by
  unfold axL; rw [if_pos h]; rfl
theorem ext_1 (m x : Int) : extra (car 1) m 6000 x 0 = 0 ∧ extra (car 1) m 6000 x 1 = m := ⟨rfl, rfl⟩
theorem lev_car {m x : Int} (hm : 1 ≤ m ∧ m ≤ 32000) (hx : 0 ≤ x ∧ x ≤ 6000) : extra (car 0) m 6000 x 0 = cdiv (m * (6000 - x)) 6000 ∧ extra (car 0) m 6000 x 1 = cdiv (m * x) 6000 := by
  have he : levE m 0 6000 x = 0 := by
    unfold levE
    have h1 : okMass m = true := inR_iff.2 (by omega)
    have h2 : okPlace 0 = true := by decide
    have h3 : okPlace 6000 = true := by decide
    have h4 : okPlace x = true := inR_iff.2 (by omega)
    have h5 : inR x 0 6000 = true := inR_iff.2 hx
    rw [h1, h2, h3, h4, h5]
    rfl
  constructor
  · show levL m 0 6000 x = _
    unfold levL
    rw [if_pos he]
    simp
  · show levR m 0 6000 x = _
    unfold levR
    rw [if_pos he]
    simp
theorem cdiv6 (n : Int) : n ≤ 6000 * cdiv n 6000 ∧ 6000 * cdiv n 6000 ≤ n + 5999 := by unfold cdiv; omega
theorem ext_0 {m x : Int} (hm : 1 ≤ m ∧ m ≤ 32000) (hx : 0 ≤ x ∧ x ≤ 6000) : (0 ≤ extra (car 0) m 6000 x 0 ∧ 0 ≤ extra (car 0) m 6000 x 1) ∧ m ≤ extra (car 0) m 6000 x 0 + extra (car 0) m 6000 x 1 ∧ extra (car 0) m 6000 x 0 + extra (car 0) m 6000 x 1 ≤ m + 1 := by
  obtain ⟨e1, e2⟩ := lev_car hm hx
  rw [e1, e2]
  have h1 := cdiv6 (m * (6000 - x))
  have h2 := cdiv6 (m * x)
  have h3 : 0 ≤ m * x := Int.mul_nonneg (by omega) hx.1
  have h4 : 0 ≤ m * (6000 - x) := Int.mul_nonneg (by omega) (by omega)
  have h5 : m * (6000 - x) = 6000 * m - m * x := by grind
  generalize m * (6000 - x) = a at *
  generalize m * x = b at *
  omega
theorem ext_mono {fr m m' x : Int} (hf : fr = 0 ∨ fr = 1) (h0 : 1 ≤ m') (h : m' ≤ m) (hm : m ≤ 32000) (hx : 0 ≤ x ∧ x ≤ 6000) : extra (car fr) m' 6000 x 0 ≤ extra (car fr) m 6000 x 0 ∧ extra (car fr) m' 6000 x 1 ≤ extra (car fr) m 6000 x 1 := by
  rcases hf with rfl | rfl
  · obtain ⟨e1, e2⟩ := lev_car (m := m) (x := x) ⟨by omega, hm⟩ hx
    obtain ⟨e3, e4⟩ := lev_car (m := m') (x := x) ⟨h0, by omega⟩ hx
    rw [e1, e2, e3, e4]
    have h1 : m' * (6000 - x) ≤ m * (6000 - x) := Int.mul_le_mul_of_nonneg_right h (by omega)
    have h2 : m' * x ≤ m * x := Int.mul_le_mul_of_nonneg_right h hx.1
    unfold cdiv
    omega
  · exact ⟨Int.le_refl _, h⟩
theorem each_mono {fr m m' x : Int} (hf : fr = 0 ∨ fr = 1) (h0 : 1 ≤ m') (h : m' ≤ m) (hm : m ≤ 32000) (hx : 0 ≤ x ∧ x ≤ 6000) : each (car fr) m' 6000 x 0 ≤ each (car fr) m 6000 x 0 ∧ each (car fr) m' 6000 x 1 ≤ each (car fr) m 6000 x 1 := by
  obtain ⟨h1, h2⟩ := ext_mono hf h0 h hm hx
  rw [each0, each0, each1, each1]
  unfold cdiv
  omega
theorem weighed {fr m x : Int} (hf : fr = 0 ∨ fr = 1) (hm : 1 ≤ m ∧ m ≤ 32000) (hx : 0 ≤ x ∧ x ≤ 6000) : (axE (car fr) m 6000 x = 14) ∨ (axE (car fr) m 6000 x = 0 ∧ axE (car fr) ((m + 1) / 2) 6000 x = 0 ∧ (16000 + m ≤ each (car fr) m 6000 x 0 * 2 + each (car fr) m 6000 x 1 * 3 ∧ each (car fr) m 6000 x 0 * 2 + each (car fr) m 6000 x 1 * 3 ≤ 16000 + m + 6) ∧ (0 ≤ each (car fr) m 6000 x 0 ∧ each (car fr) m 6000 x 0 ≤ 100000) ∧ (0 ≤ each (car fr) m 6000 x 1 ∧ each (car fr) m 6000 x 1 ≤ 100000) ∧ each (car fr) ((m + 1) / 2) 6000 x 0 ≤ each (car fr) m 6000 x 0 ∧ each (car fr) ((m + 1) / 2) 6000 x 1 ≤ each (car fr) m 6000 x 1) := by
  obtain ⟨e1, e2⟩ := axE_car hf hm hx
  obtain ⟨_, e4⟩ := axE_car (m := (m + 1) / 2) hf (by omega) hx
  obtain ⟨g1, g2⟩ := each_mono (m' := (m + 1) / 2) hf (by omega) (by omega) hm.2 hx
  by_cases h : hvy fr m x
  · exact .inl (e1 h)
  right
  have hr : (0 ≤ extra (car fr) m 6000 x 0 ∧ 0 ≤ extra (car fr) m 6000 x 1) ∧ m ≤ extra (car fr) m 6000 x 0 + extra (car fr) m 6000 x 1 ∧ extra (car fr) m 6000 x 0 + extra (car fr) m 6000 x 1 ≤ m + 1 := by
    rcases hf with rfl | rfl
    · exact ext_0 hm hx
    · rw [(ext_1 m x).1, (ext_1 m x).2]; omega
  have a0 := each0 fr m 6000 x
  have a1 := each1 fr m 6000 x
  have c2 := cdiv2 (9000 + extra (car fr) m 6000 x 0)
  have c3 := cdiv3 (7000 + extra (car fr) m 6000 x 1)
  rw [← a0] at c2
  rw [← a1] at c3
  refine ⟨e2 h, e4 (fun q => h ?_), by omega, by omega, by omega, g1, g2⟩
  rcases q with q | q
  · exact .inl (by omega)
  · exact .inr (by omega)
end Go.Proofs.Ytlegpipcmnnaoaa

namespace Go.Proofs.Ytlegpipcmnnaoaa
open Go Sy
set_option maxRecDepth 100000
set_option maxHeartbeats 4000000
set_option linter.unusedVariables false
set_option linter.unusedSimpArgs false
noncomputable def masV (l : Lod) : Int := if chkL l = 0 then smM l.ps else 0
theorem fn6 (l : Lod) (h1 : l.ps.length ≤ 140737488355328) (h2 : l.es.length ≤ 140737488355328) : Sy.Fn Try.prog 6 [.agg (cLd l)] (.tup [iv (masV l), iv (chkL l)]) := by
  refine Fn_of_W mixed Xt6 rfl ?_
  have c11 := fn11 l h1 h2
  repeat' (first | refine w1g ?_ | refine w1l ?_ | refine w1q ?_ | refine w1b ?_ | refine w1p ?_ | ((first | refine w1r ?_ | refine w1k ?_ | refine w1e ?_ | refine CallC.now (c11) ?_); (refine sy1 ?_; try exact True.intro)) | refine an2 ?_ | fail)
  refine W_cond (by rfl) (fun h => ?_) (fun h => ?_)
  · have h0 : ¬ chkL l = 0 := by simpa using h
    rw [show masV l = 0 by unfold masV; rw [if_neg h0]]
    repeat' (first | refine w1g ?_ | refine w1l ?_ | refine w1q ?_ | refine w1b ?_ | refine w1p ?_ | ((first | refine w1r ?_ | refine w1k ?_ | refine w1e ?_); (refine sy1 ?_; try exact True.intro)) | refine an2 ?_ | fail)
    exact W_ret ⟨[_, _], ⟨rfl, rfl, rfl⟩, rfl⟩
  · have h0 : chkL l = 0 := by simpa using h
    have ok := chkL_zero h0
    have c12 := fn12 l.ps ok.n2 ok.pc
    rw [show masV l = smM l.ps by unfold masV; rw [if_pos h0], h0]
    repeat' (first | refine w1g ?_ | refine w1l ?_ | refine w1q ?_ | refine w1b ?_ | refine w1p ?_ | ((first | refine w1r ?_ | refine w1k ?_ | refine w1e ?_ | refine CallC.now (c12) ?_); (refine sy1 ?_; try exact True.intro)) | refine an2 ?_ | fail)
    exact W_ret ⟨[_, _], ⟨rfl, rfl, rfl⟩, rfl⟩
end Go.Proofs.Ytlegpipcmnnaoaa

namespace Go.Proofs.Ytlegpipcmnnaoaa
open Go Sy
set_option maxRecDepth 100000
set_option maxHeartbeats 4000000
set_option linter.unusedVariables false
set_option linter.unusedSimpArgs false
def dQ : Pt := ⟨0, 0⟩
abbrev aQ (l : List Pt) : AV := .sl 2 dQ cPt l
def okQ (p : Pt) : Bool := inR p.x (-16777216) 16777216 && inR p.y (-16777216) 16777216
theorem fn50 (x lo hi : Int) : Sy.Fn Try.prog 50 [iv x, iv lo, iv hi] (bv (inR x lo hi)) := by
  refine Fn_of_W mixed Xt50 rfl ?_
  repeat' (first | refine w1g ?_ | refine w1l ?_ | refine w1q ?_ | refine w1b ?_ | refine w1p ?_ | ((first | refine w1r ?_ | refine w1k ?_ | refine w1e ?_); (refine sy1 ?_; try exact True.intro)) | refine an2 ?_ | fail)
  exact W_ret ⟨[_], ⟨rfl, rfl⟩, rfl⟩
theorem all_no {l : List Pt} {i : Nat} (hi : i < l.length) (h : okQ (l.getD i dQ) = false) : l.all okQ = false := by
  rw [← Bool.not_eq_true, List.all_eq_true]
  intro q
  rw [q _ (getD_mem dQ l i hi)] at h; cases h
theorem all_yes {l : List Pt} (h : ∀ i, i < l.length → okQ (l.getD i dQ) = true) : l.all okQ = true := by
  rw [List.all_eq_true]
  intro x hx
  obtain ⟨i, hi, rfl⟩ := List.mem_iff_getElem.1 hx
  have := h i hi
  simpa [List.getD, List.getElem?_eq_getElem hi] using this
theorem fn49 (l : List Pt) (hl : l.length ≤ 1000000) : Sy.Fn Try.prog 49 [aQ l] (bv (l.all okQ)) := by
  refine Fn_of_W mixed Xt49 rfl ?_
  repeat' (first | refine w1g ?_ | refine w1l ?_ | refine w1q ?_ | refine w1b ?_ | refine w1p ?_ | ((first | refine w1r ?_ | refine w1k ?_ | refine w1e ?_); (refine sy1 ?_; try exact True.intro)) | refine an2 ?_ | fail)
  refine W_loopU (fun i : Nat => [(7, iv i)]) (fun i => []) (fun i => i ≤ l.length ∧ ∀ j, j < i → okQ (l.getD j dQ) = true) (fun i => l.length - i) 0 ⟨by omega, fun j hj => by omega⟩ (by rfl) (by rfl) (fun i hi => ?_)
  obtain ⟨hi, hall⟩ := hi
  (refine sy1 ?_; try exact True.intro)
  repeat' (first | refine w1g ?_ | refine w1l ?_ | refine w1q ?_ | refine w1b ?_ | refine w1p ?_ | ((first | refine w1r ?_ | refine w1k ?_ | refine w1e ?_); (refine sy1 ?_; try exact True.intro)) | refine an2 ?_ | fail)
  refine W_condD (by rfl) (fun h5 => ?_) (fun h5 => ?_)
  · have hlt : i < l.length := by omega
    generalize hp : l.getD i dQ = p at *
    repeat' (first | refine w1g ?_ | refine w1l ?_ | refine w1q ?_ | refine w1b ?_ | refine w1p ?_ | ((first | refine w1r ?_ | refine w1k ?_ | refine w1e ?_ | refine CallC.now (fn50 _ _ _) ?_ | refine CallC.go _ (fun _ => ⟨trivial, fn50 _ _ _⟩) rfl ?_); simp (maxSteps := 400000) (disch := omega) only [push_cast, ↓reduceIte, reduceCtorEq, Nat.reduceAdd, Nat.reduceSub, Nat.reduceEqDiff, Nat.reduceLeDiff, Nat.reduceLT, Nat.reduceBEq, Nat.reduceDiv, Nat.reduceMod, Nat.reducePow, Nat.reduceMul, Int.reduceToNat, Int.reduceLT, Int.reduceLE, hp]) | refine an2 ?_ | fail)
    have key : (!inR p.x (-16777216) 16777216 || !inR p.y (-16777216) 16777216) = !okQ p := by unfold okQ; rw [Bool.not_and]
    rw [key]
    refine W_cond (by rfl) (fun hb => ?_) (fun hb => ?_)
    · rw [all_no hlt (by rw [hp]; simpa using hb)]
      repeat' (first | refine w1g ?_ | refine w1l ?_ | refine w1q ?_ | refine w1b ?_ | refine w1p ?_ | ((first | refine w1r ?_ | refine w1k ?_ | refine w1e ?_); (refine sy1 ?_; try exact True.intro)) | refine an2 ?_ | fail)
      exact W_ret ⟨[_], ⟨rfl, rfl⟩, rfl⟩
    · repeat' (first | refine w1g ?_ | refine w1l ?_ | refine w1q ?_ | refine w1b ?_ | refine w1p ?_ | ((first | refine w1r ?_ | refine w1k ?_ | refine w1e ?_); (refine sy1 ?_; try exact True.intro)) | refine an2 ?_ | fail)
      refine ⟨i + 1, ⟨by omega, up_all hall (by rw [hp]; simpa using hb)⟩, by omega, by rfl, ?_⟩
      (refine syE ?_; try exact True.intro)
  · rw [all_yes (fun j hj => hall j (by omega))]
    repeat' (first | refine w1g ?_ | refine w1l ?_ | refine w1q ?_ | refine w1b ?_ | refine w1p ?_ | ((first | refine w1r ?_ | refine w1k ?_ | refine w1e ?_); (refine sy1 ?_; try exact True.intro)) | refine an2 ?_ | fail)
    exact W_ret ⟨[_], ⟨rfl, rfl⟩, rfl⟩
theorem fn31 (p : Pt) : Sy.Fn Try.prog 31 [.agg (cPt p)] (iv (if okQ p = true then 0 else 2)) := by
  refine Fn_of_W mixed Xt31 rfl ?_
  have c49 := fn49 [p] (by simp)
  rw [show [p].all okQ = okQ p by simp] at c49
  repeat' (first | refine w1g ?_ | refine w1l ?_ | refine w1q ?_ | refine w1b ?_ | refine w1p ?_ | ((first | refine w1r ?_ | refine w1k ?_ | refine w1e ?_); (refine sy1 ?_; try exact True.intro)) | refine an2 ?_ | fail)
  refine ⟨rfl, trivial, Pt, dQ, cPt, [p], rfl, by omega, fun x _ => ⟨rfl, rfl⟩, rfl, ?_⟩
  (refine sy1 ?_; try exact True.intro)
  repeat' (first | refine w1g ?_ | refine w1l ?_ | refine w1q ?_ | refine w1b ?_ | refine w1p ?_ | ((first | refine w1r ?_ | refine w1k ?_ | refine w1e ?_ | refine CallC.go _ (fun _ => ⟨trivial, c49⟩) rfl ?_); (refine sy1 ?_; try exact True.intro)) | refine an2 ?_ | fail)
  refine W_cond (by rfl) (fun h => ?_) (fun h => ?_)
  · rw [if_neg (by simpa using h)]
    repeat' (first | refine w1g ?_ | refine w1l ?_ | refine w1q ?_ | refine w1b ?_ | refine w1p ?_ | ((first | refine w1r ?_ | refine w1k ?_ | refine w1e ?_); (refine sy1 ?_; try exact True.intro)) | refine an2 ?_ | fail)
    exact W_ret ⟨[_], ⟨rfl, rfl⟩, rfl⟩
  · rw [if_pos (by simpa using h)]
    repeat' (first | refine w1g ?_ | refine w1l ?_ | refine w1q ?_ | refine w1b ?_ | refine w1p ?_ | ((first | refine w1r ?_ | refine w1k ?_ | refine w1e ?_); (refine sy1 ?_; try exact True.intro)) | refine an2 ?_ | fail)
    exact W_ret ⟨[_], ⟨rfl, rfl⟩, rfl⟩
theorem fn67 (p : Pt) : Sy.Fn Try.prog 67 [.agg (cPt p)] (.tup [.agg (cPt (if okQ p = true then p else ⟨0, 0⟩)), iv (if okQ p = true then 0 else 4)]) := by
  refine Fn_of_W mixed Xt67 rfl ?_
  have c49 := fn49 [p] (by simp)
  rw [show [p].all okQ = okQ p by simp] at c49
  repeat' (first | refine w1g ?_ | refine w1l ?_ | refine w1q ?_ | refine w1b ?_ | refine w1p ?_ | ((first | refine w1r ?_ | refine w1k ?_ | refine w1e ?_); (refine sy1 ?_; try exact True.intro)) | refine an2 ?_ | fail)
  refine ⟨rfl, trivial, Pt, dQ, cPt, [p], rfl, by omega, fun x _ => ⟨rfl, rfl⟩, rfl, ?_⟩
  (refine sy1 ?_; try exact True.intro)
  repeat' (first | refine w1g ?_ | refine w1l ?_ | refine w1q ?_ | refine w1b ?_ | refine w1p ?_ | ((first | refine w1r ?_ | refine w1k ?_ | refine w1e ?_ | refine CallC.go _ (fun _ => ⟨trivial, c49⟩) rfl ?_); (refine sy1 ?_; try exact True.intro)) | refine an2 ?_ | fail)
  refine W_cond (by rfl) (fun h => ?_) (fun h => ?_)
  · have h' : ¬ okQ p = true := by simpa using h
    rw [if_neg h', if_neg h']
    repeat' (first | refine w1g ?_ | refine w1l ?_ | refine w1q ?_ | refine w1b ?_ | refine w1p ?_ | ((first | refine w1r ?_ | refine w1k ?_ | refine w1e ?_); (refine sy1 ?_; try exact True.intro)) | refine an2 ?_ | fail)
    exact W_ret ⟨[_, _], ⟨⟨by simp, rfl⟩, rfl, rfl⟩, rfl⟩
  · have h' : okQ p = true := by simpa using h
    rw [if_pos h', if_pos h']
    repeat' (first | refine w1g ?_ | refine w1l ?_ | refine w1q ?_ | refine w1b ?_ | refine w1p ?_ | ((first | refine w1r ?_ | refine w1k ?_ | refine w1e ?_); (refine sy1 ?_; try exact True.intro)) | refine an2 ?_ | fail)
    exact W_ret ⟨[_, _], ⟨⟨by simp, rfl⟩, rfl, rfl⟩, rfl⟩
theorem fn77 (a b : Int) (ha : -9223372036854775808 ≤ a ∧ a ≤ 9223372036854775807) (hb : 0 < b) : Sy.Fn Try.prog 77 [iv a, iv b] (iv (a / b)) := by
  refine Fn_of_W mixed Xt77 rfl ?_
  have e1 := wrap_i64_tdiv a b ha.1 ha.2 (by omega)
  have e2 := floor_eq (a := a) hb
  have hm : 0 ≤ a.tmod b ∨ (a.tmod b < 0 ∧ -9223372036854775807 ≤ a.tdiv b) := by
    by_cases h : 0 ≤ a.tmod b
    · exact .inl h
    · right
      refine ⟨by omega, ?_⟩
      have e := Int.tdiv_mul_add_tmod a b
      have l2 : -b < a.tmod b := by
        have := Int.tmod_lt_of_pos (-a) hb
        rw [Int.neg_tmod] at this
        omega
      by_cases q : -9223372036854775807 ≤ a.tdiv b
      · exact q
      · have := Int.mul_le_mul_of_nonneg_right (show a.tdiv b ≤ -9223372036854775808 by omega) (Int.le_of_lt hb)
        omega
  have hu : a.tdiv b ≤ 9223372036854775807 := by
    by_cases q : a.tdiv b ≤ 9223372036854775807
    · exact q
    · have e := Int.tdiv_mul_add_tmod a b
      have l2 : -b < a.tmod b := by
        have := Int.tmod_lt_of_pos (-a) hb
        rw [Int.neg_tmod] at this
        omega
      have := Int.mul_le_mul_of_nonneg_right (show 9223372036854775808 ≤ a.tdiv b by omega) (Int.le_of_lt hb)
      omega
  repeat' (first | refine w1g ?_ | refine w1l ?_ | refine w1q ?_ | refine w1b ?_ | refine w1p ?_ | ((first | refine w1r ?_ | refine w1k ?_ | refine w1e ?_); simp (maxSteps := 400000) (disch := omega) only [push_cast, ↓reduceIte, reduceCtorEq, Nat.reduceAdd, Nat.reduceSub, Nat.reduceEqDiff, Nat.reduceLeDiff, Nat.reduceLT, Nat.reduceBEq, Nat.reduceDiv, Nat.reduceMod, Nat.reducePow, Nat.reduceMul, Int.reduceToNat, Int.reduceLT, Int.reduceLE, e1]) | refine an2 ?_ | fail)
  refine W_condD (by rfl) (fun h => ?_) (fun h => ?_)
  · rw [if_pos h] at e2
    repeat' (first | refine w1g ?_ | refine w1l ?_ | refine w1q ?_ | refine w1b ?_ | refine w1p ?_ | ((first | refine w1r ?_ | refine w1k ?_ | refine w1e ?_); (refine sy1 ?_; try exact True.intro)) | refine an2 ?_ | fail)
    exact W_ret ⟨[_], ⟨rfl, rfl⟩, by rw [e2]; rfl⟩
  · rw [if_neg h] at e2
    repeat' (first | refine w1g ?_ | refine w1l ?_ | refine w1q ?_ | refine w1b ?_ | refine w1p ?_ | ((first | refine w1r ?_ | refine w1k ?_ | refine w1e ?_); (refine sy1 ?_; try exact True.intro)) | refine an2 ?_ | fail)
    exact W_ret ⟨[_], ⟨rfl, rfl⟩, by rw [e2]; rfl⟩
def nr (n d : Int) : Int := if d - (n - n / d * d) ≤ n - n / d * d then n / d + 1 else n / d
theorem fn68 (n d : Int) (hn : -1152921504606846976 ≤ n ∧ n ≤ 1152921504606846976) (hd : 0 < d ∧ d ≤ 4611686018427387905) : Sy.Fn Try.prog 68 [iv n, iv d] (iv (nr n d)) := by
  refine Fn_of_W mixed Xt68 rfl ?_
  have c77 := fn77 n d (by omega) hd.1
  have e1 := Int.ediv_mul_add_emod n d
  have e2 := Int.emod_nonneg n (show d ≠ 0 by omega)
  have e3 := Int.emod_lt_of_pos n hd.1
  have hq : -1152921504606846976 ≤ n / d ∧ n / d ≤ 1152921504606846976 := by
    constructor
    · rw [Int.le_ediv_iff_mul_le hd.1]
      have := Int.mul_le_mul_of_nonneg_left (show 1 ≤ d by omega) (show (0 : Int) ≤ 1152921504606846976 by omega)
      omega
    · have h1 : n / d < 1152921504606846976 + 1 := by
        rw [Int.ediv_lt_iff_lt_mul hd.1]
        have := Int.mul_le_mul_of_nonneg_left (show 1 ≤ d by omega) (show (0 : Int) ≤ 1152921504606846976 + 1 by omega)
        omega
      omega
  unfold nr
  generalize n / d = q at *
  generalize n % d = r at *
  have hqd : q * d = n - r := by omega
  repeat' (first | refine w1g ?_ | refine w1l ?_ | refine w1q ?_ | refine w1b ?_ | refine w1p ?_ | ((first | refine w1r ?_ | refine w1k ?_ | refine w1e ?_ | refine CallC.now (c77) ?_); (refine sy1 ?_; try exact True.intro)) | refine an2 ?_ | fail)
  refine W_condD (by rfl) (fun h => ?_) (fun h => ?_)
  · rw [if_pos h]
    repeat' (first | refine w1g ?_ | refine w1l ?_ | refine w1q ?_ | refine w1b ?_ | refine w1p ?_ | ((first | refine w1r ?_ | refine w1k ?_ | refine w1e ?_); (refine sy1 ?_; try exact True.intro)) | refine an2 ?_ | fail)
    exact W_ret ⟨[_], ⟨rfl, rfl⟩, rfl⟩
  · rw [if_neg h]
    repeat' (first | refine w1g ?_ | refine w1l ?_ | refine w1q ?_ | refine w1b ?_ | refine w1p ?_ | ((first | refine w1r ?_ | refine w1k ?_ | refine w1e ?_); (refine sy1 ?_; try exact True.intro)) | refine an2 ?_ | fail)
    exact W_ret ⟨[_], ⟨rfl, rfl⟩, rfl⟩
end Go.Proofs.Ytlegpipcmnnaoaa

namespace Go.Proofs.Ytlegpipcmnnaoaa
open Go Sy
set_option maxRecDepth 100000
set_option maxHeartbeats 4000000
set_option linter.unusedVariables false
set_option linter.unusedSimpArgs false
def rB (k : Nat) : Int := 2 ^ (62 - 2 * k)
def rS (n : Int) : Nat → Int × Int
  | 0 => (n, 0)
  | k + 1 => if (rS n k).2 + rB k ≤ (rS n k).1 then ((rS n k).1 - ((rS n k).2 + rB k), (rS n k).2 / 2 + rB k) else ((rS n k).1, (rS n k).2 / 2)
def rt (n : Int) : Int := (rS n 32).2
theorem rB_rng (k : Nat) : 1 ≤ rB k ∧ rB k ≤ 4611686018427387904 := by
  unfold rB
  have h1 : (2 : Int) ^ (62 - 2 * k) = ((2 ^ (62 - 2 * k) : Nat) : Int) := by simp
  rw [h1]
  have h2 := Nat.pow_le_pow_right (show 0 < 2 by omega) (show 62 - 2 * k ≤ 62 by omega)
  have h3 := Nat.pow_pos (n := 62 - 2 * k) (show 0 < 2 by omega)
  have h4 : (2 : Nat) ^ 62 = 4611686018427387904 := by decide
  omega
theorem rS_rng {n : Int} (hn : 0 ≤ n) : ∀ k, (0 ≤ (rS n k).1 ∧ (rS n k).1 ≤ n) ∧ 0 ≤ (rS n k).2 ∧ (rS n k).2 ≤ 9223372036854775808
  | 0 => by simp only [rS]; omega
  | k + 1 => by
    obtain ⟨h1, h2⟩ := rS_rng hn k
    have hb := rB_rng k
    simp only [rS]
    split
    · dsimp only; omega
    · dsimp only; omega
theorem rS_succ (n : Int) (k : Nat) : rS n (k + 1) = if (rS n k).2 + rB k ≤ (rS n k).1 then ((rS n k).1 - ((rS n k).2 + rB k), (rS n k).2 / 2 + rB k) else ((rS n k).1, (rS n k).2 / 2) := rfl
theorem rt_rng {n : Int} (hn : 0 ≤ n) : 0 ≤ rt n ∧ rt n ≤ 4611686018427387905 := by
  have h := (rS_rng hn 31).2
  have hb : rB 31 = 1 := by decide
  have e : rS n 32 = _ := rS_succ n 31
  unfold rt
  rw [e, hb]
  generalize rS n 31 = q at *
  split
  · dsimp only; omega
  · dsimp only; omega
theorem shl_rB {k : Nat} (hk : k < 32) : IntKind.u64.wrap (1 * 2 ^ (min (62 - 2 * (k : Int)).toNat IntKind.u64.bits)) = rB k := by
  have h1 : min (62 - 2 * (k : Int)).toNat IntKind.u64.bits = 62 - 2 * k := by
    rw [show IntKind.u64.bits = 64 from rfl]; omega
  have h2 := rB_rng k
  rw [h1, Int.one_mul]
  unfold rB at h2 ⊢
  rw [IntKind.wrap_u64]
  exact Int.emod_eq_of_lt (by omega) (by omega)
theorem fn66 (n : Int) (hn : 0 ≤ n ∧ n ≤ 9223372036854775807) : Sy.Fn Try.prog 66 [iv n] (iv (rt n)) := by
  refine Fn_of_W mixed Xt66 rfl ?_
  have hwn : IntKind.u64.wrap n = n := by rw [IntKind.wrap_u64]; omega
  repeat' (first | refine w1g ?_ | refine w1l ?_ | refine w1q ?_ | refine w1b ?_ | refine w1p ?_ | ((first | refine w1r ?_ | refine w1k ?_ | refine w1e ?_); simp (maxSteps := 400000) (disch := omega) only [push_cast, ↓reduceIte, reduceCtorEq, Nat.reduceAdd, Nat.reduceSub, Nat.reduceEqDiff, Nat.reduceLeDiff, Nat.reduceLT, Nat.reduceBEq, Nat.reduceDiv, Nat.reduceMod, Nat.reducePow, Nat.reduceMul, Int.reduceToNat, Int.reduceLT, Int.reduceLE, hwn]) | refine an2 ?_ | fail)
  refine W_loopU (fun k : Nat => [(3, .v (.int .u64 (rS n k).1)), (4, .v (.int .u64 (rS n k).2)), (9, iv k)]) (fun k => []) (fun k => k ≤ 32) (fun k => 32 - k) 0 (by omega) (by rfl) (by rfl) (fun k hk => ?_)
  (refine sy1 ?_; try exact True.intro)
  repeat' (first | refine w1g ?_ | refine w1l ?_ | refine w1q ?_ | refine w1b ?_ | refine w1p ?_ | ((first | refine w1r ?_ | refine w1k ?_ | refine w1e ?_); (refine sy1 ?_; try exact True.intro)) | refine an2 ?_ | fail)
  refine W_condD (by rfl) (fun h5 => ?_) (fun h5 => ?_)
  · have hlt : k < 32 := by omega
    have hb := rB_rng k
    have hs := shl_rB hlt
    obtain ⟨h1, h2⟩ := rS_rng hn.1 k
    have e1 : rS n (k + 1) = if (rS n k).2 + rB k ≤ (rS n k).1 then ((rS n k).1 - ((rS n k).2 + rB k), (rS n k).2 / 2 + rB k) else ((rS n k).1, (rS n k).2 / 2) := rfl
    generalize (rS n k).1 = l at *
    generalize (rS n k).2 = r at *
    have w1 : IntKind.u64.wrap (r + rB k) = r + rB k := by rw [IntKind.wrap_u64]; omega
    have w3 : r.fdiv (2 ^ (min 1 IntKind.u64.bits)) = r / 2 := by
      rw [show (2 : Int) ^ (min 1 IntKind.u64.bits) = 2 from rfl]
      exact Int.fdiv_eq_ediv_of_nonneg _ (by omega)
    have w4 : IntKind.u64.wrap (r / 2 + rB k) = r / 2 + rB k := by rw [IntKind.wrap_u64]; omega
    repeat' (first | refine w1g ?_ | refine w1l ?_ | refine w1q ?_ | refine w1b ?_ | refine w1p ?_ | ((first | refine w1r ?_ | refine w1k ?_ | refine w1e ?_); simp (maxSteps := 400000) (disch := omega) only [push_cast, ↓reduceIte, reduceCtorEq, Nat.reduceAdd, Nat.reduceSub, Nat.reduceEqDiff, Nat.reduceLeDiff, Nat.reduceLT, Nat.reduceBEq, Nat.reduceDiv, Nat.reduceMod, Nat.reducePow, Nat.reduceMul, Int.reduceToNat, Int.reduceLT, Int.reduceLE, hs, w1]) | refine an2 ?_ | fail)
    refine W_condD (by rfl) (fun h6 => ?_) (fun h6 => ?_)
    · have w2 : IntKind.u64.wrap (l - (r + rB k)) = l - (r + rB k) := by rw [IntKind.wrap_u64]; omega
      rw [if_pos h6] at e1
      repeat' (first | refine w1g ?_ | refine w1l ?_ | refine w1q ?_ | refine w1b ?_ | refine w1p ?_ | ((first | refine w1r ?_ | refine w1k ?_ | refine w1e ?_); simp (maxSteps := 400000) (disch := omega) only [push_cast, ↓reduceIte, reduceCtorEq, Nat.reduceAdd, Nat.reduceSub, Nat.reduceEqDiff, Nat.reduceLeDiff, Nat.reduceLT, Nat.reduceBEq, Nat.reduceDiv, Nat.reduceMod, Nat.reducePow, Nat.reduceMul, Int.reduceToNat, Int.reduceLT, Int.reduceLE, w1, w2, w3, w4]) | refine an2 ?_ | fail)
      refine ⟨k + 1, by omega, by omega, by rfl, ?_⟩
      rw [e1]
      (refine syE ?_; try exact True.intro)
    · rw [if_neg h6] at e1
      repeat' (first | refine w1g ?_ | refine w1l ?_ | refine w1q ?_ | refine w1b ?_ | refine w1p ?_ | ((first | refine w1r ?_ | refine w1k ?_ | refine w1e ?_); simp (maxSteps := 400000) (disch := omega) only [push_cast, ↓reduceIte, reduceCtorEq, Nat.reduceAdd, Nat.reduceSub, Nat.reduceEqDiff, Nat.reduceLeDiff, Nat.reduceLT, Nat.reduceBEq, Nat.reduceDiv, Nat.reduceMod, Nat.reducePow, Nat.reduceMul, Int.reduceToNat, Int.reduceLT, Int.reduceLE, w3]) | refine an2 ?_ | fail)
      refine ⟨k + 1, by omega, by omega, by rfl, ?_⟩
      rw [e1]
      (refine syE ?_; try exact True.intro)
  · obtain rfl : k = 32 := by omega
    have hr := rt_rng hn.1
    have e : (rS n 32).2 = rt n := rfl
    rw [e]
    generalize (rS n 32).1 = l
    generalize rt n = r at *
    repeat' (first | refine w1g ?_ | refine w1l ?_ | refine w1q ?_ | refine w1b ?_ | refine w1p ?_ | ((first | refine w1r ?_ | refine w1k ?_ | refine w1e ?_); (refine sy1 ?_; try exact True.intro)) | refine an2 ?_ | fail)
    exact W_ret ⟨[_], ⟨rfl, rfl⟩, rfl⟩
theorem abs_mul {a b A B : Int} (ha : -A ≤ a ∧ a ≤ A) (hb : -B ≤ b ∧ b ≤ B) : -(A * B) ≤ a * b ∧ a * b ≤ A * B := by
  have hA : 0 ≤ A := by omega
  have hB : 0 ≤ B := by omega
  have h1 : (a * b).natAbs ≤ (A * B).natAbs := by
    rw [Int.natAbs_mul, Int.natAbs_mul]
    exact Nat.mul_le_mul (by omega) (by omega)
  have h2 : 0 ≤ A * B := Int.mul_nonneg hA hB
  omega
theorem nr_rng {n d : Int} (hd : 0 < d) (hn : -72057594037927936 ≤ n ∧ n ≤ 72057594037927936) : -72057594037927937 ≤ nr n d ∧ nr n d ≤ 72057594037927937 := by
  have hq : -72057594037927936 ≤ n / d ∧ n / d ≤ 72057594037927936 := by
    constructor
    · rw [Int.le_ediv_iff_mul_le hd]
      have := Int.mul_le_mul_of_nonneg_left (show 1 ≤ d by omega) (show (0 : Int) ≤ 72057594037927936 by omega)
      omega
    · have h1 : n / d < 72057594037927936 + 1 := by
        rw [Int.ediv_lt_iff_lt_mul hd]
        have := Int.mul_le_mul_of_nonneg_left (show 1 ≤ d by omega) (show (0 : Int) ≤ 72057594037927936 + 1 by omega)
        omega
      omega
  unfold nr
  split <;> omega
def plR (a h : Pt) : Int := rt (1024 * ((h.x - a.x) * (h.x - a.x) + (h.y - a.y) * (h.y - a.y)))
def plP (a h : Pt) (x y : Int) : Pt := ⟨a.x + nr (32 * ((h.x - a.x) * x - (h.y - a.y) * y)) (plR a h), a.y + nr (32 * ((h.y - a.y) * x + (h.x - a.x) * y)) (plR a h)⟩
structure PlOK (a h : Pt) (x y : Int) : Prop where
  ka : okQ a = true
  kh : okQ h = true
  kx : inR x (-16777216) 16777216 = true
  ky : inR y (-16777216) 16777216 = true
  kz : ¬ (h.x - a.x = 0 ∧ h.y - a.y = 0)
  kr : 0 < plR a h
  kp : okQ (plP a h x y) = true
theorem okQ_iff {p : Pt} : okQ p = true ↔ (-16777216 ≤ p.x ∧ p.x ≤ 16777216) ∧ -16777216 ≤ p.y ∧ p.y ≤ 16777216 := by
  unfold okQ
  rw [Bool.and_eq_true, inR_iff, inR_iff]
theorem fn51 (a h : Pt) (x y : Int) (ok : PlOK a h x y) : Sy.Fn Try.prog 51 [.agg (cPt a), .agg (cPt h), iv x, iv y] (.tup [.agg (cPt (plP a h x y)), iv 0]) := by
  refine Fn_of_W mixed Xt51 rfl ?_
  have a1 := okQ_iff.1 ok.ka
  have a2 := okQ_iff.1 ok.kh
  have a3 := inR_iff.1 ok.kx
  have a4 := inR_iff.1 ok.ky
  have hz := ok.kz
  have hr := ok.kr
  have hp := ok.kp
  have c67 := fn67 (plP a h x y)
  rw [if_pos hp, if_pos hp] at c67
  unfold plP at *
  unfold plR at *
  obtain ⟨u, hu⟩ : ∃ u, u = h.x - a.x := ⟨_, rfl⟩
  obtain ⟨v, hv⟩ : ∃ v, v = h.y - a.y := ⟨_, rfl⟩
  rw [← hu, ← hv] at hz hr hp c67 ⊢
  have bu : -33554432 ≤ u ∧ u ≤ 33554432 := by omega
  have bv' : -33554432 ≤ v ∧ v ≤ 33554432 := by omega
  have m1 := abs_mul bu bu
  have m2 := abs_mul bv' bv'
  have m3 := abs_mul bu (show -16777216 ≤ x ∧ x ≤ 16777216 by omega)
  have m4 := abs_mul bv' (show -16777216 ≤ y ∧ y ≤ 16777216 by omega)
  have m5 := abs_mul bv' (show -16777216 ≤ x ∧ x ≤ 16777216 by omega)
  have m6 := abs_mul bu (show -16777216 ≤ y ∧ y ≤ 16777216 by omega)
  have s1 : 0 ≤ u * u := by rcases Int.le_total 0 u with q | q; exact Int.mul_nonneg q q; exact Int.mul_nonneg_of_nonpos_of_nonpos q q
  have s2 : 0 ≤ v * v := by rcases Int.le_total 0 v with q | q; exact Int.mul_nonneg q q; exact Int.mul_nonneg_of_nonpos_of_nonpos q q
  have c66 := fn66 (1024 * (u * u + v * v)) (by omega)
  have hr2 := (rt_rng (n := 1024 * (u * u + v * v)) (by omega)).2
  generalize rt (1024 * (u * u + v * v)) = r at *
  have c1 := fn68 (32 * (u * x - v * y)) r (by omega) ⟨hr, by omega⟩
  have c2 := fn68 (32 * (v * x + u * y)) r (by omega) ⟨hr, by omega⟩
  have n1 := nr_rng (n := 32 * (u * x - v * y)) hr (by omega)
  have n2 := nr_rng (n := 32 * (v * x + u * y)) hr (by omega)
  have w1 : IntKind.i64.wrap (h.x - a.x) = u := by rw [wrap64 ⟨by omega, by omega⟩, hu]
  have w2 : IntKind.i64.wrap (h.y - a.y) = v := by rw [wrap64 ⟨by omega, by omega⟩, hv]
  repeat' (first | refine w1g ?_ | refine w1l ?_ | refine w1q ?_ | refine w1b ?_ | refine w1p ?_ | ((first | refine w1r ?_ | refine w1k ?_ | refine w1e ?_); simp (maxSteps := 400000) (disch := omega) only [push_cast, ↓reduceIte, reduceCtorEq, Nat.reduceAdd, Nat.reduceSub, Nat.reduceEqDiff, Nat.reduceLeDiff, Nat.reduceLT, Nat.reduceBEq, Nat.reduceDiv, Nat.reduceMod, Nat.reducePow, Nat.reduceMul, Int.reduceToNat, Int.reduceLT, Int.reduceLE, ← hu, ← hv]) | refine an2 ?_ | fail)
  refine W_cond (by rfl) (fun hb => absurd (by simpa using hb) hz) (fun _ => ?_)
  repeat' (first | refine w1g ?_ | refine w1l ?_ | refine w1q ?_ | refine w1b ?_ | refine w1p ?_ | ((first | refine w1r ?_ | refine w1k ?_ | refine w1e ?_ | refine CallC.now (c66) ?_ | refine CallC.now (c1) ?_ | refine CallC.now (c2) ?_ | refine CallC.now (c67) ?_); simp (maxSteps := 400000) (disch := omega) only [push_cast, ↓reduceIte, reduceCtorEq, Nat.reduceAdd, Nat.reduceSub, Nat.reduceEqDiff, Nat.reduceLeDiff, Nat.reduceLT, Nat.reduceBEq, Nat.reduceDiv, Nat.reduceMod, Nat.reducePow, Nat.reduceMul, Int.reduceToNat, Int.reduceLT, Int.reduceLE, ← hu, ← hv]) | refine an2 ?_ | fail)
  exact W_ret ⟨[_, _], ⟨⟨by simp, rfl⟩, rfl, rfl⟩, rfl⟩
theorem fn52 (a h : Pt) (x y : Int) (ok : PlOK a h x y) : Sy.Fn Try.prog 52 [.agg (cPt a), .agg (cPt h), iv x, iv y] (.tup [.agg (cPt (plP a h x y)), iv 0]) := by
  refine Fn_of_W mixed Xt52 rfl ?_
  have c49 := fn49 [a, h] (by simp)
  rw [show [a, h].all okQ = true by simp [ok.ka, ok.kh]] at c49
  have c51 := fn51 a h x y ok
  repeat' (first | refine w1g ?_ | refine w1l ?_ | refine w1q ?_ | refine w1b ?_ | refine w1p ?_ | ((first | refine w1r ?_ | refine w1k ?_ | refine w1e ?_); (refine sy1 ?_; try exact True.intro)) | refine an2 ?_ | fail)
  refine ⟨rfl, trivial, Pt, dQ, cPt, [a, h], rfl, by omega, fun x _ => ⟨rfl, rfl⟩, rfl, ?_⟩
  (refine sy1 ?_; try exact True.intro)
  repeat' (first | refine w1g ?_ | refine w1l ?_ | refine w1q ?_ | refine w1b ?_ | refine w1p ?_ | ((first | refine w1r ?_ | refine w1k ?_ | refine w1e ?_ | refine CallC.go _ (fun _ => ⟨trivial, c49⟩) rfl ?_); (refine sy1 ?_; try exact True.intro)) | refine an2 ?_ | fail)
  refine W_cond (by rfl) (fun hb => by cases hb) (fun _ => ?_)
  repeat' (first | refine w1g ?_ | refine w1l ?_ | refine w1q ?_ | refine w1b ?_ | refine w1p ?_ | ((first | refine w1r ?_ | refine w1k ?_ | refine w1e ?_ | refine CallC.now (fn50 _ _ _) ?_ | refine CallC.go _ (fun _ => ⟨trivial, fn50 _ _ _⟩) rfl ?_); (refine sy1 ?_; try exact True.intro)) | refine an2 ?_ | fail)
  rw [ok.kx, ok.ky]
  refine W_cond (by rfl) (fun hb => by cases hb) (fun _ => ?_)
  repeat' (first | refine w1g ?_ | refine w1l ?_ | refine w1q ?_ | refine w1b ?_ | refine w1p ?_ | ((first | refine w1r ?_ | refine w1k ?_ | refine w1e ?_ | refine CallC.now (c51) ?_); (refine sy1 ?_; try exact True.intro)) | refine an2 ?_ | fail)
  exact W_ret ⟨[_, _], ⟨⟨by simp, rfl⟩, rfl, rfl⟩, rfl⟩
theorem fn32 (h a : Pt) (n : Int) (hn : inR n 1 16777216 = true) (ok : PlOK h a n 0) : Sy.Fn Try.prog 32 [.agg (cPt h), .agg (cPt a), iv n] (.tup [.agg (cPt (plP h a n 0)), iv 0]) := by
  refine Fn_of_W mixed Xt32 rfl ?_
  have c49 := fn49 [a, h] (by simp)
  rw [show [a, h].all okQ = true by simp [ok.ka, ok.kh]] at c49
  have c51 := fn51 h a n 0 ok
  repeat' (first | refine w1g ?_ | refine w1l ?_ | refine w1q ?_ | refine w1b ?_ | refine w1p ?_ | ((first | refine w1r ?_ | refine w1k ?_ | refine w1e ?_); (refine sy1 ?_; try exact True.intro)) | refine an2 ?_ | fail)
  refine ⟨rfl, trivial, Pt, dQ, cPt, [a, h], rfl, by omega, fun x _ => ⟨rfl, rfl⟩, rfl, ?_⟩
  (refine sy1 ?_; try exact True.intro)
  repeat' (first | refine w1g ?_ | refine w1l ?_ | refine w1q ?_ | refine w1b ?_ | refine w1p ?_ | ((first | refine w1r ?_ | refine w1k ?_ | refine w1e ?_ | refine CallC.go _ (fun _ => ⟨trivial, c49⟩) rfl ?_); (refine sy1 ?_; try exact True.intro)) | refine an2 ?_ | fail)
  refine W_cond (by rfl) (fun hb => by cases hb) (fun _ => ?_)
  repeat' (first | refine w1g ?_ | refine w1l ?_ | refine w1q ?_ | refine w1b ?_ | refine w1p ?_ | ((first | refine w1r ?_ | refine w1k ?_ | refine w1e ?_ | refine CallC.now (fn50 _ _ _) ?_); (refine sy1 ?_; try exact True.intro)) | refine an2 ?_ | fail)
  rw [hn]
  refine W_cond (by rfl) (fun hb => by cases hb) (fun _ => ?_)
  repeat' (first | refine w1g ?_ | refine w1l ?_ | refine w1q ?_ | refine w1b ?_ | refine w1p ?_ | ((first | refine w1r ?_ | refine w1k ?_ | refine w1e ?_ | refine CallC.now (c51) ?_); (refine sy1 ?_; try exact True.intro)) | refine an2 ?_ | fail)
  exact W_ret ⟨[_, _], ⟨⟨by simp, rfl⟩, rfl, rfl⟩, rfl⟩
end Go.Proofs.Ytlegpipcmnnaoaa

namespace Go.Proofs.Ytlegpipcmnnaoaa
open Go Sy
set_option maxRecDepth 100000
set_option maxHeartbeats 4000000
set_option linter.unusedVariables false
set_option linter.unusedSimpArgs false
structure UnOK (u : Unt) : Prop where
  l : 0 ≤ u.length ∧ u.length ≤ 131072
  s : u.steer = 0
  b : -131072 ≤ u.behind ∧ u.behind ≤ 131072
theorem fn33 (u : Unt) (h : UnOK u) : Sy.Fn Try.prog 33 [.agg (cU u)] (iv u.length) := by
  refine Fn_of_W mixed Xt33 rfl ?_
  have h1 := h.l
  have h2 := h.s
  have e1 := wrap_i64_tdiv (u.length * (1000 - 0)) 1000 (by omega) (by omega) (by omega)
  have e2 : (u.length * (1000 - 0)).tdiv 1000 = u.length := by rw [Int.tdiv_eq_ediv_of_nonneg (by omega)]; omega
  repeat' (first | refine w1g ?_ | refine w1l ?_ | refine w1q ?_ | refine w1b ?_ | refine w1p ?_ | ((first | refine w1r ?_ | refine w1k ?_ | refine w1e ?_); simp (maxSteps := 400000) (disch := omega) only [push_cast, ↓reduceIte, reduceCtorEq, Nat.reduceAdd, Nat.reduceSub, Nat.reduceEqDiff, Nat.reduceLeDiff, Nat.reduceLT, Nat.reduceBEq, Nat.reduceDiv, Nat.reduceMod, Nat.reducePow, Nat.reduceMul, Int.reduceToNat, Int.reduceLT, Int.reduceLE, h2, e1, e2]) | refine an2 ?_ | fail)
  exact W_ret ⟨[_], ⟨rfl, rfl⟩, rfl⟩
theorem fn35 (u : Unt) (h : UnOK u) : Sy.Fn Try.prog 35 [.agg (cU u)] (iv (0 - u.behind)) := by
  refine Fn_of_W mixed Xt35 rfl ?_
  have h1 := h.l
  have h3 := h.b
  have c33 := fn33 u h
  repeat' (first | refine w1g ?_ | refine w1l ?_ | refine w1q ?_ | refine w1b ?_ | refine w1p ?_ | ((first | refine w1r ?_ | refine w1k ?_ | refine w1e ?_ | refine CallC.now (c33) ?_); simp (maxSteps := 400000) (disch := omega) only [push_cast, ↓reduceIte, reduceCtorEq, Nat.reduceAdd, Nat.reduceSub, Nat.reduceEqDiff, Nat.reduceLeDiff, Nat.reduceLT, Nat.reduceBEq, Nat.reduceDiv, Nat.reduceMod, Nat.reducePow, Nat.reduceMul, Int.reduceToNat, Int.reduceLT, Int.reduceLE, Int.sub_self]) | refine an2 ?_ | fail)
  exact W_ret ⟨[_], ⟨rfl, rfl⟩, rfl⟩
abbrev cPl (u : Unt) (j a : Pt) : List AV := [iv u.kind, iv u.length, iv u.behind, iv u.front, iv u.rear, iv u.width, iv u.height, iv u.mass, iv u.steer, iv u.most, aA u.axles, iv j.x, iv j.y, iv a.x, iv a.y]
theorem fn34 (u : Unt) (j a : Pt) (x y : Int) (ok : PlOK a j x y) : Sy.Fn Try.prog 34 [.agg (cPl u j a), iv x, iv y] (.tup [.agg (cPt (plP a j x y)), iv 0]) := by
  refine Fn_of_W mixed Xt34 rfl ?_
  have c52 := fn52 a j x y ok
  repeat' (first | refine w1g ?_ | refine w1l ?_ | refine w1q ?_ | refine w1b ?_ | refine w1p ?_ | ((first | refine w1r ?_ | refine w1k ?_ | refine w1e ?_ | refine CallC.now (c52) ?_); (refine sy1 ?_; try exact True.intro)) | refine an2 ?_ | fail)
  exact W_ret ⟨[_, _], ⟨⟨by simp, rfl⟩, rfl, rfl⟩, rfl⟩
end Go.Proofs.Ytlegpipcmnnaoaa

namespace Go.Proofs.Ytlegpipcmnnaoaa
open Go Sy
set_option maxRecDepth 100000
set_option maxHeartbeats 4000000
set_option linter.unusedVariables false
set_option linter.unusedSimpArgs false
structure Pld where
  u : Unt
  j : Pt
  a : Pt
def dPd : Pld := ⟨dU, dQ, dQ⟩
abbrev cPd (p : Pld) : List AV := cPl p.u p.j p.a
abbrev aPd (l : List Pld) : AV := .sl 15 dPd cPd l
structure Two (v : Veh) (u0 u1 : Unt) (p0 p1 p2 : Pt) : Prop where
  vu : v.units = [u0, u1]
  ch : chkV v = 0
  k0 : UnOK u0
  k1 : UnOK u1
  b0 : u0.behind = 0
  b1 : u1.behind = 0
  q0 : okQ p0 = true
  q1 : okQ p1 = true
  q2 : okQ p2 = true
  n1 : (p1.x == p0.x && p1.y == p0.y) = false
  n2 : (p2.x == p1.x && p2.y == p1.y) = false
  l1 : PlOK p1 p0 0 0
  l2 : PlOK p2 p1 0 0
  e1 : plP p1 p0 0 0 = p1
  e2 : plP p2 p1 0 0 = p2
abbrev cRg (v : Veh) (p0 : Pt) (ps : List Pt) : List AV := [stv v.name, aU v.units, iv v.fr, iv v.to, iv p0.x, iv p0.y, aQ ps]
theorem fn70 (v : Veh) (p0 : Pt) (ps : List Pt) : Sy.Fn Try.prog 70 [.agg (cRg v p0 ps)] (.clo 79 [] [.fp (cRg v p0 ps) 0]) := by
  refine Fn_of_W mixed Xt70 rfl ?_
  repeat' (first | refine w1g ?_ | refine w1l ?_ | refine w1q ?_ | refine w1b ?_ | refine w1p ?_ | ((first | refine w1r ?_ | refine w1k ?_ | refine w1e ?_); (refine sy1 ?_; try exact True.intro)) | refine an2 ?_ | fail)
  exact W_ret ⟨[_], ⟨rfl, rfl⟩, rfl⟩
def jt (p0 p1 p2 : Pt) : Nat → Pt
  | 0 => p0
  | 1 => p1
  | _ => p2
def pls (u0 u1 : Unt) (p0 p1 p2 : Pt) : List Pld := [⟨u0, p0, p1⟩, ⟨u1, p1, p2⟩]
theorem fn78 (v : Veh) (u0 u1 : Unt) (p0 p1 p2 : Pt) (ps : List Pt) (hps : ps = [p1, p2]) (T : Two v u0 u1 p0 p1 p2) : Sy.Fn Try.prog 78 [.v (.slice none 0 0), .clo 79 [] [.fp (cRg v p0 ps) 0]] (aPd (pls u0 u1 p0 p1 p2)) := by
  refine Fn_of_W mixed Xt78 rfl ?_
  obtain ⟨vu, ch, k0, k1, b0, b1, q0, q1, q2, n1, n2, l1, l2, e1, e2⟩ := T
  have hl : v.units.length = 2 := by rw [vu]; rfl
  have g0 : v.units.getD 0 dU = u0 := by rw [vu]; rfl
  have g1 : v.units.getD 1 dU = u1 := by rw [vu]; rfl
  have s0 : ps.getD 0 dQ = p1 := by rw [hps]; rfl
  have s1 : ps.getD 1 dQ = p2 := by rw [hps]; rfl
  have sl : ps.length = 2 := by rw [hps]; rfl
  have a1 := fn31 p1
  rw [if_pos q1] at a1
  have a2 := fn31 p2
  rw [if_pos q2] at a2
  have d0 := fn35 u0 k0
  have d1 := fn35 u1 k1
  rw [b0] at d0
  rw [b1] at d1
  have f0 := fn34 u0 p0 p1 0 0 l1
  have f1 := fn34 u1 p1 p2 0 0 l2
  rw [e1] at f0
  rw [e2] at f1
  have ce0 : cU u0 = [iv u0.kind, iv u0.length, iv u0.behind, iv u0.front, iv u0.rear, iv u0.width, iv u0.height, iv u0.mass, iv u0.steer, iv u0.most, aA u0.axles] := rfl
  have ce1 : cU u1 = [iv u1.kind, iv u1.length, iv u1.behind, iv u1.front, iv u1.rear, iv u1.width, iv u1.height, iv u1.mass, iv u1.steer, iv u1.most, aA u1.axles] := rfl
  have z0 : ((0 : Int) != 0) = false := rfl
  repeat' (first | refine w1g ?_ | refine w1l ?_ | refine w1q ?_ | refine w1b ?_ | refine w1p ?_ | ((first | refine w1r ?_ | refine w1k ?_ | refine w1e ?_); (refine sy1 ?_; try exact True.intro)) | refine an2 ?_ | fail)
  refine W_rfn (.inl rfl) (fun lp R hR => Inl_of_W mixed Xt79 rfl (fun vs => ?_))
  simp (maxSteps := 400000) (disch := omega) only [push_cast, ↓reduceIte, reduceCtorEq, Nat.reduceAdd, Nat.reduceSub, Nat.reduceEqDiff, Nat.reduceLeDiff, Nat.reduceLT, Nat.reduceBEq, Nat.reduceDiv, Nat.reduceMod, Nat.reducePow, Nat.reduceMul, Int.reduceToNat, Int.reduceLT, Int.reduceLE, hl]
  repeat' (first | refine w1g ?_ | refine w1l ?_ | refine w1q ?_ | refine w1b ?_ | refine w1p ?_ | ((first | refine w1r ?_ | refine w1k ?_ | refine w1e ?_); simp (maxSteps := 400000) (disch := omega) only [push_cast, ↓reduceIte, reduceCtorEq, Nat.reduceAdd, Nat.reduceSub, Nat.reduceEqDiff, Nat.reduceLeDiff, Nat.reduceLT, Nat.reduceBEq, Nat.reduceDiv, Nat.reduceMod, Nat.reducePow, Nat.reduceMul, Int.reduceToNat, Int.reduceLT, Int.reduceLE, hl]) | refine an2 ?_ | fail)
  refine W_le (le_adoptC 0 0 88 15 dPd cPd (by omega) _ rfl rfl (by simp)) ?_
  (refine sy1 ?_; try exact True.intro)
  refine W_loopU (fun i : Nat => [(16, iv i)]) (fun i => [(0, .cells [.row 15 i]), (15, .row i 88 15 dPd cPd ((pls u0 u1 p0 p1 p2).take i)), (8, .cells (cPt (jt p0 p1 p2 i)))]) (fun i => i ≤ 2) (fun i => 2 - i) 0 (by omega) (by rfl) (by rfl) (fun i hi => ?_)
  simp (maxSteps := 400000) (disch := omega) only [push_cast, ↓reduceIte, reduceCtorEq, Nat.reduceAdd, Nat.reduceSub, Nat.reduceEqDiff, Nat.reduceLeDiff, Nat.reduceLT, Nat.reduceBEq, Nat.reduceDiv, Nat.reduceMod, Nat.reducePow, Nat.reduceMul, Int.reduceToNat, Int.reduceLT, Int.reduceLE, hl]
  repeat' (first | refine w1g ?_ | refine w1l ?_ | refine w1q ?_ | refine w1b ?_ | refine w1p ?_ | ((first | refine w1r ?_ | refine w1k ?_ | refine w1e ?_); simp (maxSteps := 400000) (disch := omega) only [push_cast, ↓reduceIte, reduceCtorEq, Nat.reduceAdd, Nat.reduceSub, Nat.reduceEqDiff, Nat.reduceLeDiff, Nat.reduceLT, Nat.reduceBEq, Nat.reduceDiv, Nat.reduceMod, Nat.reducePow, Nat.reduceMul, Int.reduceToNat, Int.reduceLT, Int.reduceLE, hl]) | refine an2 ?_ | fail)
  refine W_condD (by rfl) (fun h5 => ?_) (fun h5 => ?_)
  · obtain rfl | rfl : i = 0 ∨ i = 1 := by omega
    · rw [show jt p0 p1 p2 0 = p0 from rfl]
      repeat' (first | refine w1g ?_ | refine w1l ?_ | refine w1q ?_ | refine w1b ?_ | refine w1p ?_ | ((first | refine w1r ?_ | refine w1k ?_ | refine w1e ?_ | refine CallC.now (a1) ?_); simp (maxSteps := 400000) (disch := omega) only [push_cast, ↓reduceIte, reduceCtorEq, Nat.reduceAdd, Nat.reduceSub, Nat.reduceEqDiff, Nat.reduceLeDiff, Nat.reduceLT, Nat.reduceBEq, Nat.reduceDiv, Nat.reduceMod, Nat.reducePow, Nat.reduceMul, Int.reduceToNat, Int.reduceLT, Int.reduceLE, hl, g0, s0, sl, ce0, z0, n1]) | refine an2 ?_ | fail)
      refine StopC.yld (fun hpc => ⟨trivial, Yl_of_W (k := 3) mixed hR rfl rfl rfl (fun vs2 => ?_)⟩) (fun hpc => absurd (by simp [Sy.pc]) hpc)
      (refine sy1 ?_; try exact True.intro)
      repeat' (first | refine w1g ?_ | refine w1l ?_ | refine w1q ?_ | refine w1b ?_ | refine w1p ?_ | ((first | refine w1r ?_ | refine w1k ?_ | refine w1e ?_); (refine sy1 ?_; try exact True.intro)) | refine an2 ?_ | fail)
      refine ⟨_, rfl, ?_⟩
      (refine sy1 ?_; try exact True.intro)
      repeat' (first | refine w1g ?_ | refine w1l ?_ | refine w1q ?_ | refine w1b ?_ | refine w1p ?_ | ((first | refine w1r ?_ | refine w1k ?_ | refine w1e ?_); (refine sy1 ?_; try exact True.intro)) | refine an2 ?_ | fail)
      refine ⟨rfl, trivial, Pld, dPd, cPd, [(⟨u0, p0, p1⟩ : Pld)], rfl, by omega, fun x _ => ⟨rfl, rfl⟩, rfl, ?_⟩
      (refine sy1 ?_; try exact True.intro)
      refine ⟨rfl, ⟨Nat.le_of_ble_eq_true rfl, rfl⟩, trivial, [(⟨u0, p0, p1⟩ : Pld)], rfl, by first | omega | (simp; done) | (simp; omega), by first | omega | (simp; done) | (simp; omega), ?_⟩
      (refine sy1 ?_; try exact True.intro)
      refine ⟨_, _, rfl, rfl, ?_⟩
      simp (maxSteps := 400000) (disch := omega) only [push_cast, ↓reduceIte, reduceCtorEq, Nat.reduceAdd, Nat.reduceSub, Nat.reduceEqDiff, Nat.reduceLeDiff, Nat.reduceLT, Nat.reduceBEq, Nat.reduceDiv, Nat.reduceMod, Nat.reducePow, Nat.reduceMul, Int.reduceToNat, Int.reduceLT, Int.reduceLE, z0, n1]
      refine W_cond (by rfl) (fun h => by cases h) (fun _ => ?_)
      repeat' (first | refine w1g ?_ | refine w1l ?_ | refine w1q ?_ | refine w1b ?_ | refine w1p ?_ | ((first | refine w1r ?_ | refine w1k ?_ | refine w1e ?_ | refine CallC.now (d0) ?_ | refine CallC.now (f0) ?_); simp (maxSteps := 400000) (disch := omega) only [push_cast, ↓reduceIte, reduceCtorEq, Nat.reduceAdd, Nat.reduceSub, Nat.reduceEqDiff, Nat.reduceLeDiff, Nat.reduceLT, Nat.reduceBEq, Nat.reduceDiv, Nat.reduceMod, Nat.reducePow, Nat.reduceMul, Int.reduceToNat, Int.reduceLT, Int.reduceLE, ce0, Int.sub_self]) | refine an2 ?_ | fail)
      refine W_cond (by rfl) (fun h => by cases h) (fun _ => ?_)
      repeat' (first | refine w1g ?_ | refine w1l ?_ | refine w1q ?_ | refine w1b ?_ | refine w1p ?_ | ((first | refine w1r ?_ | refine w1k ?_ | refine w1e ?_); (refine sy1 ?_; try exact True.intro)) | refine an2 ?_ | fail)
      refine ⟨1, by omega, by omega, by rfl, ?_⟩
      (refine syE ?_; try exact True.intro)
      exact ⟨rfl, rfl, rfl⟩
    · rw [show jt p0 p1 p2 1 = p1 from rfl, show ((1 : Nat) : Int) = 1 from rfl]
      repeat' (first | refine w1g ?_ | refine w1l ?_ | refine w1q ?_ | refine w1b ?_ | refine w1p ?_ | ((first | refine w1r ?_ | refine w1k ?_ | refine w1e ?_ | refine CallC.now (a2) ?_); simp (maxSteps := 400000) (disch := omega) only [push_cast, ↓reduceIte, reduceCtorEq, Nat.reduceAdd, Nat.reduceSub, Nat.reduceEqDiff, Nat.reduceLeDiff, Nat.reduceLT, Nat.reduceBEq, Nat.reduceDiv, Nat.reduceMod, Nat.reducePow, Nat.reduceMul, Int.reduceToNat, Int.reduceLT, Int.reduceLE, hl, g1, s1, sl, ce1, z0, n2]) | refine an2 ?_ | fail)
      refine StopC.yld (fun hpc => ⟨trivial, Yl_of_W (k := 3) mixed hR rfl rfl rfl (fun vs2 => ?_)⟩) (fun hpc => absurd (by simp [Sy.pc]) hpc)
      (refine sy1 ?_; try exact True.intro)
      repeat' (first | refine w1g ?_ | refine w1l ?_ | refine w1q ?_ | refine w1b ?_ | refine w1p ?_ | ((first | refine w1r ?_ | refine w1k ?_ | refine w1e ?_); (refine sy1 ?_; try exact True.intro)) | refine an2 ?_ | fail)
      refine ⟨_, rfl, ?_⟩
      (refine sy1 ?_; try exact True.intro)
      repeat' (first | refine w1g ?_ | refine w1l ?_ | refine w1q ?_ | refine w1b ?_ | refine w1p ?_ | ((first | refine w1r ?_ | refine w1k ?_ | refine w1e ?_); (refine sy1 ?_; try exact True.intro)) | refine an2 ?_ | fail)
      refine ⟨rfl, trivial, Pld, dPd, cPd, [(⟨u1, p1, p2⟩ : Pld)], rfl, by omega, fun x _ => ⟨rfl, rfl⟩, rfl, ?_⟩
      (refine sy1 ?_; try exact True.intro)
      refine ⟨rfl, ⟨Nat.le_of_ble_eq_true rfl, rfl⟩, trivial, [(⟨u1, p1, p2⟩ : Pld)], rfl, by first | omega | (simp; done) | (simp; omega), by first | omega | (simp; done) | (simp; omega), ?_⟩
      (refine sy1 ?_; try exact True.intro)
      refine ⟨_, _, rfl, rfl, ?_⟩
      simp (maxSteps := 400000) (disch := omega) only [push_cast, ↓reduceIte, reduceCtorEq, Nat.reduceAdd, Nat.reduceSub, Nat.reduceEqDiff, Nat.reduceLeDiff, Nat.reduceLT, Nat.reduceBEq, Nat.reduceDiv, Nat.reduceMod, Nat.reducePow, Nat.reduceMul, Int.reduceToNat, Int.reduceLT, Int.reduceLE, z0, n2]
      refine W_cond (by rfl) (fun h => by cases h) (fun _ => ?_)
      repeat' (first | refine w1g ?_ | refine w1l ?_ | refine w1q ?_ | refine w1b ?_ | refine w1p ?_ | ((first | refine w1r ?_ | refine w1k ?_ | refine w1e ?_ | refine CallC.now (d1) ?_ | refine CallC.now (f1) ?_); simp (maxSteps := 400000) (disch := omega) only [push_cast, ↓reduceIte, reduceCtorEq, Nat.reduceAdd, Nat.reduceSub, Nat.reduceEqDiff, Nat.reduceLeDiff, Nat.reduceLT, Nat.reduceBEq, Nat.reduceDiv, Nat.reduceMod, Nat.reducePow, Nat.reduceMul, Int.reduceToNat, Int.reduceLT, Int.reduceLE, ce1, Int.sub_self]) | refine an2 ?_ | fail)
      refine W_cond (by rfl) (fun h => by cases h) (fun _ => ?_)
      repeat' (first | refine w1g ?_ | refine w1l ?_ | refine w1q ?_ | refine w1b ?_ | refine w1p ?_ | ((first | refine w1r ?_ | refine w1k ?_ | refine w1e ?_); (refine sy1 ?_; try exact True.intro)) | refine an2 ?_ | fail)
      refine ⟨2, by omega, by omega, by rfl, ?_⟩
      (refine syE ?_; try exact True.intro)
      exact ⟨rfl, rfl, rfl, rfl⟩
  · obtain rfl : i = 2 := by omega
    repeat' (first | refine w1g ?_ | refine w1l ?_ | refine w1q ?_ | refine w1b ?_ | refine w1p ?_ | ((first | refine w1r ?_ | refine w1k ?_ | refine w1e ?_); (refine sy1 ?_; try exact True.intro)) | refine an2 ?_ | fail)
    refine ⟨_, _, rfl, rfl, ⟨_, _, rfl, by rw [hR.st]; simp, ?_⟩⟩
    rw [hR.pe]
    simp (maxSteps := 400000) (disch := omega) only [push_cast, ↓reduceIte, reduceCtorEq, Nat.reduceAdd, Nat.reduceSub, Nat.reduceEqDiff, Nat.reduceLeDiff, Nat.reduceLT, Nat.reduceBEq, Nat.reduceDiv, Nat.reduceMod, Nat.reducePow, Nat.reduceMul, Int.reduceToNat, Int.reduceLT, Int.reduceLE, EndP]
    repeat' (first | refine w1g ?_ | refine w1l ?_ | refine w1q ?_ | refine w1b ?_ | refine w1p ?_ | ((first | refine w1r ?_ | refine w1k ?_ | refine w1e ?_); (refine sy1 ?_; try exact True.intro)) | refine an2 ?_ | fail)
    refine W_ret ⟨[_], ⟨rfl, rfl⟩, ?_⟩
    simp (maxSteps := 400000) (disch := omega) only [push_cast, ↓reduceIte, reduceCtorEq, Nat.reduceAdd, Nat.reduceSub, Nat.reduceEqDiff, Nat.reduceLeDiff, Nat.reduceLT, Nat.reduceBEq, Nat.reduceDiv, Nat.reduceMod, Nat.reducePow, Nat.reduceMul, Int.reduceToNat, Int.reduceLT, Int.reduceLE, pack]
    rfl
theorem fn69 (v : Veh) (u0 u1 : Unt) (p0 p1 p2 : Pt) (ps : List Pt) (hps : ps = [p1, p2]) (T : Two v u0 u1 p0 p1 p2) : Sy.Fn Try.prog 69 [.clo 79 [] [.fp (cRg v p0 ps) 0]] (aPd (pls u0 u1 p0 p1 p2)) := by
  refine Fn_of_W mixed Xt69 rfl ?_
  repeat' (first | refine w1g ?_ | refine w1l ?_ | refine w1q ?_ | refine w1b ?_ | refine w1p ?_ | ((first | refine w1r ?_ | refine w1k ?_ | refine w1e ?_ | refine CallC.now (fn78 v u0 u1 p0 p1 p2 ps hps T) ?_); (refine sy1 ?_; try exact True.intro)) | refine an2 ?_ | fail)
  exact W_ret ⟨[_], ⟨rfl, rfl⟩, rfl⟩
abbrev cPo (p0 : Pt) (ps : List Pt) : List AV := [iv p0.x, iv p0.y, aQ ps]
theorem fn53 (v : Veh) (u0 u1 : Unt) (p0 p1 p2 : Pt) (ps : List Pt) (hps : ps = [p1, p2]) (T : Two v u0 u1 p0 p1 p2) (hv : Gr v) : Sy.Fn Try.prog 53 [.agg (cV v), .agg (cPo p0 ps)] (.tup [aPd (pls u0 u1 p0 p1 p2), iv 0]) := by
  refine Fn_of_W mixed Xt53 rfl ?_
  have c13 := fn13 v hv
  rw [T.ch] at c13
  have c31 := fn31 p0
  rw [if_pos T.q0] at c31
  have c70 := fn70 v p0 ps
  have c69 := fn69 v u0 u1 p0 p1 p2 ps hps T
  have hl : v.units.length = 2 := by rw [T.vu]; rfl
  have sl : ps.length = 2 := by rw [hps]; rfl
  have dl : (pls u0 u1 p0 p1 p2).length = 2 := rfl
  repeat' (first | refine w1g ?_ | refine w1l ?_ | refine w1q ?_ | refine w1b ?_ | refine w1p ?_ | ((first | refine w1r ?_ | refine w1k ?_ | refine w1e ?_ | refine CallC.now (c13) ?_); (refine sy1 ?_; try exact True.intro)) | refine an2 ?_ | fail)
  refine W_cond (by rfl) (fun h => by cases h) (fun _ => ?_)
  repeat' (first | refine w1g ?_ | refine w1l ?_ | refine w1q ?_ | refine w1b ?_ | refine w1p ?_ | ((first | refine w1r ?_ | refine w1k ?_ | refine w1e ?_ | refine CallC.now (c31) ?_ | refine CallC.go _ (fun _ => ⟨trivial, c31⟩) rfl ?_); simp (maxSteps := 400000) (disch := omega) only [push_cast, ↓reduceIte, reduceCtorEq, Nat.reduceAdd, Nat.reduceSub, Nat.reduceEqDiff, Nat.reduceLeDiff, Nat.reduceLT, Nat.reduceBEq, Nat.reduceDiv, Nat.reduceMod, Nat.reducePow, Nat.reduceMul, Int.reduceToNat, Int.reduceLT, Int.reduceLE, hl, sl]) | refine an2 ?_ | fail)
  refine W_cond (by rfl) (fun h => absurd h (by decide)) (fun _ => ?_)
  have cvx : cV v = [stv v.name, aU v.units, iv v.fr, iv v.to] := rfl
  repeat' (first | refine w1g ?_ | refine w1l ?_ | refine w1q ?_ | refine w1b ?_ | refine w1p ?_ | ((first | refine w1r ?_ | refine w1k ?_ | refine w1e ?_ | refine CallC.now (c70) ?_ | refine CallC.now (c69) ?_); simp (maxSteps := 400000) (disch := omega) only [push_cast, ↓reduceIte, reduceCtorEq, Nat.reduceAdd, Nat.reduceSub, Nat.reduceEqDiff, Nat.reduceLeDiff, Nat.reduceLT, Nat.reduceBEq, Nat.reduceDiv, Nat.reduceMod, Nat.reducePow, Nat.reduceMul, Int.reduceToNat, Int.reduceLT, Int.reduceLE, hl, sl, cvx]) | refine an2 ?_ | fail)
  refine W_cond (by rfl) (fun h => by rw [dl] at h; exact absurd h (by decide)) (fun _ => ?_)
  repeat' (first | refine w1g ?_ | refine w1l ?_ | refine w1q ?_ | refine w1b ?_ | refine w1p ?_ | ((first | refine w1r ?_ | refine w1k ?_ | refine w1e ?_); (refine sy1 ?_; try exact True.intro)) | refine an2 ?_ | fail)
  exact W_ret ⟨[_, _], ⟨rfl, rfl, rfl⟩, rfl⟩
theorem fn36 (v : Veh) (u0 u1 : Unt) (p0 p1 p2 : Pt) (ps : List Pt) (hps : ps = [p1, p2]) (T : Two v u0 u1 p0 p1 p2) (hv : Gr v) : Sy.Fn Try.prog 36 [.agg (cV v), .agg (cPo p0 ps)] (.tup [.agg (cPo p0 ps), iv 0]) := by
  refine Fn_of_W mixed Xt36 rfl ?_
  have c53 := fn53 v u0 u1 p0 p1 p2 ps hps T hv
  repeat' (first | refine w1g ?_ | refine w1l ?_ | refine w1q ?_ | refine w1b ?_ | refine w1p ?_ | ((first | refine w1r ?_ | refine w1k ?_ | refine w1e ?_ | refine CallC.now (c53) ?_); (refine sy1 ?_; try exact True.intro)) | refine an2 ?_ | fail)
  refine W_cond (by rfl) (fun h => by cases h) (fun _ => ?_)
  repeat' (first | refine w1g ?_ | refine w1l ?_ | refine w1q ?_ | refine w1b ?_ | refine w1p ?_ | ((first | refine w1r ?_ | refine w1k ?_ | refine w1e ?_); (refine sy1 ?_; try exact True.intro)) | refine an2 ?_ | fail)
  exact W_ret ⟨[_, _], ⟨⟨by simp, rfl⟩, rfl, rfl⟩, rfl⟩
end Go.Proofs.Ytlegpipcmnnaoaa

namespace Go.Proofs.Ytlegpipcmnnaoaa
open Go Sy
set_option maxRecDepth 100000
set_option maxHeartbeats 4000000
set_option linter.unusedVariables false
set_option linter.unusedSimpArgs false
structure Strt (v : Veh) (u0 u1 : Unt) (p0 p1 p2 pb : Pt) : Prop where
  T : Two v u0 u1 p0 p1 p2
  gr : Gr v
  qb : okQ pb = true
  len : inR u0.length 1 16777216 = true
  pl : PlOK p0 pb u0.length 0
  e1 : plP p0 pb u0.length 0 = p1
  pj : PlOK p1 p0 (0 - u1.length) 0
  e2 : plP p1 p0 (0 - u1.length) 0 = p2
def bef (u0 u1 : Unt) (p0 p1 p2 : Pt) : Nat → List AV
  | 0 => cPl u0 p0 p1
  | _ => cPl u1 p1 p2
theorem fn14 (v : Veh) (u0 u1 : Unt) (p0 p1 p2 pb : Pt) (D : Strt v u0 u1 p0 p1 p2 pb) : Sy.Fn Try.prog 14 [.agg (cV v), .agg (cPt p0), .agg (cPt pb)] (.tup [.agg (cPo p0 [p1, p2]), iv 0]) := by
  refine Fn_of_W mixed Xt14 rfl ?_
  have T := D.T
  have c13 := fn13 v D.gr
  rw [T.ch] at c13
  have c31 := fn31 p0
  rw [if_pos T.q0] at c31
  have c31b := fn31 pb
  rw [if_pos D.qb] at c31b
  have l0 := fn33 u0 T.k0
  have l1 := fn33 u1 T.k1
  have b0 := fn35 u0 T.k0
  rw [T.b0] at b0
  have c32 := fn32 p0 pb u0.length D.len D.pl
  rw [D.e1] at c32
  have f0 := fn34 u0 p0 p1 0 0 T.l1
  rw [T.e1] at f0
  have f1 := fn34 u0 p0 p1 (0 - u1.length) 0 D.pj
  rw [D.e2] at f1
  have hl : v.units.length = 2 := by rw [T.vu]; rfl
  have g0 : v.units.getD 0 dU = u0 := by rw [T.vu]; rfl
  have gd : v.units.drop 1 = [u1] := by rw [T.vu]; rfl
  have ul := T.k1.l
  have ce0 : cU u0 = [iv u0.kind, iv u0.length, iv u0.behind, iv u0.front, iv u0.rear, iv u0.width, iv u0.height, iv u0.mass, iv u0.steer, iv u0.most, aA u0.axles] := rfl
  have ce1 : cU u1 = [iv u1.kind, iv u1.length, iv u1.behind, iv u1.front, iv u1.rear, iv u1.width, iv u1.height, iv u1.mass, iv u1.steer, iv u1.most, aA u1.axles] := rfl
  have z0 : ((0 : Int) != 0) = false := rfl
  repeat' (first | refine w1g ?_ | refine w1l ?_ | refine w1q ?_ | refine w1b ?_ | refine w1p ?_ | ((first | refine w1r ?_ | refine w1k ?_ | refine w1e ?_ | refine CallC.now (c13) ?_); (refine sy1 ?_; try exact True.intro)) | refine an2 ?_ | fail)
  refine W_cond (by rfl) (fun h => by cases h) (fun _ => ?_)
  repeat' (first | refine w1g ?_ | refine w1l ?_ | refine w1q ?_ | refine w1b ?_ | refine w1p ?_ | ((first | refine w1r ?_ | refine w1k ?_ | refine w1e ?_ | refine CallC.now (c31) ?_ | refine CallC.go _ (fun _ => ⟨trivial, c31b⟩) rfl ?_); simp (maxSteps := 400000) (disch := omega) only [push_cast, ↓reduceIte, reduceCtorEq, Nat.reduceAdd, Nat.reduceSub, Nat.reduceEqDiff, Nat.reduceLeDiff, Nat.reduceLT, Nat.reduceBEq, Nat.reduceDiv, Nat.reduceMod, Nat.reducePow, Nat.reduceMul, Int.reduceToNat, Int.reduceLT, Int.reduceLE, z0]) | refine an2 ?_ | fail)
  refine W_cond (by rfl) (fun h => absurd h (by decide)) (fun _ => ?_)
  repeat' (first | refine w1g ?_ | refine w1l ?_ | refine w1q ?_ | refine w1b ?_ | refine w1p ?_ | ((first | refine w1r ?_ | refine w1k ?_ | refine w1e ?_ | refine CallC.now (l0) ?_ | refine CallC.now (c32) ?_); simp (maxSteps := 400000) (disch := omega) only [push_cast, ↓reduceIte, reduceCtorEq, Nat.reduceAdd, Nat.reduceSub, Nat.reduceEqDiff, Nat.reduceLeDiff, Nat.reduceLT, Nat.reduceBEq, Nat.reduceDiv, Nat.reduceMod, Nat.reducePow, Nat.reduceMul, Int.reduceToNat, Int.reduceLT, Int.reduceLE, hl, g0]) | refine an2 ?_ | fail)
  refine W_cond (by rfl) (fun h => by cases h) (fun _ => ?_)
  refine W_le (le_adoptC 20 2 59 2 dQ cPt (by omega) _ rfl rfl (by simp)) ?_
  repeat' (first | refine w1g ?_ | refine w1l ?_ | refine w1q ?_ | refine w1b ?_ | refine w1p ?_ | ((first | refine w1r ?_ | refine w1k ?_ | refine w1e ?_); (refine sy1 ?_; try exact True.intro)) | refine an2 ?_ | fail)
  refine ⟨rfl, trivial, Pt, dQ, cPt, [p1], rfl, by omega, fun x _ => ⟨rfl, rfl⟩, rfl, ?_⟩
  (refine sy1 ?_; try exact True.intro)
  refine ⟨rfl, ⟨Nat.le_of_ble_eq_true rfl, rfl⟩, trivial, [p1], rfl, by first | omega | (simp; done) | (simp; omega), by first | omega | (simp; done) | (simp; omega), ?_⟩
  (refine sy1 ?_; try exact True.intro)
  repeat' (first | refine w1g ?_ | refine w1l ?_ | refine w1q ?_ | refine w1b ?_ | refine w1p ?_ | ((first | refine w1r ?_ | refine w1k ?_ | refine w1e ?_); simp (maxSteps := 400000) (disch := omega) only [push_cast, ↓reduceIte, reduceCtorEq, Nat.reduceAdd, Nat.reduceSub, Nat.reduceEqDiff, Nat.reduceLeDiff, Nat.reduceLT, Nat.reduceBEq, Nat.reduceDiv, Nat.reduceMod, Nat.reducePow, Nat.reduceMul, Int.reduceToNat, Int.reduceLT, Int.reduceLE, ce0, hl, gd]) | refine an2 ?_ | fail)
  refine W_loopU (fun i : Nat => [(68, iv i)]) (fun i => [(20, .cells [iv p0.x, iv p0.y, .row 42 (1 + i)]), (42, .row (1 + i) 59 2 dQ cPt ([p1, p2].take (1 + i))), (54, .cells (bef u0 u1 p0 p1 p2 i))]) (fun i => i ≤ 1) (fun i => 1 - i) 0 (by omega) (by rfl) (by rfl) (fun i hi => ?_)
  (refine sy1 ?_; try exact True.intro)
  repeat' (first | refine w1g ?_ | refine w1l ?_ | refine w1q ?_ | refine w1b ?_ | refine w1p ?_ | ((first | refine w1r ?_ | refine w1k ?_ | refine w1e ?_); (refine sy1 ?_; try exact True.intro)) | refine an2 ?_ | fail)
  refine W_condD (by rfl) (fun h5 => ?_) (fun h5 => ?_)
  · obtain rfl : i = 0 := by omega
    rw [show bef u0 u1 p0 p1 p2 0 = cPl u0 p0 p1 from rfl, show [p1, p2].take (1 + 0) = [p1] from rfl, show [u1] = v.units.drop 1 from gd.symm]
    have gd1 : (v.units.drop 1).getD 0 dU = u1 := by rw [gd]; rfl
    have gl1 : (v.units.drop 1).length = 1 := by rw [gd]; rfl
    rw [Int.sub_self] at b0
    repeat' (first | refine w1g ?_ | refine w1l ?_ | refine w1q ?_ | refine w1b ?_ | refine w1p ?_ | ((first | refine w1r ?_ | refine w1k ?_ | refine w1e ?_ | refine CallC.now (b0) ?_ | refine CallC.now (f0) ?_); simp (maxSteps := 400000) (disch := omega) only [push_cast, ↓reduceIte, reduceCtorEq, Nat.reduceAdd, Nat.reduceSub, Nat.reduceEqDiff, Nat.reduceLeDiff, Nat.reduceLT, Nat.reduceBEq, Nat.reduceDiv, Nat.reduceMod, Nat.reducePow, Nat.reduceMul, Int.reduceToNat, Int.reduceLT, Int.reduceLE, gd1, gl1, ce1]) | refine an2 ?_ | fail)
    refine W_cond (by rfl) (fun h => by cases h) (fun _ => ?_)
    repeat' (first | refine w1g ?_ | refine w1l ?_ | refine w1q ?_ | refine w1b ?_ | refine w1p ?_ | ((first | refine w1r ?_ | refine w1k ?_ | refine w1e ?_ | refine CallC.now (b0) ?_ | refine CallC.now (l1) ?_ | refine CallC.now (f1) ?_); simp (maxSteps := 400000) (disch := omega) only [push_cast, ↓reduceIte, reduceCtorEq, Nat.reduceAdd, Nat.reduceSub, Nat.reduceEqDiff, Nat.reduceLeDiff, Nat.reduceLT, Nat.reduceBEq, Nat.reduceDiv, Nat.reduceMod, Nat.reducePow, Nat.reduceMul, Int.reduceToNat, Int.reduceLT, Int.reduceLE, ce1]) | refine an2 ?_ | fail)
    refine W_cond (by rfl) (fun h => by cases h) (fun _ => ?_)
    repeat' (first | refine w1g ?_ | refine w1l ?_ | refine w1q ?_ | refine w1b ?_ | refine w1p ?_ | ((first | refine w1r ?_ | refine w1k ?_ | refine w1e ?_); (refine sy1 ?_; try exact True.intro)) | refine an2 ?_ | fail)
    refine ⟨rfl, trivial, Pt, dQ, cPt, [p2], rfl, by omega, fun x _ => ⟨rfl, rfl⟩, rfl, ?_⟩
    (refine sy1 ?_; try exact True.intro)
    refine ⟨rfl, ⟨Nat.le_of_ble_eq_true rfl, rfl⟩, trivial, [p2], rfl, by first | omega | (simp; done) | (simp; omega), by first | omega | (simp; done) | (simp; omega), ?_⟩
    (refine sy1 ?_; try exact True.intro)
    repeat' (first | refine w1g ?_ | refine w1l ?_ | refine w1q ?_ | refine w1b ?_ | refine w1p ?_ | ((first | refine w1r ?_ | refine w1k ?_ | refine w1e ?_); simp (maxSteps := 400000) (disch := omega) only [push_cast, ↓reduceIte, reduceCtorEq, Nat.reduceAdd, Nat.reduceSub, Nat.reduceEqDiff, Nat.reduceLeDiff, Nat.reduceLT, Nat.reduceBEq, Nat.reduceDiv, Nat.reduceMod, Nat.reducePow, Nat.reduceMul, Int.reduceToNat, Int.reduceLT, Int.reduceLE, ce1]) | refine an2 ?_ | fail)
    refine ⟨1, by omega, by omega, by rfl, ?_⟩
    (refine syE ?_; try exact True.intro)
    rfl
  · obtain rfl : i = 1 := by omega
    have c36 := fn36 v u0 u1 p0 p1 p2 [p1, p2] rfl T D.gr
    rw [show bef u0 u1 p0 p1 p2 1 = cPl u1 p1 p2 from rfl, show [p1, p2].take (1 + 1) = [p1, p2] from rfl, show 1 + 1 = 2 from rfl]
    refine w1e ?_
    (refine sy1 ?_; try exact True.intro)
    repeat (first | refine WK_go ?_ | refine W_seqL ?_ | refine W_seq ?_ | refine W_block ?_)
    refine W_regP [2] (by decide) ?_
    simp (maxSteps := 400000) (disch := omega) only [push_cast, ↓reduceIte, reduceCtorEq, Nat.reduceAdd, Nat.reduceSub, Nat.reduceEqDiff, Nat.reduceLeDiff, Nat.reduceLT, Nat.reduceBEq, Nat.reduceDiv, Nat.reduceMod, Nat.reducePow, Nat.reduceMul, Int.reduceToNat, Int.reduceLT, Int.reduceLE, chainP, List.take_succ_cons, List.take_zero, List.drop_succ_cons, List.drop_zero]
    refine ⟨_, le_frzA 113 [iv p0.x, iv p0.y] [] [6, 112] [3] 64 42 2 59 2 dQ cPt [p1, p2] rfl rfl rfl rfl rfl rfl, ?_⟩
    simp (maxSteps := 400000) (disch := omega) only [push_cast, ↓reduceIte, reduceCtorEq, Nat.reduceAdd, Nat.reduceSub, Nat.reduceEqDiff, Nat.reduceLeDiff, Nat.reduceLT, Nat.reduceBEq, Nat.reduceDiv, Nat.reduceMod, Nat.reducePow, Nat.reduceMul, Int.reduceToNat, Int.reduceLT, Int.reduceLE, chainP, List.take_succ_cons, List.take_zero, List.drop_succ_cons, List.drop_zero, List.cons_append, List.nil_append]
    refine CallC.now c36 ?_
    (refine sy1 ?_; try exact True.intro)
    repeat' (first | refine w1g ?_ | refine w1l ?_ | refine w1q ?_ | refine w1b ?_ | refine w1p ?_ | ((first | refine w1r ?_ | refine w1k ?_ | refine w1e ?_); (refine sy1 ?_; try exact True.intro)) | refine an2 ?_ | fail)
    exact W_ret ⟨[_, _], ⟨⟨by simp, rfl⟩, rfl, rfl⟩, rfl⟩
end Go.Proofs.Ytlegpipcmnnaoaa

namespace Go.Proofs.Ytlegpipcmnnaoaa
open Go Sy
set_option maxRecDepth 100000
set_option maxHeartbeats 8000000
set_option linter.unusedVariables false
set_option linter.unusedSimpArgs false
def msU (l : List Unt) : Int := l.foldl (fun a u => a + u.mass) 0
theorem msU_succ {l : List Unt} {i : Nat} (h : i < l.length) : msU (l.take (i + 1)) = msU (l.take i) + (su l i).mass := by
  have e : su l i = l[i] := by simp [su, List.getD, h]
  rw [List.take_succ_eq_append_getElem h, e]
  simp only [msU, List.foldl_append, List.foldl_cons, List.foldl_nil]
theorem fn8 (v : Veh) (hv : Gr v) (h : chkV v = 0) : Sy.Fn Try.prog 8 [.agg (cV v)] (.tup [iv (msU v.units), iv 0]) := by
  refine Fn_of_W mixed Xt8 rfl ?_
  have c13 := fn13 v hv
  rw [h] at c13
  obtain ⟨h1, h2, _⟩ := chkV_ok h
  repeat' (first | refine w1g ?_ | refine w1l ?_ | refine w1q ?_ | refine w1b ?_ | refine w1p ?_ | ((first | refine w1r ?_ | refine w1k ?_ | refine w1e ?_ | refine CallC.now (c13) ?_); (refine sy1 ?_; try exact True.intro)) | refine an2 ?_ | fail)
  refine W_cond (by rfl) (fun h => by cases h) (fun _ => ?_)
  repeat' (first | refine w1g ?_ | refine w1l ?_ | refine w1q ?_ | refine w1b ?_ | refine w1p ?_ | ((first | refine w1r ?_ | refine w1k ?_ | refine w1e ?_); (refine sy1 ?_; try exact True.intro)) | refine an2 ?_ | fail)
  refine W_loopU (fun i : Nat => [(5, iv (msU (v.units.take i))), (16, iv i)]) (fun i => []) (fun i => i ≤ v.units.length ∧ 0 ≤ msU (v.units.take i) ∧ msU (v.units.take i) ≤ i * 1048576) (fun i => v.units.length - i) 0 ⟨by omega, by simp [msU], by simp [msU]⟩ (by rfl) (by rfl) (fun i hi => ?_)
  obtain ⟨hi, hs1, hs2⟩ := hi
  (refine sy1 ?_; try exact True.intro)
  repeat' (first | refine w1g ?_ | refine w1l ?_ | refine w1q ?_ | refine w1b ?_ | refine w1p ?_ | ((first | refine w1r ?_ | refine w1k ?_ | refine w1e ?_); (refine sy1 ?_; try exact True.intro)) | refine an2 ?_ | fail)
  refine W_condD (by rfl) (fun h5 => ?_) (fun h5 => ?_)
  · have hlt : i < v.units.length := by omega
    have e1 := msU_succ hlt
    obtain ⟨_, g2, _⟩ := h2 i hlt
    have g3 := g2.1
    have hu : v.units.getD i dU = su v.units i := rfl
    generalize su v.units i = u at *
    generalize msU (v.units.take i) = M at *
    repeat' (first | refine w1g ?_ | refine w1l ?_ | refine w1q ?_ | refine w1b ?_ | refine w1p ?_ | ((first | refine w1r ?_ | refine w1k ?_ | refine w1e ?_); simp (maxSteps := 400000) (disch := omega) only [push_cast, ↓reduceIte, reduceCtorEq, Nat.reduceAdd, Nat.reduceSub, Nat.reduceEqDiff, Nat.reduceLeDiff, Nat.reduceLT, Nat.reduceBEq, Nat.reduceDiv, Nat.reduceMod, Nat.reducePow, Nat.reduceMul, Int.reduceToNat, Int.reduceLT, Int.reduceLE, hu]) | refine an2 ?_ | fail)
    refine ⟨i + 1, ⟨by omega, by omega, by omega⟩, by omega, by rfl, ?_⟩
    rw [e1]
    (refine syE ?_; try exact True.intro)
  · obtain rfl : i = v.units.length := by omega
    rw [List.take_length]
    repeat' (first | refine w1g ?_ | refine w1l ?_ | refine w1q ?_ | refine w1b ?_ | refine w1p ?_ | ((first | refine w1r ?_ | refine w1k ?_ | refine w1e ?_); (refine sy1 ?_; try exact True.intro)) | refine an2 ?_ | fail)
    exact W_ret ⟨[_, _], ⟨rfl, rfl, rfl⟩, rfl⟩
abbrev cBx (b : Bx) : List AV := [.v (.int .u8 b.x), .v (.int .u8 b.y), .v (.int .u8 b.z), .v (.int .u8 b.l), .v (.int .u8 b.w), .v (.int .u8 b.h), .v (.int .u16 b.m)]
abbrev aBx (l : List Bx) : AV := .sl 7 dBx cBx l
theorem fn7 (l : List Bx) (hl : l.length ≤ 140737488355328) (h : ∀ b ∈ l, OBx b) : Sy.Fn Try.prog 7 [aBx l] (.agg (cLd (crg l))) := by
  refine Fn_of_W mixed Xt7 rfl ?_
  repeat' (first | refine w1g ?_ | refine w1l ?_ | refine w1q ?_ | refine w1b ?_ | refine w1p ?_ | ((first | refine w1r ?_ | refine w1k ?_ | refine w1e ?_); (refine sy1 ?_; try exact True.intro)) | refine an2 ?_ | fail)
  refine W_le (le_adoptC 2 1 56 7 dPc cPc (by omega) _ rfl rfl (by simp)) ?_
  (refine sy1 ?_; try exact True.intro)
  refine W_le (le_adoptC 2 2 76 4 dEy cEy (by omega) _ rfl rfl (by simp)) ?_
  (refine sy1 ?_; try exact True.intro)
  refine W_loopU (fun i : Nat => [(4, iv i)]) (fun i => [(2, .cells [tx crgS, .row 5 i, .row 6 0, iv 300]), (5, .row i 56 7 dPc cPc ((l.take i).map pOf))]) (fun i => i ≤ 4 ∧ i ≤ l.length) (fun i => 4 - i) 0 ⟨by omega, by omega⟩ (by rfl) (by rfl) (fun i hi => ?_)
  obtain ⟨h4, hi⟩ := hi
  (refine sy1 ?_; try exact True.intro)
  repeat' (first | refine w1g ?_ | refine w1l ?_ | refine w1q ?_ | refine w1b ?_ | refine w1p ?_ | ((first | refine w1r ?_ | refine w1k ?_ | refine w1e ?_); (refine sy1 ?_; try exact True.intro)) | refine an2 ?_ | fail)
  refine W_cond (by rfl) (fun h5 => ?_) (fun h5 => ?_)
  · rw [Bool.and_eq_true, decide_eq_true_eq, decide_eq_true_eq] at h5
    have hlt : i < l.length := by omega
    have hb := h _ (getD_mem dBx l i hlt)
    have ht : l.take (i + 1) = l.take i ++ [l.getD i dBx] := by
      rw [List.take_succ_eq_append_getElem hlt]
      simp [List.getD, hlt]
    generalize hq : l.getD i dBx = b at *
    obtain ⟨b1, b2, b3, b4, b5, b6, b7⟩ := hb
    have em : b.m.tmod 8000 = b.m % 8000 := Int.tmod_eq_emod_of_nonneg b7.1
    repeat' (first | refine w1g ?_ | refine w1l ?_ | refine w1q ?_ | refine w1b ?_ | refine w1p ?_ | ((first | refine w1r ?_ | refine w1k ?_ | refine w1e ?_); simp (maxSteps := 400000) (disch := omega) only [push_cast, ↓reduceIte, reduceCtorEq, Nat.reduceAdd, Nat.reduceSub, Nat.reduceEqDiff, Nat.reduceLeDiff, Nat.reduceLT, Nat.reduceBEq, Nat.reduceDiv, Nat.reduceMod, Nat.reducePow, Nat.reduceMul, Int.reduceToNat, Int.reduceLT, Int.reduceLE, hq, em]) | refine an2 ?_ | fail)
    refine ⟨rfl, trivial, Pce, dPc, cPc, [pOf b], rfl, by omega, fun x _ => ⟨rfl, rfl⟩, rfl, ?_⟩
    (refine sy1 ?_; try exact True.intro)
    refine ⟨rfl, ⟨Nat.le_of_ble_eq_true rfl, rfl⟩, trivial, [pOf b], rfl, by simp; omega, by simp; omega, ?_⟩
    (refine sy1 ?_; try exact True.intro)
    repeat' (first | refine w1g ?_ | refine w1l ?_ | refine w1q ?_ | refine w1b ?_ | refine w1p ?_ | ((first | refine w1r ?_ | refine w1k ?_ | refine w1e ?_); (refine sy1 ?_; try exact True.intro)) | refine an2 ?_ | fail)
    refine ⟨i + 1, ⟨by omega, by omega⟩, by omega, by rfl, ?_⟩
    rw [ht, List.map_append]
    (refine syE ?_; try exact True.intro)
  · rw [Bool.and_eq_false_iff, decide_eq_false_iff_not, decide_eq_false_iff_not] at h5
    have e : l.take i = l.take 4 := by
      rcases (show i = 4 ∨ i = l.length by omega) with rfl | rfl
      · rfl
      · rw [List.take_length, List.take_of_length_le (by omega)]
    rw [e]
    repeat' (first | refine w1g ?_ | refine w1l ?_ | refine w1q ?_ | refine w1b ?_ | refine w1p ?_ | ((first | refine w1r ?_ | refine w1k ?_ | refine w1e ?_); (refine sy1 ?_; try exact True.intro)) | refine an2 ?_ | fail)
    refine W_ret ⟨[_], ⟨⟨by simp, rfl⟩, rfl⟩, ?_⟩
    simp (maxSteps := 400000) (disch := omega) only [push_cast, ↓reduceIte, reduceCtorEq, Nat.reduceAdd, Nat.reduceSub, Nat.reduceEqDiff, Nat.reduceLeDiff, Nat.reduceLT, Nat.reduceBEq, Nat.reduceDiv, Nat.reduceMod, Nat.reducePow, Nat.reduceMul, Int.reduceToNat, Int.reduceLT, Int.reduceLE, pack]
    rfl
def axL0 : List Axl := [⟨0, 8000, 2⟩, ⟨3000, 12000, 4⟩]
def axL1 : List Axl := [⟨5000, 12000, 8⟩, ⟨6000, 12000, 8⟩, ⟨7000, 12000, 8⟩]
def unL0 : Unt := ⟨0, 3000, 0, 1000, 500, 1200, 2500, 9000, 0, 0, axL0⟩
def unL1 : Unt := ⟨2, 6000, 0, 500, 1500, 1250, 1200, 7000, 0, 0, axL1⟩
theorem fn5 : Sy.Fn Try.prog 5 [] (.agg (cV (car 1))) := by
  refine Fn_of_W mixed Xt5 rfl ?_
  repeat (first | refine WK_go ?_ | refine W_seqL ?_ | refine W_seq ?_ | refine W_block ?_)
  refine W_regL ?_
  (refine sy1 ?_; try exact True.intro)
  repeat (first | refine WK_go ?_ | refine W_seqL ?_ | refine W_seq ?_ | refine W_block ?_)
  refine W_regP [3, 5] (by decide) ?_
  simp (maxSteps := 400000) (disch := omega) only [push_cast, ↓reduceIte, reduceCtorEq, Nat.reduceAdd, Nat.reduceSub, Nat.reduceEqDiff, Nat.reduceLeDiff, Nat.reduceLT, Nat.reduceBEq, Nat.reduceDiv, Nat.reduceMod, Nat.reducePow, Nat.reduceMul, Int.reduceToNat, Int.reduceLT, Int.reduceLE, chainP, List.take_succ_cons, List.take_zero, List.drop_succ_cons, List.drop_zero]
  refine ⟨rfl, trivial, Axl, dA, cA, axL0, rfl, by omega, fun x _ => ⟨rfl, rfl⟩, rfl, ?_⟩
  refine ⟨_, le_frzR 3 [0] [0] 20 3 0 47 3 dA cA axL0 rfl rfl rfl rfl, ?_⟩
  simp (maxSteps := 400000) (disch := omega) only [push_cast, ↓reduceIte, reduceCtorEq, Nat.reduceAdd, Nat.reduceSub, Nat.reduceEqDiff, Nat.reduceLeDiff, Nat.reduceLT, Nat.reduceBEq, Nat.reduceDiv, Nat.reduceMod, Nat.reducePow, Nat.reduceMul, Int.reduceToNat, Int.reduceLT, Int.reduceLE, chainP, List.take_succ_cons, List.take_zero, List.drop_succ_cons, List.drop_zero]
  refine ⟨rfl, trivial, Axl, dA, cA, axL1, rfl, by omega, fun x _ => ⟨rfl, rfl⟩, rfl, ?_⟩
  refine ⟨_, le_frzR 8 [0, 4] [0] 30 24 0 47 3 dA cA axL1 rfl rfl rfl rfl, ?_⟩
  simp (maxSteps := 400000) (disch := omega) only [push_cast, ↓reduceIte, reduceCtorEq, Nat.reduceAdd, Nat.reduceSub, Nat.reduceEqDiff, Nat.reduceLeDiff, Nat.reduceLT, Nat.reduceBEq, Nat.reduceDiv, Nat.reduceMod, Nat.reducePow, Nat.reduceMul, Int.reduceToNat, Int.reduceLT, Int.reduceLE, chainP, List.take_succ_cons, List.take_zero, List.drop_succ_cons, List.drop_zero]
  refine ⟨rfl, trivial, Unt, dU, cU, [unL0, unL1], rfl, by omega, fun x _ => ⟨rfl, rfl⟩, rfl, ?_⟩
  simp (maxSteps := 400000) (disch := omega) only [push_cast, ↓reduceIte, reduceCtorEq, Nat.reduceAdd, Nat.reduceSub, Nat.reduceEqDiff, Nat.reduceLeDiff, Nat.reduceLT, Nat.reduceBEq, Nat.reduceDiv, Nat.reduceMod, Nat.reducePow, Nat.reduceMul, Int.reduceToNat, Int.reduceLT, Int.reduceLE, chainP, List.take_succ_cons, List.take_zero, List.drop_succ_cons, List.drop_zero]
  refine W_ret ⟨[_], ⟨⟨by simp, rfl⟩, rfl⟩, ?_⟩
  simp (maxSteps := 400000) (disch := omega) only [push_cast, ↓reduceIte, reduceCtorEq, Nat.reduceAdd, Nat.reduceSub, Nat.reduceEqDiff, Nat.reduceLeDiff, Nat.reduceLT, Nat.reduceBEq, Nat.reduceDiv, Nat.reduceMod, Nat.reducePow, Nat.reduceMul, Int.reduceToNat, Int.reduceLT, Int.reduceLE, pack]
  rfl
end Go.Proofs.Ytlegpipcmnnaoaa

namespace Go.Proofs.Ytlegpipcmnnaoaa
open Go Sy
set_option maxRecDepth 100000
set_option linter.unusedVariables false
theorem u8_wf {n : Int} (h : (Lit.int .u8 n).wf = true) : 0 ≤ n ∧ n ≤ 255 := by
  simp [Lit.wf, IntKind.min, IntKind.max, IntKind.bits, IntKind.signed] at h
  omega
theorem u16_wf {n : Int} (h : (Lit.int .u16 n).wf = true) : 0 ≤ n ∧ n ≤ 65535 := by
  simp [Lit.wf, IntKind.min, IntKind.max, IntKind.bits, IntKind.signed] at h
  omega
theorem y5 : Try.prog.cellsOf 5 = 1 := by kernel_rfl
theorem y23 : Try.prog.cellsOf 23 = 1 := by kernel_rfl
theorem y54 : Try.prog.cellsOf 54 = 7 := by kernel_rfl
theorem b54 : Try.prog.bytesOf 54 = 8 := by kernel_rfl
theorem k5 : Codec Try.prog 5 (fun n : Int => [.v (.int .u8 n)]) (fun n => 0 ≤ n ∧ n ≤ 255) := (Codec.int Try.underlying5).map id (fun _ => rfl) (fun _ h => u8_wf h)
theorem k23 : Codec Try.prog 23 (fun n : Int => [.v (.int .u16 n)]) (fun n => 0 ≤ n ∧ n ≤ 65535) := (Codec.int Try.underlying23).map id (fun _ => rfl) (fun _ h => u16_wf h)
theorem k54 : Codec Try.prog 54 cBx OBx :=
  (Codec.struct Try.underlying54 (by kernel_rfl) (by kernel_rfl) (Parts.cons k5 y5 (Parts.cons k5 y5 (Parts.cons k5 y5 (Parts.cons k5 y5 (Parts.cons k5 y5 (Parts.cons k5 y5 (Parts.cons k23 y23 Parts.nil)))))))).map
    (fun x => ⟨x.1, x.2.1, x.2.2.1, x.2.2.2.1, x.2.2.2.2.1, x.2.2.2.2.2.1, x.2.2.2.2.2.2.1⟩) (fun _ => rfl) (fun _ h => ⟨h.1, h.2.1, h.2.2.1, h.2.2.2.1, h.2.2.2.2.1, h.2.2.2.2.2.1, h.2.2.2.2.2.2.1⟩)
theorem k22 : Codec Try.prog 22 (fun l : List Bx => [aBx l]) (fun l => l.length * 8 ≤ 140737488351232 ∧ ∀ b ∈ l, OBx b) :=
  (Codec.slice Try.underlying22 (by rw [y54]; decide) y54 b54 dBx k54).map id (fun _ => rfl) (fun _ h => ⟨h.1, h.2.2⟩)
end Go.Proofs.Ytlegpipcmnnaoaa

namespace Go.Proofs.Ytlegpipcmnnaoaa
open Go Sy
set_option linter.unusedVariables false
theorem k4 : Codec Try.prog 4 (fun b : Bool => [bv b]) (fun _ => True) := Codec.bool Try.underlying4
end Go.Proofs.Ytlegpipcmnnaoaa

namespace Go.Proofs.Ytlegpipcmnnaoaa
open Go Sy
set_option maxRecDepth 100000
set_option maxHeartbeats 4000000
set_option linter.unusedVariables false
set_option linter.unusedSimpArgs false
def cmp3 (x y : Int) : Int := if x < y then -1 else if y < x then 1 else 0
theorem fn92 (x : Int) : Sy.Fn Try.prog 92 [iv x] (bv false) := by
  refine Fn_of_W mixed Xt92 rfl ?_
  repeat' (first | refine w1g ?_ | refine w1l ?_ | refine w1q ?_ | refine w1b ?_ | refine w1p ?_ | ((first | refine w1r ?_ | refine w1k ?_ | refine w1e ?_); (refine sy1 ?_; try exact True.intro)) | refine an2 ?_ | fail)
  exact W_ret ⟨[_], ⟨rfl, rfl⟩, by simp; rfl⟩
theorem fn74 (x y : Int) : Sy.Fn Try.prog 74 [iv x, iv y] (iv (cmp3 x y)) := by
  refine Fn_of_W mixed Xt74 rfl ?_
  repeat' (first | refine w1g ?_ | refine w1l ?_ | refine w1q ?_ | refine w1b ?_ | refine w1p ?_ | ((first | refine w1r ?_ | refine w1k ?_ | refine w1e ?_ | refine CallC.now (fn92 _) ?_); (refine sy1 ?_; try exact True.intro)) | refine an2 ?_ | fail)
  refine W_cond (by rfl) (fun h => by cases h) (fun _ => ?_)
  repeat' (first | refine w1g ?_ | refine w1l ?_ | refine w1q ?_ | refine w1b ?_ | refine w1p ?_ | ((first | refine w1r ?_ | refine w1k ?_ | refine w1e ?_); (refine sy1 ?_; try exact True.intro)) | refine an2 ?_ | fail)
  refine W_cond (by rfl) (fun h => by cases h) (fun _ => ?_)
  unfold cmp3
  repeat' (first | refine w1g ?_ | refine w1l ?_ | refine w1q ?_ | refine w1b ?_ | refine w1p ?_ | ((first | refine w1r ?_ | refine w1k ?_ | refine w1e ?_); (refine sy1 ?_; try exact True.intro)) | refine an2 ?_ | fail)
  refine W_condD (by rfl) (fun h => ?_) (fun h => ?_)
  · rw [if_pos h]
    repeat' (first | refine w1g ?_ | refine w1l ?_ | refine w1q ?_ | refine w1b ?_ | refine w1p ?_ | ((first | refine w1r ?_ | refine w1k ?_ | refine w1e ?_); (refine sy1 ?_; try exact True.intro)) | refine an2 ?_ | fail)
    exact W_ret ⟨[_], ⟨rfl, rfl⟩, rfl⟩
  rw [if_neg h]
  repeat' (first | refine w1g ?_ | refine w1l ?_ | refine w1q ?_ | refine w1b ?_ | refine w1p ?_ | ((first | refine w1r ?_ | refine w1k ?_ | refine w1e ?_); (refine sy1 ?_; try exact True.intro)) | refine an2 ?_ | fail)
  refine W_condD (by rfl) (fun h => ?_) (fun h => ?_)
  · rw [if_pos h]
    repeat' (first | refine w1g ?_ | refine w1l ?_ | refine w1q ?_ | refine w1b ?_ | refine w1p ?_ | ((first | refine w1r ?_ | refine w1k ?_ | refine w1e ?_); (refine sy1 ?_; try exact True.intro)) | refine an2 ?_ | fail)
    exact W_ret ⟨[_], ⟨rfl, rfl⟩, rfl⟩
  rw [if_neg h]
  repeat' (first | refine w1g ?_ | refine w1l ?_ | refine w1q ?_ | refine w1b ?_ | refine w1p ?_ | ((first | refine w1r ?_ | refine w1k ?_ | refine w1e ?_); (refine sy1 ?_; try exact True.intro)) | refine an2 ?_ | fail)
  exact W_ret ⟨[_], ⟨rfl, rfl⟩, rfl⟩
def cmpP (a b : Pt) : Int := if a.x = b.x then cmp3 a.y b.y else cmp3 a.x b.x
theorem fn57 (a b : Pt) : Sy.Fn Try.prog 57 [.agg (cPt a), .agg (cPt b)] (iv (cmpP a b)) := by
  refine Fn_of_W mixed Xt57 rfl ?_
  unfold cmpP
  repeat' (first | refine w1g ?_ | refine w1l ?_ | refine w1q ?_ | refine w1b ?_ | refine w1p ?_ | ((first | refine w1r ?_ | refine w1k ?_ | refine w1e ?_); (refine sy1 ?_; try exact True.intro)) | refine an2 ?_ | fail)
  refine W_cond (by rfl) (fun h => ?_) (fun h => ?_)
  · rw [if_neg (by simpa using h)]
    repeat' (first | refine w1g ?_ | refine w1l ?_ | refine w1q ?_ | refine w1b ?_ | refine w1p ?_ | ((first | refine w1r ?_ | refine w1k ?_ | refine w1e ?_ | refine CallC.now (fn74 _ _) ?_); (refine sy1 ?_; try exact True.intro)) | refine an2 ?_ | fail)
    exact W_ret ⟨[_], ⟨rfl, rfl⟩, rfl⟩
  · rw [if_pos (by simpa using h)]
    repeat' (first | refine w1g ?_ | refine w1l ?_ | refine w1q ?_ | refine w1b ?_ | refine w1p ?_ | ((first | refine w1r ?_ | refine w1k ?_ | refine w1e ?_ | refine CallC.now (fn74 _ _) ?_); (refine sy1 ?_; try exact True.intro)) | refine an2 ?_ | fail)
    exact W_ret ⟨[_], ⟨rfl, rfl⟩, rfl⟩
def crs (a b c : Pt) : Int := (b.x - a.x) * (c.y - a.y) - (b.y - a.y) * (c.x - a.x)
theorem fn60 (a b c : Pt) (ha : okQ a = true) (hb : okQ b = true) (hc : okQ c = true) : Sy.Fn Try.prog 60 [.agg (cPt a), .agg (cPt b), .agg (cPt c)] (iv (crs a b c)) := by
  refine Fn_of_W mixed Xt60 rfl ?_
  have h1 := okQ_iff.1 ha
  have h2 := okQ_iff.1 hb
  have h3 := okQ_iff.1 hc
  have m1 := abs_mul (show -33554432 ≤ b.x - a.x ∧ b.x - a.x ≤ 33554432 by omega) (show -33554432 ≤ c.y - a.y ∧ c.y - a.y ≤ 33554432 by omega)
  have m2 := abs_mul (show -33554432 ≤ b.y - a.y ∧ b.y - a.y ≤ 33554432 by omega) (show -33554432 ≤ c.x - a.x ∧ c.x - a.x ≤ 33554432 by omega)
  unfold crs
  repeat' (first | refine w1g ?_ | refine w1l ?_ | refine w1q ?_ | refine w1b ?_ | refine w1p ?_ | ((first | refine w1r ?_ | refine w1k ?_ | refine w1e ?_); (refine sy1 ?_; try exact True.intro)) | refine an2 ?_ | fail)
  exact W_ret ⟨[_], ⟨rfl, rfl⟩, rfl⟩
theorem fn59 (a b c : Pt) (ha : okQ a = true) (hb : okQ b = true) (hc : okQ c = true) : Sy.Fn Try.prog 59 [.agg (cPt a), .agg (cPt b), .agg (cPt c)] (bv (decide (crs a b c ≤ 0))) := by
  refine Fn_of_W mixed Xt59 rfl ?_
  repeat' (first | refine w1g ?_ | refine w1l ?_ | refine w1q ?_ | refine w1b ?_ | refine w1p ?_ | ((first | refine w1r ?_ | refine w1k ?_ | refine w1e ?_ | refine CallC.now (fn60 a b c ha hb hc) ?_); (refine sy1 ?_; try exact True.intro)) | refine an2 ?_ | fail)
  exact W_ret ⟨[_], ⟨rfl, rfl⟩, rfl⟩
theorem fn73 (x : Int) (h : 0 ≤ x ∧ x < 18446744073709551616) : ∃ n : Nat, n ≤ 64 ∧ Sy.Fn Try.prog 73 [uw x] (iv n) := by
  obtain ⟨n, h1, _, h2⟩ := fn91 x h.1 h.2
  refine ⟨n, h1, ?_⟩
  refine Fn_of_W mixed Xt73 rfl ?_
  repeat' (first | refine w1g ?_ | refine w1l ?_ | refine w1q ?_ | refine w1b ?_ | refine w1p ?_ | ((first | refine w1r ?_ | refine w1k ?_ | refine w1e ?_); (refine sy1 ?_; try exact True.intro)) | refine an2 ?_ | fail)
  refine W_cond (by rfl) (fun h => by cases h) (fun _ => ?_)
  repeat' (first | refine w1g ?_ | refine w1l ?_ | refine w1q ?_ | refine w1b ?_ | refine w1p ?_ | ((first | refine w1r ?_ | refine w1k ?_ | refine w1e ?_ | refine CallC.now (h2) ?_); (refine sy1 ?_; try exact True.intro)) | refine an2 ?_ | fail)
  exact W_ret ⟨[_], ⟨rfl, rfl⟩, rfl⟩
abbrev cQ1 (l : List Pt) : List AV := [aQ l]
theorem fn39 (ll : List (List Pt)) (hl : ll.length ≤ 1000000) (h : ∀ i, i < ll.length → (ll.getD i []).length ≤ 256 ∧ (ll.getD i []).all okQ = true) : Sy.Fn Try.prog 39 [.sl 1 [] cQ1 ll] (iv 0) := by
  refine Fn_of_W mixed Xt39 rfl ?_
  repeat' (first | refine w1g ?_ | refine w1l ?_ | refine w1q ?_ | refine w1b ?_ | refine w1p ?_ | ((first | refine w1r ?_ | refine w1k ?_ | refine w1e ?_); (refine sy1 ?_; try exact True.intro)) | refine an2 ?_ | fail)
  refine W_loopU (fun i : Nat => [(9, iv i)]) (fun i => []) (fun i => i ≤ ll.length) (fun i => ll.length - i) 0 (by omega) (by rfl) (by rfl) (fun i hi => ?_)
  (refine sy1 ?_; try exact True.intro)
  repeat' (first | refine w1g ?_ | refine w1l ?_ | refine w1q ?_ | refine w1b ?_ | refine w1p ?_ | ((first | refine w1r ?_ | refine w1k ?_ | refine w1e ?_); (refine sy1 ?_; try exact True.intro)) | refine an2 ?_ | fail)
  refine W_condD (by rfl) (fun h5 => ?_) (fun h5 => ?_)
  · obtain ⟨h1, _⟩ := h i (by omega)
    obtain ⟨l, hq⟩ : ∃ l, ll.getD i [] = l := ⟨_, rfl⟩
    rw [hq] at h1
    repeat' (first | refine w1g ?_ | refine w1l ?_ | refine w1q ?_ | refine w1b ?_ | refine w1p ?_ | ((first | refine w1r ?_ | refine w1k ?_ | refine w1e ?_); simp (maxSteps := 400000) (disch := omega) only [push_cast, ↓reduceIte, reduceCtorEq, Nat.reduceAdd, Nat.reduceSub, Nat.reduceEqDiff, Nat.reduceLeDiff, Nat.reduceLT, Nat.reduceBEq, Nat.reduceDiv, Nat.reduceMod, Nat.reducePow, Nat.reduceMul, Int.reduceToNat, Int.reduceLT, Int.reduceLE, hq]) | refine an2 ?_ | fail)
    refine W_condD (by rfl) (fun h6 => absurd h6 (by omega)) (fun h6 => ?_)
    repeat' (first | refine w1g ?_ | refine w1l ?_ | refine w1q ?_ | refine w1b ?_ | refine w1p ?_ | ((first | refine w1r ?_ | refine w1k ?_ | refine w1e ?_); (refine sy1 ?_; try exact True.intro)) | refine an2 ?_ | fail)
    refine ⟨i + 1, by omega, by omega, by rfl, ?_⟩
    (refine syE ?_; try exact True.intro)
  repeat' (first | refine w1g ?_ | refine w1l ?_ | refine w1q ?_ | refine w1b ?_ | refine w1p ?_ | ((first | refine w1r ?_ | refine w1k ?_ | refine w1e ?_); (refine sy1 ?_; try exact True.intro)) | refine an2 ?_ | fail)
  refine W_loopU (fun i : Nat => [(19, iv i)]) (fun i => []) (fun i => i ≤ ll.length) (fun i => ll.length - i) 0 (by omega) (by rfl) (by rfl) (fun i hi => ?_)
  (refine sy1 ?_; try exact True.intro)
  repeat' (first | refine w1g ?_ | refine w1l ?_ | refine w1q ?_ | refine w1b ?_ | refine w1p ?_ | ((first | refine w1r ?_ | refine w1k ?_ | refine w1e ?_); (refine sy1 ?_; try exact True.intro)) | refine an2 ?_ | fail)
  refine W_condD (by rfl) (fun h6 => ?_) (fun h6 => ?_)
  · obtain ⟨h1, h2⟩ := h i (by omega)
    obtain ⟨l, hq⟩ : ∃ l, ll.getD i [] = l := ⟨_, rfl⟩
    rw [hq] at h1 h2
    have c49 := fn49 l (by omega)
    rw [h2] at c49
    repeat' (first | refine w1g ?_ | refine w1l ?_ | refine w1q ?_ | refine w1b ?_ | refine w1p ?_ | ((first | refine w1r ?_ | refine w1k ?_ | refine w1e ?_ | refine CallC.now (c49) ?_); simp (maxSteps := 400000) (disch := omega) only [push_cast, ↓reduceIte, reduceCtorEq, Nat.reduceAdd, Nat.reduceSub, Nat.reduceEqDiff, Nat.reduceLeDiff, Nat.reduceLT, Nat.reduceBEq, Nat.reduceDiv, Nat.reduceMod, Nat.reducePow, Nat.reduceMul, Int.reduceToNat, Int.reduceLT, Int.reduceLE, hq]) | refine an2 ?_ | fail)
    refine W_cond (by rfl) (fun h => by cases h) (fun _ => ?_)
    repeat' (first | refine w1g ?_ | refine w1l ?_ | refine w1q ?_ | refine w1b ?_ | refine w1p ?_ | ((first | refine w1r ?_ | refine w1k ?_ | refine w1e ?_); (refine sy1 ?_; try exact True.intro)) | refine an2 ?_ | fail)
    refine ⟨i + 1, by omega, by omega, by rfl, ?_⟩
    (refine syE ?_; try exact True.intro)
  repeat' (first | refine w1g ?_ | refine w1l ?_ | refine w1q ?_ | refine w1b ?_ | refine w1p ?_ | ((first | refine w1r ?_ | refine w1k ?_ | refine w1e ?_); (refine sy1 ?_; try exact True.intro)) | refine an2 ?_ | fail)
  exact W_ret ⟨[_], ⟨rfl, rfl⟩, rfl⟩
end Go.Proofs.Ytlegpipcmnnaoaa

namespace Go.Proofs.Ytlegpipcmnnaoaa
open Go Sy
set_option maxRecDepth 100000
set_option maxHeartbeats 8000000
set_option linter.unusedVariables false
set_option linter.unusedSimpArgs false
structure Line (a b c : Pt) : Prop where
  qa : okQ a = true
  qb : okQ b = true
  qc : okQ c = true
  s1 : cmpP c a = 1
  s2 : cmpP b c = -1
  s3 : cmpP b a = 1
  n1 : (b.x == a.x && b.y == a.y) = false
  n2 : (c.x == b.x && c.y == b.y) = false
  x1 : crs a b c = 0
  x2 : crs c b a = 0
def ot (x y z : Pt) : Nat → List Pt
  | 0 => []
  | 1 => [x]
  | 2 => [x, y]
  | _ => [x, z]
def po (x y : Pt) : Nat → List Pt
  | 0 => [x, y]
  | _ => [x]
def os : Nat → Nat
  | 0 => 0
  | 1 => 1
  | 2 => 2
  | _ => 4
theorem fn61 (x y z : Pt) (qx : okQ x = true) (qy : okQ y = true) (qz : okQ z = true) (hc : crs x y z = 0) (s : List Pt) (hs : s = [x, y, z]) : FnO Try.prog 61 [.clo 75 [] [.fp [aQ s] 0], .clo 59 [] []] 59 2 dQ cPt [x, z] := by
  refine FnO_of_W mixed Xt61 rfl (fun x _ => rfl) ?_
  have ls : s.length = 3 := by rw [hs]; rfl
  have s0 : s.getD 0 dQ = x := by rw [hs]; rfl
  have s1 : s.getD 1 dQ = y := by rw [hs]; rfl
  have s2 : s.getD 2 dQ = z := by rw [hs]; rfl
  have d1 := fn59 x y z qx qy qz
  rw [hc] at d1
  repeat' (first | refine w1g ?_ | refine w1l ?_ | refine w1q ?_ | refine w1b ?_ | refine w1p ?_ | ((first | refine w1r ?_ | refine w1k ?_ | refine w1e ?_); (refine sy1 ?_; try exact True.intro)) | refine an2 ?_ | fail)
  refine W_rfn (.inl rfl) (fun lp R hR => Inl_of_W mixed Xt75 rfl (fun vs => ?_))
  (refine sy1 ?_; try exact True.intro)
  repeat' (first | refine w1g ?_ | refine w1l ?_ | refine w1q ?_ | refine w1b ?_ | refine w1p ?_ | ((first | refine w1r ?_ | refine w1k ?_ | refine w1e ?_); (refine sy1 ?_; try exact True.intro)) | refine an2 ?_ | fail)
  refine W_le (le_adoptC 2 0 59 2 dQ cPt (by omega) _ rfl rfl (by simp)) ?_
  (refine sy1 ?_; try exact True.intro)
  refine W_loopU (fun i : Nat => [(7, iv i)]) (fun i => [(2, .cells [.row 9 (os i)]), (9, .row (os i) 59 2 dQ cPt (ot x y z i))]) (fun i => i ≤ 3) (fun i => 3 - i) 0 (by omega) (by rfl) (by rfl) (fun i hi => ?_)
  (refine sy1 ?_; try exact True.intro)
  repeat' (first | refine w1g ?_ | refine w1l ?_ | refine w1q ?_ | refine w1b ?_ | refine w1p ?_ | ((first | refine w1r ?_ | refine w1k ?_ | refine w1e ?_); simp (maxSteps := 400000) (disch := omega) only [push_cast, ↓reduceIte, reduceCtorEq, Nat.reduceAdd, Nat.reduceSub, Nat.reduceEqDiff, Nat.reduceLeDiff, Nat.reduceLT, Nat.reduceBEq, Nat.reduceDiv, Nat.reduceMod, Nat.reducePow, Nat.reduceMul, Int.reduceToNat, Int.reduceLT, Int.reduceLE, ls]) | refine an2 ?_ | fail)
  refine W_condD (by rfl) (fun h5 => ?_) (fun h5 => ?_)
  · obtain rfl | rfl | rfl : i = 0 ∨ i = 1 ∨ i = 2 := by omega
    · rw [show ot x y z 0 = [] from rfl, show os 0 = 0 from rfl]
      repeat' (first | refine w1g ?_ | refine w1l ?_ | refine w1q ?_ | refine w1b ?_ | refine w1p ?_ | ((first | refine w1r ?_ | refine w1k ?_ | refine w1e ?_); simp (maxSteps := 400000) (disch := omega) only [push_cast, ↓reduceIte, reduceCtorEq, Nat.reduceAdd, Nat.reduceSub, Nat.reduceEqDiff, Nat.reduceLeDiff, Nat.reduceLT, Nat.reduceBEq, Nat.reduceDiv, Nat.reduceMod, Nat.reducePow, Nat.reduceMul, Int.reduceToNat, Int.reduceLT, Int.reduceLE, s0, ls]) | refine an2 ?_ | fail)
      refine StopC.yld (fun hpc => ⟨trivial, Yl_of_W (k := 4) mixed hR rfl rfl rfl (fun vs2 => ?_)⟩) (fun hpc => absurd (by simp [Sy.pc]) hpc)
      (refine sy1 ?_; try exact True.intro)
      repeat' (first | refine w1g ?_ | refine w1l ?_ | refine w1q ?_ | refine w1b ?_ | refine w1p ?_ | ((first | refine w1r ?_ | refine w1k ?_ | refine w1e ?_); (refine sy1 ?_; try exact True.intro)) | refine an2 ?_ | fail)
      refine ⟨_, rfl, ?_⟩
      (refine sy1 ?_; try exact True.intro)
      repeat' (first | refine w1g ?_ | refine w1l ?_ | refine w1q ?_ | refine w1b ?_ | refine w1p ?_ | ((first | refine w1r ?_ | refine w1k ?_ | refine w1e ?_); (refine sy1 ?_; try exact True.intro)) | refine an2 ?_ | fail)
      refine W_loopU (fun k : Nat => []) (fun k => []) (fun k => k = 0) (fun k => 1) 0 rfl (by rfl) (by rfl) (fun k hk => ?_)
      (refine sy1 ?_; try exact True.intro)
      repeat' (first | refine w1g ?_ | refine w1l ?_ | refine w1q ?_ | refine w1b ?_ | refine w1p ?_ | ((first | refine w1r ?_ | refine w1k ?_ | refine w1e ?_); (refine sy1 ?_; try exact True.intro)) | refine an2 ?_ | ((refine CallC.go (bv false) (fun hpc => absurd hpc (by simp [Sy.pc])) rfl ?_; (refine sy1 ?_; try exact True.intro))) | fail)
      refine ⟨fun h => absurd h (by decide), fun h => absurd h (by decide), fun h => absurd h (by decide), fun h => absurd h (by decide), ?_⟩
      refine CallC.go (bv false) (fun hpc => absurd hpc (by simp [Sy.pc])) rfl ?_
      (refine sy1 ?_; try exact True.intro)
      repeat' (first | refine w1g ?_ | refine w1l ?_ | refine w1q ?_ | refine w1b ?_ | refine w1p ?_ | ((first | refine w1r ?_ | refine w1k ?_ | refine w1e ?_); (refine sy1 ?_; try exact True.intro)) | refine an2 ?_ | fail)
      refine W_cond (by rfl) (fun h => absurd h (by decide)) (fun _ => ?_)
      repeat' (first | refine w1g ?_ | refine w1l ?_ | refine w1q ?_ | refine w1b ?_ | refine w1p ?_ | ((first | refine w1r ?_ | refine w1k ?_ | refine w1e ?_); (refine sy1 ?_; try exact True.intro)) | refine an2 ?_ | fail)
      refine ⟨rfl, trivial, Pt, dQ, cPt, [x], rfl, by omega, fun x _ => ⟨rfl, rfl⟩, rfl, ?_⟩
      (refine sy1 ?_; try exact True.intro)
      refine ⟨rfl, ⟨Nat.le_of_ble_eq_true rfl, rfl⟩, trivial, [x], rfl, by first | omega | (simp; done) | (simp; omega), by first | omega | (simp; done) | (simp; omega), ?_⟩
      (refine sy1 ?_; try exact True.intro)
      refine ⟨_, _, rfl, rfl, ?_⟩
      (refine sy1 ?_; try exact True.intro)
      refine W_cond (by rfl) (fun h => by cases h) (fun _ => ?_)
      repeat' (first | refine w1g ?_ | refine w1l ?_ | refine w1q ?_ | refine w1b ?_ | refine w1p ?_ | ((first | refine w1r ?_ | refine w1k ?_ | refine w1e ?_); (refine sy1 ?_; try exact True.intro)) | refine an2 ?_ | fail)
      refine ⟨1, by omega, by omega, by rfl, ?_⟩
      (refine syE ?_; try exact True.intro)
      exact ⟨rfl, rfl⟩
    · rw [show ((1 : Nat) : Int) = 1 from rfl, show ot x y z 1 = [x] from rfl, show os 1 = 1 from rfl]
      repeat' (first | refine w1g ?_ | refine w1l ?_ | refine w1q ?_ | refine w1b ?_ | refine w1p ?_ | ((first | refine w1r ?_ | refine w1k ?_ | refine w1e ?_); simp (maxSteps := 400000) (disch := omega) only [push_cast, ↓reduceIte, reduceCtorEq, Nat.reduceAdd, Nat.reduceSub, Nat.reduceEqDiff, Nat.reduceLeDiff, Nat.reduceLT, Nat.reduceBEq, Nat.reduceDiv, Nat.reduceMod, Nat.reducePow, Nat.reduceMul, Int.reduceToNat, Int.reduceLT, Int.reduceLE, s1, ls]) | refine an2 ?_ | fail)
      refine StopC.yld (fun hpc => ⟨trivial, Yl_of_W (k := 4) mixed hR rfl rfl rfl (fun vs2 => ?_)⟩) (fun hpc => absurd (by simp [Sy.pc]) hpc)
      (refine sy1 ?_; try exact True.intro)
      repeat' (first | refine w1g ?_ | refine w1l ?_ | refine w1q ?_ | refine w1b ?_ | refine w1p ?_ | ((first | refine w1r ?_ | refine w1k ?_ | refine w1e ?_); (refine sy1 ?_; try exact True.intro)) | refine an2 ?_ | fail)
      refine ⟨_, rfl, ?_⟩
      (refine sy1 ?_; try exact True.intro)
      repeat' (first | refine w1g ?_ | refine w1l ?_ | refine w1q ?_ | refine w1b ?_ | refine w1p ?_ | ((first | refine w1r ?_ | refine w1k ?_ | refine w1e ?_); (refine sy1 ?_; try exact True.intro)) | refine an2 ?_ | fail)
      refine W_loopU (fun k : Nat => []) (fun k => []) (fun k => k = 0) (fun k => 1) 0 rfl (by rfl) (by rfl) (fun k hk => ?_)
      (refine sy1 ?_; try exact True.intro)
      repeat' (first | refine w1g ?_ | refine w1l ?_ | refine w1q ?_ | refine w1b ?_ | refine w1p ?_ | ((first | refine w1r ?_ | refine w1k ?_ | refine w1e ?_); (refine sy1 ?_; try exact True.intro)) | refine an2 ?_ | ((refine CallC.go (bv false) (fun hpc => absurd hpc (by simp [Sy.pc])) rfl ?_; (refine sy1 ?_; try exact True.intro))) | fail)
      refine W_cond (by rfl) (fun h => absurd h (by decide)) (fun _ => ?_)
      repeat' (first | refine w1g ?_ | refine w1l ?_ | refine w1q ?_ | refine w1b ?_ | refine w1p ?_ | ((first | refine w1r ?_ | refine w1k ?_ | refine w1e ?_); (refine sy1 ?_; try exact True.intro)) | refine an2 ?_ | fail)
      refine ⟨rfl, trivial, Pt, dQ, cPt, [y], rfl, by omega, fun x _ => ⟨rfl, rfl⟩, rfl, ?_⟩
      (refine sy1 ?_; try exact True.intro)
      refine ⟨rfl, ⟨Nat.le_of_ble_eq_true rfl, rfl⟩, trivial, [y], rfl, by first | omega | (simp; done) | (simp; omega), by first | omega | (simp; done) | (simp; omega), ?_⟩
      (refine sy1 ?_; try exact True.intro)
      refine ⟨_, _, rfl, rfl, ?_⟩
      (refine sy1 ?_; try exact True.intro)
      refine W_cond (by rfl) (fun h => by cases h) (fun _ => ?_)
      repeat' (first | refine w1g ?_ | refine w1l ?_ | refine w1q ?_ | refine w1b ?_ | refine w1p ?_ | ((first | refine w1r ?_ | refine w1k ?_ | refine w1e ?_); (refine sy1 ?_; try exact True.intro)) | refine an2 ?_ | fail)
      refine ⟨2, by omega, by omega, by rfl, ?_⟩
      (refine syE ?_; try exact True.intro)
      exact ⟨rfl, rfl, rfl⟩
    · rw [show ((2 : Nat) : Int) = 2 from rfl, show ot x y z 2 = [x, y] from rfl, show os 2 = 2 from rfl]
      repeat' (first | refine w1g ?_ | refine w1l ?_ | refine w1q ?_ | refine w1b ?_ | refine w1p ?_ | ((first | refine w1r ?_ | refine w1k ?_ | refine w1e ?_); simp (maxSteps := 400000) (disch := omega) only [push_cast, ↓reduceIte, reduceCtorEq, Nat.reduceAdd, Nat.reduceSub, Nat.reduceEqDiff, Nat.reduceLeDiff, Nat.reduceLT, Nat.reduceBEq, Nat.reduceDiv, Nat.reduceMod, Nat.reducePow, Nat.reduceMul, Int.reduceToNat, Int.reduceLT, Int.reduceLE, s2, ls]) | refine an2 ?_ | fail)
      refine StopC.yld (fun hpc => ⟨trivial, Yl_of_W (k := 4) mixed hR rfl rfl rfl (fun vs2 => ?_)⟩) (fun hpc => absurd (by simp [Sy.pc]) hpc)
      (refine sy1 ?_; try exact True.intro)
      repeat' (first | refine w1g ?_ | refine w1l ?_ | refine w1q ?_ | refine w1b ?_ | refine w1p ?_ | ((first | refine w1r ?_ | refine w1k ?_ | refine w1e ?_); (refine sy1 ?_; try exact True.intro)) | refine an2 ?_ | fail)
      refine ⟨_, rfl, ?_⟩
      (refine sy1 ?_; try exact True.intro)
      repeat' (first | refine w1g ?_ | refine w1l ?_ | refine w1q ?_ | refine w1b ?_ | refine w1p ?_ | ((first | refine w1r ?_ | refine w1k ?_ | refine w1e ?_); (refine sy1 ?_; try exact True.intro)) | refine an2 ?_ | fail)
      refine W_loopU (fun m : Nat => []) (fun m => [(2, .cells [.row 9 (2 + m)]), (9, .row (2 + m) 59 2 dQ cPt (po x y m))]) (fun m => m ≤ 1) (fun m => 1 - m) 0 (by omega) (by rfl) (by rfl) (fun m hm => ?_)
      (refine sy1 ?_; try exact True.intro)
      obtain rfl | rfl : m = 0 ∨ m = 1 := by omega
      · rw [show po x y 0 = [x, y] from rfl, show 2 + 0 = 2 from rfl]
        repeat' (first | refine w1g ?_ | refine w1l ?_ | refine w1q ?_ | refine w1b ?_ | refine w1p ?_ | ((first | refine w1r ?_ | refine w1k ?_ | refine w1e ?_ | refine CallC.go _ (fun _ => ⟨trivial, d1⟩) rfl ?_); (refine sy1 ?_; try exact True.intro)) | refine an2 ?_ | fail)
        refine W_cond (by rfl) (fun _ => ?_) (fun h => absurd h (by decide))
        repeat' (first | refine w1g ?_ | refine w1l ?_ | refine w1q ?_ | refine w1b ?_ | refine w1p ?_ | ((first | refine w1r ?_ | refine w1k ?_ | refine w1e ?_); (refine sy1 ?_; try exact True.intro)) | refine an2 ?_ | fail)
        refine ⟨1, by omega, by omega, by rfl, ?_⟩
        (refine syE ?_; try exact True.intro)
        rfl
      · rw [show po x y 1 = [x] from rfl, show 2 + 1 = 3 from rfl]
        repeat' (first | refine w1g ?_ | refine w1l ?_ | refine w1q ?_ | refine w1b ?_ | refine w1p ?_ | ((first | refine w1r ?_ | refine w1k ?_ | refine w1e ?_); (refine sy1 ?_; try exact True.intro)) | refine an2 ?_ | ((refine CallC.go (bv false) (fun hpc => absurd hpc (by simp [Sy.pc])) rfl ?_; (refine sy1 ?_; try exact True.intro))) | fail)
        refine W_cond (by rfl) (fun h => absurd h (by decide)) (fun _ => ?_)
        repeat' (first | refine w1g ?_ | refine w1l ?_ | refine w1q ?_ | refine w1b ?_ | refine w1p ?_ | ((first | refine w1r ?_ | refine w1k ?_ | refine w1e ?_); (refine sy1 ?_; try exact True.intro)) | refine an2 ?_ | fail)
        refine ⟨rfl, trivial, Pt, dQ, cPt, [z], rfl, by omega, fun x _ => ⟨rfl, rfl⟩, rfl, ?_⟩
        (refine sy1 ?_; try exact True.intro)
        refine ⟨rfl, ⟨Nat.le_of_ble_eq_true rfl, rfl⟩, trivial, [z], rfl, by first | omega | (simp; done) | (simp; omega), by first | omega | (simp; done) | (simp; omega), ?_⟩
        (refine sy1 ?_; try exact True.intro)
        refine ⟨_, _, rfl, rfl, ?_⟩
        (refine sy1 ?_; try exact True.intro)
        refine W_cond (by rfl) (fun h => by cases h) (fun _ => ?_)
        repeat' (first | refine w1g ?_ | refine w1l ?_ | refine w1q ?_ | refine w1b ?_ | refine w1p ?_ | ((first | refine w1r ?_ | refine w1k ?_ | refine w1e ?_); (refine sy1 ?_; try exact True.intro)) | refine an2 ?_ | fail)
        refine ⟨3, by omega, by omega, by rfl, ?_⟩
        (refine syE ?_; try exact True.intro)
        exact ⟨rfl, rfl, rfl⟩
  · obtain rfl : i = 3 := by omega
    rw [show ot x y z 3 = [x, z] from rfl, show os 3 = 4 from rfl]
    repeat' (first | refine w1g ?_ | refine w1l ?_ | refine w1q ?_ | refine w1b ?_ | refine w1p ?_ | ((first | refine w1r ?_ | refine w1k ?_ | refine w1e ?_); (refine sy1 ?_; try exact True.intro)) | refine an2 ?_ | fail)
    refine ⟨_, _, rfl, rfl, ⟨_, _, rfl, by rw [hR.st]; simp, ?_⟩⟩
    rw [hR.pe]
    simp (maxSteps := 400000) (disch := omega) only [push_cast, ↓reduceIte, reduceCtorEq, Nat.reduceAdd, Nat.reduceSub, Nat.reduceEqDiff, Nat.reduceLeDiff, Nat.reduceLT, Nat.reduceBEq, Nat.reduceDiv, Nat.reduceMod, Nat.reducePow, Nat.reduceMul, Int.reduceToNat, Int.reduceLT, Int.reduceLE, EndP]
    repeat' (first | refine w1g ?_ | refine w1l ?_ | refine w1q ?_ | refine w1b ?_ | refine w1p ?_ | ((first | refine w1r ?_ | refine w1k ?_ | refine w1e ?_); (refine sy1 ?_; try exact True.intro)) | refine an2 ?_ | fail)
    exact W_ret ⟨_, _, ⟨rfl, rfl⟩, rfl⟩
def sv (s t : List Pt) : Nat → List Pt
  | 0 => s
  | _ => t
theorem rest40 (a b c : Pt) (L : Line a b c) (s : List Pt) (hs : s = [a, b, c]) : W Try.prog 38 Xn40_18 ⟨[(3, .row 6 1), (4, .clo 59 [] [])], [(6, .row 1 59 2 dQ cPt s)], 65⟩ (Sy.Fin [RV.t 2] (aQ [a, c])) := by
  have ls : s.length = 3 := by rw [hs]; rfl
  have s0 : s.getD 0 dQ = a := by rw [hs]; rfl
  have s1 : s.getD 1 dQ = b := by rw [hs]; rfl
  have s2 : s.getD 2 dQ = c := by rw [hs]; rfl
  have d1 := fn59 a b c L.qa L.qb L.qc
  rw [L.x1] at d1
  have d2 := fn59 c b a L.qc L.qb L.qa
  rw [L.x2] at d2
  have e1 := fn61 a b c L.qa L.qb L.qc L.x1 s hs
  obtain ⟨s', hs'⟩ : ∃ s', s' = [c, b, a] := ⟨_, rfl⟩
  have e2 := fn61 c b a L.qc L.qb L.qa L.x2 s' hs'
  have hrv : (s.set 0 c).set 2 a = s' := by rw [hs, hs']; rfl
  have ls' : s'.length = 3 := by rw [hs']; rfl
  repeat' (first | refine w1g ?_ | refine w1l ?_ | refine w1q ?_ | refine w1b ?_ | refine w1p ?_ | ((first | refine w1r ?_ | refine w1k ?_ | refine w1e ?_); (refine sy1 ?_; try exact True.intro)) | refine an2 ?_ | fail)
  refine CallC.inl (Inl_of_W mixed Xt62 rfl (fun vs => ?_))
  (refine sy1 ?_; try exact True.intro)
  repeat' (first | refine w1g ?_ | refine w1l ?_ | refine w1q ?_ | refine w1b ?_ | refine w1p ?_ | ((first | refine w1r ?_ | refine w1k ?_ | refine w1e ?_); (refine sy1 ?_; try exact True.intro)) | refine an2 ?_ | fail)
  refine W_ret ⟨[_], _, ⟨rfl, rfl⟩, rfl, ?_⟩
  simp (maxSteps := 400000) (disch := omega) only [push_cast, ↓reduceIte, reduceCtorEq, Nat.reduceAdd, Nat.reduceSub, Nat.reduceEqDiff, Nat.reduceLeDiff, Nat.reduceLT, Nat.reduceBEq, Nat.reduceDiv, Nat.reduceMod, Nat.reducePow, Nat.reduceMul, Int.reduceToNat, Int.reduceLT, Int.reduceLE, pack]
  refine CallC.inl (Inl_of_FnO e1 (by rfl) ?_)
  (refine sy1 ?_; try exact True.intro)
  repeat' (first | refine w1g ?_ | refine w1l ?_ | refine w1q ?_ | refine w1b ?_ | refine w1p ?_ | ((first | refine w1r ?_ | refine w1k ?_ | refine w1e ?_); (refine sy1 ?_; try exact True.intro)) | refine an2 ?_ | fail)
  refine CallC.inl (Inl_of_W mixed Xt63 rfl (fun vs2 => ?_))
  (refine sy1 ?_; try exact True.intro)
  repeat' (first | refine w1g ?_ | refine w1l ?_ | refine w1q ?_ | refine w1b ?_ | refine w1p ?_ | ((first | refine w1r ?_ | refine w1k ?_ | refine w1e ?_); simp (maxSteps := 400000) (disch := omega) only [push_cast, ↓reduceIte, reduceCtorEq, Nat.reduceAdd, Nat.reduceSub, Nat.reduceEqDiff, Nat.reduceLeDiff, Nat.reduceLT, Nat.reduceBEq, Nat.reduceDiv, Nat.reduceMod, Nat.reducePow, Nat.reduceMul, Int.reduceToNat, Int.reduceLT, Int.reduceLE, ls]) | refine an2 ?_ | fail)
  refine W_loopU (fun k : Nat => [(2, iv k), (3, iv (2 - (k : Int)))]) (fun k => [(6, .row 1 59 2 dQ cPt (sv s s' k))]) (fun k => k ≤ 1) (fun k => 1 - k) 0 (by omega) (by rfl) (by rfl) (fun k hk => ?_)
  (refine sy1 ?_; try exact True.intro)
  obtain rfl | rfl : k = 0 ∨ k = 1 := by omega
  · rw [show sv s s' 0 = s from rfl, show (2 : Int) - ((0 : Nat) : Int) = 2 from rfl]
    repeat' (first | refine w1g ?_ | refine w1l ?_ | refine w1q ?_ | refine w1b ?_ | refine w1p ?_ | ((first | refine w1r ?_ | refine w1k ?_ | refine w1e ?_); simp (maxSteps := 400000) (disch := omega) only [push_cast, ↓reduceIte, reduceCtorEq, Nat.reduceAdd, Nat.reduceSub, Nat.reduceEqDiff, Nat.reduceLeDiff, Nat.reduceLT, Nat.reduceBEq, Nat.reduceDiv, Nat.reduceMod, Nat.reducePow, Nat.reduceMul, Int.reduceToNat, Int.reduceLT, Int.reduceLE, s0, s2, ls]) | refine an2 ?_ | fail)
    refine W_cond (by rfl) (fun _ => ?_) (fun h => absurd h (by decide))
    repeat' (first | refine w1g ?_ | refine w1l ?_ | refine w1q ?_ | refine w1b ?_ | refine w1p ?_ | ((first | refine w1r ?_ | refine w1k ?_ | refine w1e ?_); simp (maxSteps := 400000) (disch := omega) only [push_cast, ↓reduceIte, reduceCtorEq, Nat.reduceAdd, Nat.reduceSub, Nat.reduceEqDiff, Nat.reduceLeDiff, Nat.reduceLT, Nat.reduceBEq, Nat.reduceDiv, Nat.reduceMod, Nat.reducePow, Nat.reduceMul, Int.reduceToNat, Int.reduceLT, Int.reduceLE, s0, s2, ls]) | refine an2 ?_ | fail)
    refine ⟨rfl, ⟨Nat.le_of_ble_eq_true rfl, rfl⟩, trivial, c, rfl, rfl, ?_⟩
    (refine sy1 ?_; try exact True.intro)
    refine ⟨by first | omega | (simp; omega) | exact ⟨by omega, by rw [List.length_set]; omega⟩, ?_⟩
    refine ⟨rfl, ⟨Nat.le_of_ble_eq_true rfl, rfl⟩, by rw [List.length_set]; omega, a, rfl, rfl, ?_⟩
    rw [hrv]
    (refine sy1 ?_; try exact True.intro)
    repeat' (first | refine w1g ?_ | refine w1l ?_ | refine w1q ?_ | refine w1b ?_ | refine w1p ?_ | ((first | refine w1r ?_ | refine w1k ?_ | refine w1e ?_); (refine sy1 ?_; try exact True.intro)) | refine an2 ?_ | fail)
    refine ⟨1, by omega, by omega, by rfl, ?_⟩
    (refine syE ?_; try exact True.intro)
    exact ⟨rfl, rfl⟩
  · rw [show sv s s' 1 = s' from rfl, show (2 : Int) - ((1 : Nat) : Int) = 1 from rfl]
    repeat' (first | refine w1g ?_ | refine w1l ?_ | refine w1q ?_ | refine w1b ?_ | refine w1p ?_ | ((first | refine w1r ?_ | refine w1k ?_ | refine w1e ?_); simp (maxSteps := 400000) (disch := omega) only [push_cast, ↓reduceIte, reduceCtorEq, Nat.reduceAdd, Nat.reduceSub, Nat.reduceEqDiff, Nat.reduceLeDiff, Nat.reduceLT, Nat.reduceBEq, Nat.reduceDiv, Nat.reduceMod, Nat.reducePow, Nat.reduceMul, Int.reduceToNat, Int.reduceLT, Int.reduceLE, ls']) | refine an2 ?_ | fail)
    refine W_cond (by rfl) (fun h => absurd h (by decide)) (fun _ => ?_)
    repeat' (first | refine w1g ?_ | refine w1l ?_ | refine w1q ?_ | refine w1b ?_ | refine w1p ?_ | ((first | refine w1r ?_ | refine w1k ?_ | refine w1e ?_); (refine sy1 ?_; try exact True.intro)) | refine an2 ?_ | fail)
    refine ⟨[], _, rfl, rfl, ?_⟩
    simp (maxSteps := 400000) (disch := omega) only [push_cast, ↓reduceIte, reduceCtorEq, Nat.reduceAdd, Nat.reduceSub, Nat.reduceEqDiff, Nat.reduceLeDiff, Nat.reduceLT, Nat.reduceBEq, Nat.reduceDiv, Nat.reduceMod, Nat.reducePow, Nat.reduceMul, Int.reduceToNat, Int.reduceLT, Int.reduceLE, pack]
    repeat' (first | refine w1g ?_ | refine w1l ?_ | refine w1q ?_ | refine w1b ?_ | refine w1p ?_ | ((first | refine w1r ?_ | refine w1k ?_ | refine w1e ?_); (refine sy1 ?_; try exact True.intro)) | refine an2 ?_ | fail)
    refine CallC.inl (Inl_of_W mixed Xt62 rfl (fun vs => ?_))
    (refine sy1 ?_; try exact True.intro)
    repeat' (first | refine w1g ?_ | refine w1l ?_ | refine w1q ?_ | refine w1b ?_ | refine w1p ?_ | ((first | refine w1r ?_ | refine w1k ?_ | refine w1e ?_); (refine sy1 ?_; try exact True.intro)) | refine an2 ?_ | fail)
    refine W_ret ⟨[_], _, ⟨rfl, rfl⟩, rfl, ?_⟩
    simp (maxSteps := 400000) (disch := omega) only [push_cast, ↓reduceIte, reduceCtorEq, Nat.reduceAdd, Nat.reduceSub, Nat.reduceEqDiff, Nat.reduceLeDiff, Nat.reduceLT, Nat.reduceBEq, Nat.reduceDiv, Nat.reduceMod, Nat.reducePow, Nat.reduceMul, Int.reduceToNat, Int.reduceLT, Int.reduceLE, pack]
    refine CallC.inl (Inl_of_FnO e2 (by rfl) ?_)
    (refine sy1 ?_; try exact True.intro)
    repeat' (first | refine w1g ?_ | refine w1l ?_ | refine w1q ?_ | refine w1b ?_ | refine w1p ?_ | ((first | refine w1r ?_ | refine w1k ?_ | refine w1e ?_); (refine sy1 ?_; try exact True.intro)) | refine an2 ?_ | fail)
    rw [show List.take ((0 : Int) + 1 + 1 - 1).toNat [a, c] = [a] from rfl, show List.take ((0 : Int) + 1 + 1 - 1).toNat [c, a] = [c] from rfl]
    refine ⟨rfl, ⟨Nat.le_of_ble_eq_true rfl, rfl⟩, trivial, [c], rfl, by first | omega | (simp; done) | (simp; omega), by first | omega | (simp; done) | (simp; omega), ?_⟩
    (refine sy1 ?_; try exact True.intro)
    exact W_ret ⟨[_], ⟨rfl, rfl⟩, rfl⟩
end Go.Proofs.Ytlegpipcmnnaoaa

namespace Go.Proofs.Ytlegpipcmnnaoaa
open Go Sy
set_option maxRecDepth 100000
set_option maxHeartbeats 8000000
set_option linter.unusedVariables false
set_option linter.unusedSimpArgs false
def sr (l s : List Pt) : Nat → List Pt
  | 0 => l
  | 1 => l
  | _ => s
theorem fn40 (a b c : Pt) (L : Line a b c) (l : List Pt) (hl : l = [a, c, b]) : Sy.Fn Try.prog 40 [aQ l] (aQ [a, c]) := by
  refine Fn_of_W mixed Xt40 rfl ?_
  have ll : l.length = 3 := by rw [hl]; rfl
  obtain ⟨s, hs⟩ : ∃ s, s = [a, b, c] := ⟨_, rfl⟩
  have ls : s.length = 3 := by rw [hs]; rfl
  have l0 : l.getD 0 dQ = a := by rw [hl]; rfl
  have l1 : l.getD 1 dQ = c := by rw [hl]; rfl
  have l2 : l.getD 2 dQ = b := by rw [hl]; rfl
  have s0 : s.getD 0 dQ = a := by rw [hs]; rfl
  have s1 : s.getD 1 dQ = b := by rw [hs]; rfl
  have s2 : s.getD 2 dQ = c := by rw [hs]; rfl
  have hsw : (l.set 2 c).set 1 b = s := by rw [hl, hs]; rfl
  have e10 : ((1 : Int) - 1).toNat = 0 := rfl
  have e21 : ((2 : Int) - 1).toNat = 1 := rfl
  have dT : decide True = true := rfl
  have n1 := L.n1
  have n2 := L.n2
  have k1 := fn57 c a
  rw [L.s1] at k1
  have k2 := fn57 b c
  rw [L.s2] at k2
  have k3 := fn57 b a
  rw [L.s3] at k3
  repeat' (first | refine w1g ?_ | refine w1l ?_ | refine w1q ?_ | refine w1b ?_ | refine w1p ?_ | ((first | refine w1r ?_ | refine w1k ?_ | refine w1e ?_); (refine sy1 ?_; try exact True.intro)) | refine an2 ?_ | fail)
  refine CallC.inl (Inl_of_W mixed Xt55 rfl (fun vs => ?_))
  (refine sy1 ?_; try exact True.intro)
  repeat' (first | refine w1g ?_ | refine w1l ?_ | refine w1q ?_ | refine w1b ?_ | refine w1p ?_ | ((first | refine w1r ?_ | refine w1k ?_ | refine w1e ?_); (refine sy1 ?_; try exact True.intro)) | refine an2 ?_ | fail)
  refine W_cond (by rfl) (fun h => by cases h) (fun _ => ?_)
  repeat' (first | refine w1g ?_ | refine w1l ?_ | refine w1q ?_ | refine w1b ?_ | refine w1p ?_ | ((first | refine w1r ?_ | refine w1k ?_ | refine w1e ?_); (refine sy1 ?_; try exact True.intro)) | refine an2 ?_ | fail)
  refine ⟨rfl, trivial, Pt, dQ, cPt, [], rfl, by omega, fun x _ => ⟨rfl, rfl⟩, rfl, ?_⟩
  (refine sy1 ?_; try exact True.intro)
  refine ⟨rfl, ⟨Nat.le_of_ble_eq_true rfl, rfl⟩, trivial, l, rfl, by first | omega | (simp; omega), by first | omega | (simp; omega), ?_⟩
  (refine sy1 ?_; try exact True.intro)
  repeat' (first | refine w1g ?_ | refine w1l ?_ | refine w1q ?_ | refine w1b ?_ | refine w1p ?_ | ((first | refine w1r ?_ | refine w1k ?_ | refine w1e ?_); (refine sy1 ?_; try exact True.intro)) | refine an2 ?_ | fail)
  refine W_ret ⟨[_], _, ⟨rfl, rfl⟩, rfl, ?_⟩
  simp (maxSteps := 400000) (disch := omega) only [push_cast, ↓reduceIte, reduceCtorEq, Nat.reduceAdd, Nat.reduceSub, Nat.reduceEqDiff, Nat.reduceLeDiff, Nat.reduceLT, Nat.reduceBEq, Nat.reduceDiv, Nat.reduceMod, Nat.reducePow, Nat.reduceMul, Int.reduceToNat, Int.reduceLT, Int.reduceLE, pack]
  repeat' (first | refine w1g ?_ | refine w1l ?_ | refine w1q ?_ | refine w1b ?_ | refine w1p ?_ | ((first | refine w1r ?_ | refine w1k ?_ | refine w1e ?_); (refine sy1 ?_; try exact True.intro)) | refine an2 ?_ | fail)
  refine CallC.inl (Inl_of_W mixed Xt56 rfl (fun vs => ?_))
  obtain ⟨n73, _, c73⟩ := fn73 l.length (by omega)
  have w3 : IntKind.u64.wrap (l.length : Int) = l.length := by rw [IntKind.wrap_u64]; omega
  (refine sy1 ?_; try exact True.intro)
  repeat' (first | refine w1g ?_ | refine w1l ?_ | refine w1q ?_ | refine w1b ?_ | refine w1p ?_ | ((first | refine w1r ?_ | refine w1k ?_ | refine w1e ?_ | refine CallC.now (c73) ?_); simp (maxSteps := 400000) (disch := omega) only [push_cast, ↓reduceIte, reduceCtorEq, Nat.reduceAdd, Nat.reduceSub, Nat.reduceEqDiff, Nat.reduceLeDiff, Nat.reduceLT, Nat.reduceBEq, Nat.reduceDiv, Nat.reduceMod, Nat.reducePow, Nat.reduceMul, Int.reduceToNat, Int.reduceLT, Int.reduceLE, w3]) | refine an2 ?_ | fail)
  refine CallC.inl (Inl_of_W mixed Xt72 rfl (fun vs2 => ?_))
  (refine sy1 ?_; try exact True.intro)
  repeat' (first | refine w1g ?_ | refine w1l ?_ | refine w1q ?_ | refine w1b ?_ | refine w1p ?_ | ((first | refine w1r ?_ | refine w1k ?_ | refine w1e ?_); (refine sy1 ?_; try exact True.intro)) | refine an2 ?_ | fail)
  refine W_loopU (fun k : Nat => []) (fun k => []) (fun k => k = 0) (fun k => 1) 0 rfl (by rfl) (by rfl) (fun k hk => ?_)
  (refine sy1 ?_; try exact True.intro)
  repeat' (first | refine w1g ?_ | refine w1l ?_ | refine w1q ?_ | refine w1b ?_ | refine w1p ?_ | ((first | refine w1r ?_ | refine w1k ?_ | refine w1e ?_); (refine sy1 ?_; try exact True.intro)) | refine an2 ?_ | fail)
  refine W_condD (by rfl) (fun h5 => ?_) (fun h5 => absurd h5 (by omega))
  repeat' (first | refine w1g ?_ | refine w1l ?_ | refine w1q ?_ | refine w1b ?_ | refine w1p ?_ | ((first | refine w1r ?_ | refine w1k ?_ | refine w1e ?_); (refine sy1 ?_; try exact True.intro)) | refine an2 ?_ | fail)
  refine CallC.inl (Inl_of_W mixed Xt82 rfl (fun vs3 => ?_))
  (refine sy1 ?_; try exact True.intro)
  repeat' (first | refine w1g ?_ | refine w1l ?_ | refine w1q ?_ | refine w1b ?_ | refine w1p ?_ | ((first | refine w1r ?_ | refine w1k ?_ | refine w1e ?_); (refine sy1 ?_; try exact True.intro)) | refine an2 ?_ | fail)
  refine W_loopU (fun k : Nat => [(8, iv ((k : Int) + 1))]) (fun k => [(6, .row 1 59 2 dQ cPt (sr l s k))]) (fun k => k ≤ 2) (fun k => 2 - k) 0 (by omega) (by rfl) (by rfl) (fun k hk => ?_)
  (refine sy1 ?_; try exact True.intro)
  repeat' (first | refine w1g ?_ | refine w1l ?_ | refine w1q ?_ | refine w1b ?_ | refine w1p ?_ | ((first | refine w1r ?_ | refine w1k ?_ | refine w1e ?_); (refine sy1 ?_; try exact True.intro)) | refine an2 ?_ | fail)
  refine W_condD (by rfl) (fun h6 => ?_) (fun h6 => ?_)
  · obtain rfl | rfl : k = 0 ∨ k = 1 := by omega
    · rw [show sr l s 0 = l from rfl, show ((0 : Nat) : Int) + 1 = 1 from rfl]
      repeat' (first | refine w1g ?_ | refine w1l ?_ | refine w1q ?_ | refine w1b ?_ | refine w1p ?_ | ((first | refine w1r ?_ | refine w1k ?_ | refine w1e ?_); (refine sy1 ?_; try exact True.intro)) | refine an2 ?_ | fail)
      refine W_loopU (fun m : Nat => []) (fun k => []) (fun m => m = 0) (fun m => 1) 0 rfl (by rfl) (by rfl) (fun m hm => ?_)
      (refine sy1 ?_; try exact True.intro)
      repeat' (first | refine w1g ?_ | refine w1l ?_ | refine w1q ?_ | refine w1b ?_ | refine w1p ?_ | ((first | refine w1r ?_ | refine w1k ?_ | refine w1e ?_ | refine CallC.go _ (fun _ => ⟨trivial, k1⟩) rfl ?_); simp (maxSteps := 400000) (disch := omega) only [push_cast, ↓reduceIte, reduceCtorEq, Nat.reduceAdd, Nat.reduceSub, Nat.reduceEqDiff, Nat.reduceLeDiff, Nat.reduceLT, Nat.reduceBEq, Nat.reduceDiv, Nat.reduceMod, Nat.reducePow, Nat.reduceMul, Int.reduceToNat, Int.reduceLT, Int.reduceLE, l0, l1, ll, e10, dT]) | refine an2 ?_ | fail)
      refine W_cond (by rfl) (fun h => absurd h (by decide)) (fun _ => ?_)
      repeat' (first | refine w1g ?_ | refine w1l ?_ | refine w1q ?_ | refine w1b ?_ | refine w1p ?_ | ((first | refine w1r ?_ | refine w1k ?_ | refine w1e ?_); (refine sy1 ?_; try exact True.intro)) | refine an2 ?_ | fail)
      refine ⟨1, by omega, by omega, by rfl, ?_⟩
      (refine syE ?_; try exact True.intro)
      exact ⟨rfl, rfl⟩
    · rw [show sr l s 1 = l from rfl, show ((1 : Nat) : Int) + 1 = 2 from rfl]
      repeat' (first | refine w1g ?_ | refine w1l ?_ | refine w1q ?_ | refine w1b ?_ | refine w1p ?_ | ((first | refine w1r ?_ | refine w1k ?_ | refine w1e ?_); (refine sy1 ?_; try exact True.intro)) | refine an2 ?_ | fail)
      refine W_loopU (fun m : Nat => [(9, iv (2 - (m : Int)))]) (fun m => [(6, .row 1 59 2 dQ cPt (sr l s (m + 1)))]) (fun m => m ≤ 1) (fun m => 1 - m) 0 (by omega) (by rfl) (by rfl) (fun m hm => ?_)
      (refine sy1 ?_; try exact True.intro)
      obtain rfl | rfl : m = 0 ∨ m = 1 := by omega
      · rw [show sr l s (0 + 1) = l from rfl, show (2 : Int) - ((0 : Nat) : Int) = 2 from rfl]
        repeat' (first | refine w1g ?_ | refine w1l ?_ | refine w1q ?_ | refine w1b ?_ | refine w1p ?_ | ((first | refine w1r ?_ | refine w1k ?_ | refine w1e ?_ | refine CallC.go _ (fun _ => ⟨trivial, k2⟩) rfl ?_); simp (maxSteps := 400000) (disch := omega) only [push_cast, ↓reduceIte, reduceCtorEq, Nat.reduceAdd, Nat.reduceSub, Nat.reduceEqDiff, Nat.reduceLeDiff, Nat.reduceLT, Nat.reduceBEq, Nat.reduceDiv, Nat.reduceMod, Nat.reducePow, Nat.reduceMul, Int.reduceToNat, Int.reduceLT, Int.reduceLE, l1, l2, ll, e21, dT]) | refine an2 ?_ | fail)
        refine W_cond (by rfl) (fun _ => ?_) (fun h => by cases h)
        repeat' (first | refine w1g ?_ | refine w1l ?_ | refine w1q ?_ | refine w1b ?_ | refine w1p ?_ | ((first | refine w1r ?_ | refine w1k ?_ | refine w1e ?_); simp (maxSteps := 400000) (disch := omega) only [push_cast, ↓reduceIte, reduceCtorEq, Nat.reduceAdd, Nat.reduceSub, Nat.reduceEqDiff, Nat.reduceLeDiff, Nat.reduceLT, Nat.reduceBEq, Nat.reduceDiv, Nat.reduceMod, Nat.reducePow, Nat.reduceMul, Int.reduceToNat, Int.reduceLT, Int.reduceLE, l1, l2, ll, e21, dT]) | refine an2 ?_ | fail)
        refine ⟨rfl, ⟨Nat.le_of_ble_eq_true rfl, rfl⟩, trivial, c, rfl, rfl, ?_⟩
        simp (maxSteps := 400000) (disch := omega) only [push_cast, ↓reduceIte, reduceCtorEq, Nat.reduceAdd, Nat.reduceSub, Nat.reduceEqDiff, Nat.reduceLeDiff, Nat.reduceLT, Nat.reduceBEq, Nat.reduceDiv, Nat.reduceMod, Nat.reducePow, Nat.reduceMul, Int.reduceToNat, Int.reduceLT, Int.reduceLE, e21]
        refine ⟨⟨by omega, by rw [List.length_set]; omega⟩, ?_⟩
        refine ⟨rfl, ⟨Nat.le_of_ble_eq_true rfl, rfl⟩, by rw [List.length_set]; omega, b, rfl, rfl, ?_⟩
        rw [hsw]
        simp (maxSteps := 400000) (disch := omega) only [push_cast, ↓reduceIte, reduceCtorEq, Nat.reduceAdd, Nat.reduceSub, Nat.reduceEqDiff, Nat.reduceLeDiff, Nat.reduceLT, Nat.reduceBEq, Nat.reduceDiv, Nat.reduceMod, Nat.reducePow, Nat.reduceMul, Int.reduceToNat, Int.reduceLT, Int.reduceLE, e21]
        repeat' (first | refine w1g ?_ | refine w1l ?_ | refine w1q ?_ | refine w1b ?_ | refine w1p ?_ | ((first | refine w1r ?_ | refine w1k ?_ | refine w1e ?_); simp (maxSteps := 400000) (disch := omega) only [push_cast, ↓reduceIte, reduceCtorEq, Nat.reduceAdd, Nat.reduceSub, Nat.reduceEqDiff, Nat.reduceLeDiff, Nat.reduceLT, Nat.reduceBEq, Nat.reduceDiv, Nat.reduceMod, Nat.reducePow, Nat.reduceMul, Int.reduceToNat, Int.reduceLT, Int.reduceLE, e21]) | refine an2 ?_ | fail)
        refine ⟨1, by omega, by omega, by rfl, ?_⟩
        (refine syE ?_; try exact True.intro)
        exact ⟨rfl, rfl⟩
      · rw [show sr l s (1 + 1) = s from rfl, show (2 : Int) - ((1 : Nat) : Int) = 1 from rfl]
        repeat' (first | refine w1g ?_ | refine w1l ?_ | refine w1q ?_ | refine w1b ?_ | refine w1p ?_ | ((first | refine w1r ?_ | refine w1k ?_ | refine w1e ?_ | refine CallC.go _ (fun _ => ⟨trivial, k3⟩) rfl ?_); simp (maxSteps := 400000) (disch := omega) only [push_cast, ↓reduceIte, reduceCtorEq, Nat.reduceAdd, Nat.reduceSub, Nat.reduceEqDiff, Nat.reduceLeDiff, Nat.reduceLT, Nat.reduceBEq, Nat.reduceDiv, Nat.reduceMod, Nat.reducePow, Nat.reduceMul, Int.reduceToNat, Int.reduceLT, Int.reduceLE, s0, s1, ls, e10, dT]) | refine an2 ?_ | fail)
        refine W_cond (by rfl) (fun h => absurd h (by decide)) (fun _ => ?_)
        repeat' (first | refine w1g ?_ | refine w1l ?_ | refine w1q ?_ | refine w1b ?_ | refine w1p ?_ | ((first | refine w1r ?_ | refine w1k ?_ | refine w1e ?_); (refine sy1 ?_; try exact True.intro)) | refine an2 ?_ | fail)
        refine ⟨2, by omega, by omega, by rfl, ?_⟩
        (refine syE ?_; try exact True.intro)
        exact ⟨rfl, rfl⟩
  · obtain rfl : k = 2 := by omega
    rw [show sr l s 2 = s from rfl]
    repeat' (first | refine w1g ?_ | refine w1l ?_ | refine w1q ?_ | refine w1b ?_ | refine w1p ?_ | ((first | refine w1r ?_ | refine w1k ?_ | refine w1e ?_); (refine sy1 ?_; try exact True.intro)) | refine an2 ?_ | fail)
    refine ⟨[], _, rfl, rfl, ?_⟩
    simp (maxSteps := 400000) (disch := omega) only [push_cast, ↓reduceIte, reduceCtorEq, Nat.reduceAdd, Nat.reduceSub, Nat.reduceEqDiff, Nat.reduceLeDiff, Nat.reduceLT, Nat.reduceBEq, Nat.reduceDiv, Nat.reduceMod, Nat.reducePow, Nat.reduceMul, Int.reduceToNat, Int.reduceLT, Int.reduceLE, pack]
    repeat' (first | refine w1g ?_ | refine w1l ?_ | refine w1q ?_ | refine w1b ?_ | refine w1p ?_ | ((first | refine w1r ?_ | refine w1k ?_ | refine w1e ?_); (refine sy1 ?_; try exact True.intro)) | refine an2 ?_ | fail)
    refine W_ret ⟨[], _, rfl, rfl, ?_⟩
    simp (maxSteps := 400000) (disch := omega) only [push_cast, ↓reduceIte, reduceCtorEq, Nat.reduceAdd, Nat.reduceSub, Nat.reduceEqDiff, Nat.reduceLeDiff, Nat.reduceLT, Nat.reduceBEq, Nat.reduceDiv, Nat.reduceMod, Nat.reducePow, Nat.reduceMul, Int.reduceToNat, Int.reduceLT, Int.reduceLE, pack]
    repeat' (first | refine w1g ?_ | refine w1l ?_ | refine w1q ?_ | refine w1b ?_ | refine w1p ?_ | ((first | refine w1r ?_ | refine w1k ?_ | refine w1e ?_); (refine sy1 ?_; try exact True.intro)) | refine an2 ?_ | fail)
    refine ⟨[], _, rfl, rfl, ?_⟩
    simp (maxSteps := 400000) (disch := omega) only [push_cast, ↓reduceIte, reduceCtorEq, Nat.reduceAdd, Nat.reduceSub, Nat.reduceEqDiff, Nat.reduceLeDiff, Nat.reduceLT, Nat.reduceBEq, Nat.reduceDiv, Nat.reduceMod, Nat.reducePow, Nat.reduceMul, Int.reduceToNat, Int.reduceLT, Int.reduceLE, pack]
    repeat' (first | refine w1g ?_ | refine w1l ?_ | refine w1q ?_ | refine w1b ?_ | refine w1p ?_ | ((first | refine w1r ?_ | refine w1k ?_ | refine w1e ?_); (refine sy1 ?_; try exact True.intro)) | refine an2 ?_ | fail)
    refine CallC.inl (Inl_of_W mixed Xt58 rfl (fun vs4 => ?_))
    simp (maxSteps := 400000) (disch := omega) only [push_cast, ↓reduceIte, reduceCtorEq, Nat.reduceAdd, Nat.reduceSub, Nat.reduceEqDiff, Nat.reduceLeDiff, Nat.reduceLT, Nat.reduceBEq, Nat.reduceDiv, Nat.reduceMod, Nat.reducePow, Nat.reduceMul, Int.reduceToNat, Int.reduceLT, Int.reduceLE, ls]
    repeat' (first | refine w1g ?_ | refine w1l ?_ | refine w1q ?_ | refine w1b ?_ | refine w1p ?_ | ((first | refine w1r ?_ | refine w1k ?_ | refine w1e ?_); simp (maxSteps := 400000) (disch := omega) only [push_cast, ↓reduceIte, reduceCtorEq, Nat.reduceAdd, Nat.reduceSub, Nat.reduceEqDiff, Nat.reduceLeDiff, Nat.reduceLT, Nat.reduceBEq, Nat.reduceDiv, Nat.reduceMod, Nat.reducePow, Nat.reduceMul, Int.reduceToNat, Int.reduceLT, Int.reduceLE, ls]) | refine an2 ?_ | fail)
    refine W_cond (by rfl) (fun h => absurd h (by decide)) (fun _ => ?_)
    repeat' (first | refine w1g ?_ | refine w1l ?_ | refine w1q ?_ | refine w1b ?_ | refine w1p ?_ | ((first | refine w1r ?_ | refine w1k ?_ | refine w1e ?_); (refine sy1 ?_; try exact True.intro)) | refine an2 ?_ | fail)
    refine W_loopU (fun k : Nat => [(3, iv ((k : Int) + 1))]) (fun k => []) (fun k => k ≤ 2) (fun k => 2 - k) 0 (by omega) (by rfl) (by rfl) (fun k hk => ?_)
    (refine sy1 ?_; try exact True.intro)
    repeat' (first | refine w1g ?_ | refine w1l ?_ | refine w1q ?_ | refine w1b ?_ | refine w1p ?_ | ((first | refine w1r ?_ | refine w1k ?_ | refine w1e ?_); simp (maxSteps := 400000) (disch := omega) only [push_cast, ↓reduceIte, reduceCtorEq, Nat.reduceAdd, Nat.reduceSub, Nat.reduceEqDiff, Nat.reduceLeDiff, Nat.reduceLT, Nat.reduceBEq, Nat.reduceDiv, Nat.reduceMod, Nat.reducePow, Nat.reduceMul, Int.reduceToNat, Int.reduceLT, Int.reduceLE, ls]) | refine an2 ?_ | fail)
    refine W_condD (by rfl) (fun h7 => ?_) (fun h7 => ?_)
    · obtain rfl | rfl : k = 0 ∨ k = 1 := by omega
      · rw [show ((0 : Nat) : Int) + 1 = 1 from rfl]
        repeat' (first | refine w1g ?_ | refine w1l ?_ | refine w1q ?_ | refine w1b ?_ | refine w1p ?_ | ((first | refine w1r ?_ | refine w1k ?_ | refine w1e ?_); simp (maxSteps := 400000) (disch := omega) only [push_cast, ↓reduceIte, reduceCtorEq, Nat.reduceAdd, Nat.reduceSub, Nat.reduceEqDiff, Nat.reduceLeDiff, Nat.reduceLT, Nat.reduceBEq, Nat.reduceDiv, Nat.reduceMod, Nat.reducePow, Nat.reduceMul, Int.reduceToNat, Int.reduceLT, Int.reduceLE, s0, s1, ls, e10, n1]) | refine an2 ?_ | fail)
        refine W_cond (by rfl) (fun h => by cases h) (fun _ => ?_)
        repeat' (first | refine w1g ?_ | refine w1l ?_ | refine w1q ?_ | refine w1b ?_ | refine w1p ?_ | ((first | refine w1r ?_ | refine w1k ?_ | refine w1e ?_); (refine sy1 ?_; try exact True.intro)) | refine an2 ?_ | fail)
        refine ⟨1, by omega, by omega, by rfl, ?_⟩
        (refine syE ?_; try exact True.intro)
        rfl
      · rw [show ((1 : Nat) : Int) + 1 = 2 from rfl]
        repeat' (first | refine w1g ?_ | refine w1l ?_ | refine w1q ?_ | refine w1b ?_ | refine w1p ?_ | ((first | refine w1r ?_ | refine w1k ?_ | refine w1e ?_); simp (maxSteps := 400000) (disch := omega) only [push_cast, ↓reduceIte, reduceCtorEq, Nat.reduceAdd, Nat.reduceSub, Nat.reduceEqDiff, Nat.reduceLeDiff, Nat.reduceLT, Nat.reduceBEq, Nat.reduceDiv, Nat.reduceMod, Nat.reducePow, Nat.reduceMul, Int.reduceToNat, Int.reduceLT, Int.reduceLE, s1, s2, ls, e21, n2]) | refine an2 ?_ | fail)
        refine W_cond (by rfl) (fun h => by cases h) (fun _ => ?_)
        repeat' (first | refine w1g ?_ | refine w1l ?_ | refine w1q ?_ | refine w1b ?_ | refine w1p ?_ | ((first | refine w1r ?_ | refine w1k ?_ | refine w1e ?_); (refine sy1 ?_; try exact True.intro)) | refine an2 ?_ | fail)
        refine ⟨2, by omega, by omega, by rfl, ?_⟩
        (refine syE ?_; try exact True.intro)
        rfl
    · repeat' (first | refine w1g ?_ | refine w1l ?_ | refine w1q ?_ | refine w1b ?_ | refine w1p ?_ | ((first | refine w1r ?_ | refine w1k ?_ | refine w1e ?_); (refine sy1 ?_; try exact True.intro)) | refine an2 ?_ | fail)
      refine W_ret ⟨[_], _, ⟨rfl, rfl⟩, rfl, ?_⟩
      simp (maxSteps := 400000) (disch := omega) only [push_cast, ↓reduceIte, reduceCtorEq, Nat.reduceAdd, Nat.reduceSub, Nat.reduceEqDiff, Nat.reduceLeDiff, Nat.reduceLT, Nat.reduceBEq, Nat.reduceDiv, Nat.reduceMod, Nat.reducePow, Nat.reduceMul, Int.reduceToNat, Int.reduceLT, Int.reduceLE, pack]
      repeat' (first | refine w1g ?_ | refine w1l ?_ | refine w1q ?_ | refine w1b ?_ | refine w1p ?_ | ((first | refine w1r ?_ | refine w1k ?_ | refine w1e ?_); simp (maxSteps := 400000) (disch := omega) only [push_cast, ↓reduceIte, reduceCtorEq, Nat.reduceAdd, Nat.reduceSub, Nat.reduceEqDiff, Nat.reduceLeDiff, Nat.reduceLT, Nat.reduceBEq, Nat.reduceDiv, Nat.reduceMod, Nat.reducePow, Nat.reduceMul, Int.reduceToNat, Int.reduceLT, Int.reduceLE, ls]) | refine an2 ?_ | fail)
      refine W_cond (by rfl) (fun h => absurd h (by decide)) (fun _ => ?_)
      refine W_skip ?_
      (refine sy1 ?_; try exact True.intro)
      repeat (first | refine WK_go ?_ | refine W_seqL ?_ | refine W_seq ?_ | refine W_block ?_)
      refine W_regL ?_
      (refine sy1 ?_; try exact True.intro)
      exact rest40 a b c L s hs
end Go.Proofs.Ytlegpipcmnnaoaa

namespace Go.Proofs.Ytlegpipcmnnaoaa
open Go Sy
set_option maxRecDepth 100000
set_option maxHeartbeats 8000000
set_option linter.unusedVariables false
set_option linter.unusedSimpArgs false
theorem fn16 (a b c : Pt) (L : Line a b c) (l : List Pt) (hl : l = [a, c, b]) : Sy.Fn Try.prog 16 [aQ l] (.tup [aQ [a, c], iv 0]) := by
  refine Fn_of_W mixed Xt16 rfl ?_
  have c39 := fn39 [l] (by simp) (fun i hi => by
    obtain rfl : i = 0 := by simpa using hi
    rw [hl]
    simp [L.qa, L.qb, L.qc])
  have c40 := fn40 a b c L l hl
  have ll : l.length = 3 := by rw [hl]; rfl
  repeat' (first | refine w1g ?_ | refine w1l ?_ | refine w1q ?_ | refine w1b ?_ | refine w1p ?_ | ((first | refine w1r ?_ | refine w1k ?_ | refine w1e ?_); (refine sy1 ?_; try exact True.intro)) | refine an2 ?_ | fail)
  refine ⟨rfl, trivial, (List Pt), [], cQ1, [l], rfl, by omega, fun x _ => ⟨rfl, rfl⟩, rfl, ?_⟩
  (refine sy1 ?_; try exact True.intro)
  repeat' (first | refine w1g ?_ | refine w1l ?_ | refine w1q ?_ | refine w1b ?_ | refine w1p ?_ | ((first | refine w1r ?_ | refine w1k ?_ | refine w1e ?_ | refine CallC.go _ (fun _ => ⟨trivial, c39⟩) rfl ?_); (refine sy1 ?_; try exact True.intro)) | refine an2 ?_ | fail)
  refine W_cond (by rfl) (fun h => by cases h) (fun _ => ?_)
  repeat' (first | refine w1g ?_ | refine w1l ?_ | refine w1q ?_ | refine w1b ?_ | refine w1p ?_ | ((first | refine w1r ?_ | refine w1k ?_ | refine w1e ?_); simp (maxSteps := 400000) (disch := omega) only [push_cast, ↓reduceIte, reduceCtorEq, Nat.reduceAdd, Nat.reduceSub, Nat.reduceEqDiff, Nat.reduceLeDiff, Nat.reduceLT, Nat.reduceBEq, Nat.reduceDiv, Nat.reduceMod, Nat.reducePow, Nat.reduceMul, Int.reduceToNat, Int.reduceLT, Int.reduceLE, ll]) | refine an2 ?_ | fail)
  refine W_cond (by rfl) (fun h => absurd h (by decide)) (fun _ => ?_)
  repeat' (first | refine w1g ?_ | refine w1l ?_ | refine w1q ?_ | refine w1b ?_ | refine w1p ?_ | ((first | refine w1r ?_ | refine w1k ?_ | refine w1e ?_ | refine CallC.now (c40) ?_); (refine sy1 ?_; try exact True.intro)) | refine an2 ?_ | fail)
  exact W_ret ⟨[_, _], ⟨rfl, rfl, rfl⟩, rfl⟩
theorem line3 : Line ⟨1, 0⟩ ⟨2, 0⟩ ⟨3, 0⟩ := ⟨by decide, by decide, by decide, by decide, by decide, by decide, by decide, by decide, by decide, by decide⟩
end Go.Proofs.Ytlegpipcmnnaoaa

namespace Go.Proofs.Ytlegpipcmnnaoaa
open Go Sy
set_option maxRecDepth 100000
set_option maxHeartbeats 8000000
set_option linter.unusedVariables false
set_option linter.unusedSimpArgs false
theorem strt0 : Strt (car 1) unL0 unL1 ⟨0, 0⟩ ⟨-3000, 0⟩ ⟨-9000, 0⟩ ⟨-100, 0⟩ where
  T := {
    vu := rfl
    ch := car_ok1
    k0 := ⟨by decide, by decide, by decide⟩
    k1 := ⟨by decide, by decide, by decide⟩
    b0 := rfl
    b1 := rfl
    q0 := by decide
    q1 := by decide
    q2 := by decide
    n1 := by decide
    n2 := by decide
    l1 := ⟨by decide, by decide, by decide, by decide, by decide, by decide +kernel, by decide +kernel⟩
    l2 := ⟨by decide, by decide, by decide, by decide, by decide, by decide +kernel, by decide +kernel⟩
    e1 := by unfold plP; congr 1 <;> decide +kernel
    e2 := by unfold plP; congr 1 <;> decide +kernel }
  gr := car_gr 1
  qb := by decide
  len := by decide
  pl := ⟨by decide, by decide, by decide, by decide, by decide, by decide +kernel, by decide +kernel⟩
  e1 := by unfold plP; congr 1 <;> decide +kernel
  pj := ⟨by decide, by decide, by decide, by decide, by decide, by decide +kernel, by decide +kernel⟩
  e2 := by unfold plP; congr 1 <;> decide +kernel
def bx4 : Bx := ⟨0, 0, 0, 0, 0, 0, 4⟩
theorem obx4 : OBx bx4 := ⟨by decide, by decide, by decide, by decide, by decide, by decide, by decide⟩
theorem ex_lv : levE 1000 0 3 1 = 0 ∧ levL 1000 0 3 1 = 667 ∧ levR 1000 0 3 1 = 334 := by decide +kernel
theorem fn9 : Sy.Fn Try.prog 9 [] (bv true) := by
  refine Fn_of_W mixed Xt9 rfl ?_
  have c14 := fn14 (car 1) unL0 unL1 ⟨0, 0⟩ ⟨-3000, 0⟩ ⟨-9000, 0⟩ ⟨-100, 0⟩ strt0
  have hb : ∀ b ∈ [bx4], OBx b := fun b hb => by rw [List.mem_singleton] at hb; rw [hb]; exact obx4
  have c7 := fn7 [bx4] (by simp) hb
  have hok := (crg_ok hb (by simp)).1
  have c6 := fn6 (crg [bx4]) (by have := hok.n2; omega) (by have := hok.n3; omega)
  rw [show masV (crg [bx4]) = 5 by unfold masV; rw [if_pos (chkL_ok hok)]; decide, chkL_ok hok] at c6
  have c15 := fn15 1000 0 3 1
  rw [ex_lv.1, ex_lv.2.1, ex_lv.2.2] at c15
  have c16 := fn16 ⟨1, 0⟩ ⟨2, 0⟩ ⟨3, 0⟩ line3 _ rfl
  repeat (first | refine WK_go ?_ | refine W_seqL ?_ | refine W_seq ?_ | refine W_block ?_)
  refine W_regL ?_
  (refine sy1 ?_; try exact True.intro)
  repeat (first | refine WK_go ?_ | refine W_seqL ?_ | refine W_seq ?_ | refine W_block ?_)
  refine W_regL ?_
  (refine sy1 ?_; try exact True.intro)
  refine CallC.now fn5 ?_
  (refine sy1 ?_; try exact True.intro)
  refine CallC.now c14 ?_
  (refine sy1 ?_; try exact True.intro)
  repeat (first | refine WK_go ?_ | refine W_seqL ?_ | refine W_seq ?_ | refine W_block ?_)
  refine W_regP [2] (by decide) ?_
  simp (maxSteps := 400000) (disch := omega) only [push_cast, ↓reduceIte, reduceCtorEq, Nat.reduceAdd, Nat.reduceSub, Nat.reduceEqDiff, Nat.reduceLeDiff, Nat.reduceLT, Nat.reduceBEq, Nat.reduceDiv, Nat.reduceMod, Nat.reducePow, Nat.reduceMul, Int.reduceToNat, Int.reduceLT, Int.reduceLE, chainP, List.take_succ_cons, List.take_zero, List.drop_succ_cons, List.drop_zero]
  refine ⟨rfl, trivial, Bx, dBx, cBx, [bx4], rfl, by omega, fun x _ => ⟨rfl, rfl⟩, rfl, ?_⟩
  refine ⟨_, le_frzR 19 [1, 2] [8] 20 12 0 54 7 dBx cBx [bx4] rfl rfl rfl rfl, ?_⟩
  simp (maxSteps := 400000) (disch := omega) only [push_cast, ↓reduceIte, reduceCtorEq, Nat.reduceAdd, Nat.reduceSub, Nat.reduceEqDiff, Nat.reduceLeDiff, Nat.reduceLT, Nat.reduceBEq, Nat.reduceDiv, Nat.reduceMod, Nat.reducePow, Nat.reduceMul, Int.reduceToNat, Int.reduceLT, Int.reduceLE, chainP, List.take_succ_cons, List.take_zero, List.drop_succ_cons, List.drop_zero]
  refine CallC.now c7 ?_
  (refine sy1 ?_; try exact True.intro)
  refine CallC.now c6 ?_
  (refine sy1 ?_; try exact True.intro)
  repeat (first | refine WK_go ?_ | refine W_seqL ?_ | refine W_seq ?_ | refine W_block ?_)
  refine W_regL ?_
  (refine sy1 ?_; try exact True.intro)
  refine CallC.now c15 ?_
  (refine sy1 ?_; try exact True.intro)
  repeat (first | refine WK_go ?_ | refine W_seqL ?_ | refine W_seq ?_ | refine W_block ?_)
  refine W_regP [4] (by decide) ?_
  simp (maxSteps := 400000) (disch := omega) only [push_cast, ↓reduceIte, reduceCtorEq, Nat.reduceAdd, Nat.reduceSub, Nat.reduceEqDiff, Nat.reduceLeDiff, Nat.reduceLT, Nat.reduceBEq, Nat.reduceDiv, Nat.reduceMod, Nat.reducePow, Nat.reduceMul, Int.reduceToNat, Int.reduceLT, Int.reduceLE, chainP, List.take_succ_cons, List.take_zero, List.drop_succ_cons, List.drop_zero]
  refine ⟨rfl, trivial, Pt, dQ, cPt, [⟨1, 0⟩, ⟨3, 0⟩, ⟨2, 0⟩], rfl, by omega, fun x _ => ⟨rfl, rfl⟩, rfl, ?_⟩
  refine ⟨_, le_frzR 33 [1, 2, 3, 4, 5, 6, 7] [8] 45 38 0 59 2 dQ cPt [⟨1, 0⟩, ⟨3, 0⟩, ⟨2, 0⟩] rfl rfl rfl rfl, ?_⟩
  simp (maxSteps := 400000) (disch := omega) only [push_cast, ↓reduceIte, reduceCtorEq, Nat.reduceAdd, Nat.reduceSub, Nat.reduceEqDiff, Nat.reduceLeDiff, Nat.reduceLT, Nat.reduceBEq, Nat.reduceDiv, Nat.reduceMod, Nat.reducePow, Nat.reduceMul, Int.reduceToNat, Int.reduceLT, Int.reduceLE, chainP, List.take_succ_cons, List.take_zero, List.drop_succ_cons, List.drop_zero]
  refine CallC.now c16 ?_
  (refine sy1 ?_; try exact True.intro)
  repeat' (first | refine w1g ?_ | refine w1l ?_ | refine w1q ?_ | refine w1b ?_ | refine w1p ?_ | ((first | refine w1r ?_ | refine w1k ?_ | refine w1e ?_); (refine sy1 ?_; try exact True.intro)) | refine an2 ?_ | fail)
  refine W_ret ⟨[_], ⟨rfl, rfl⟩, ?_⟩
  rfl
end Go.Proofs.Ytlegpipcmnnaoaa

namespace Go.Proofs.Ytlegpipcmnnaoaa
open Go Sy
set_option maxRecDepth 100000
set_option maxHeartbeats 8000000
set_option linter.unusedVariables false
set_option linter.unusedSimpArgs false
theorem car_ms (fr : Int) : msU (car fr).units = 16000 := rfl
end Go.Proofs.Ytlegpipcmnnaoaa

namespace Go.Proofs.Ytlegpipcmnnaoaa
open Go Sy
set_option maxRecDepth 100000
set_option maxHeartbeats 8000000
set_option linter.unusedVariables false
set_option linter.unusedSimpArgs false
theorem ce (fr : Int) : cV (car fr) = [stv carS, aU (car 1).units, iv fr, iv 1] := rfl
def sS (a0 a1 : Int) : Nat → Int
  | 0 => 0
  | 1 => a0 * 2
  | _ => a0 * 2 + a1 * 3
def sN : Nat → Int
  | 0 => 0
  | 1 => 2
  | _ => 5
theorem rest4 (fr : Int) (hf : fr = 0 ∨ fr = 1) (l : List Bx) (u : Int) (h : ∀ b ∈ l, OBx b) (hu : 0 ≤ u ∧ u ≤ 65535) : W Try.prog 145 Xn4_24 ⟨[(1, .v (.int .u16 u)), (7, .own 2 0), (9, iv (masV (crg l))), (10, iv (chkL (crg l))), (11, iv 16000)], [(2, .cells [stv carS, aU (car 1).units, iv fr, iv 1])], 40⟩ (Sy.Fin [RV.t 6] (bv true)) := by
  have z0 : ((0 : Int) != 0) = false := rfl
  by_cases hn : l = []
  · have e6 : chkL (crg l) = 6 := by rw [hn]; exact crg_nil
    rw [e6]
    repeat' (first | refine w1g ?_ | refine w1l ?_ | refine w1q ?_ | refine w1b ?_ | refine w1p ?_ | ((first | refine w1r ?_ | refine w1k ?_ | refine w1e ?_); (refine sy1 ?_; try exact True.intro)) | refine an2 ?_ | fail)
    refine W_cond (by rfl) (fun _ => ?_) (fun h => absurd h (by decide))
    repeat' (first | refine w1g ?_ | refine w1l ?_ | refine w1q ?_ | refine w1b ?_ | refine w1p ?_ | ((first | refine w1r ?_ | refine w1k ?_ | refine w1e ?_ | refine CallC.go _ (fun _ => ⟨trivial, fn9⟩) rfl ?_); (refine sy1 ?_; try exact True.intro)) | refine an2 ?_ | fail)
    exact W_ret ⟨[_], ⟨rfl, rfl⟩, rfl⟩
  obtain ⟨hok, hm⟩ := crg_ok h hn
  have e0 := chkL_ok hok
  rw [show masV (crg l) = smM (crg l).ps by unfold masV; rw [if_pos e0], e0]
  generalize smM (crg l).ps = m at *
  have hx : 0 ≤ u % 6001 ∧ u % 6001 ≤ 6000 := by omega
  have et : u.tmod 6001 = u % 6001 := Int.tmod_eq_emod_of_nonneg hu.1
  have c10 := fn10 (car fr) m 6000 (u % 6001) (car_gr fr)
  have c10' := fn10 (car fr) ((m + 1) / 2) 6000 (u % 6001) (car_gr fr)
  rw [ce] at c10 c10'
  have e2 : (m + 1).tdiv 2 = (m + 1) / 2 := Int.tdiv_eq_ediv_of_nonneg (by omega)
  have e3 := wrap_i64_tdiv (m + 1) 2 (by omega) (by omega) (by omega)
  rw [e2] at e3
  generalize hxx : u % 6001 = x at *
  have hw := weighed hf hm hx
  repeat' (first | refine w1g ?_ | refine w1l ?_ | refine w1q ?_ | refine w1b ?_ | refine w1p ?_ | ((first | refine w1r ?_ | refine w1k ?_ | refine w1e ?_); (refine sy1 ?_; try exact True.intro)) | refine an2 ?_ | fail)
  refine W_cond (by rfl) (fun h => absurd h (by decide)) (fun _ => ?_)
  rcases hw with hw | ⟨w1, w2, w3, w4, w5, w6, w7⟩
  · rw [hw] at c10
    repeat' (first | refine w1g ?_ | refine w1l ?_ | refine w1q ?_ | refine w1b ?_ | refine w1p ?_ | ((first | refine w1r ?_ | refine w1k ?_ | refine w1e ?_ | refine CallC.now (c10) ?_); simp (maxSteps := 400000) (disch := omega) only [push_cast, ↓reduceIte, reduceCtorEq, Nat.reduceAdd, Nat.reduceSub, Nat.reduceEqDiff, Nat.reduceLeDiff, Nat.reduceLT, Nat.reduceBEq, Nat.reduceDiv, Nat.reduceMod, Nat.reducePow, Nat.reduceMul, Int.reduceToNat, Int.reduceLT, Int.reduceLE, et]) | refine an2 ?_ | fail)
    refine W_cond (by rfl) (fun _ => ?_) (fun h => absurd h (by decide))
    repeat' (first | refine w1g ?_ | refine w1l ?_ | refine w1q ?_ | refine w1b ?_ | refine w1p ?_ | ((first | refine w1r ?_ | refine w1k ?_ | refine w1e ?_ | refine CallC.go _ (fun _ => ⟨trivial, fn9⟩) rfl ?_); (refine sy1 ?_; try exact True.intro)) | refine an2 ?_ | fail)
    exact W_ret ⟨[_], ⟨rfl, rfl⟩, rfl⟩
  rw [w1, axL_car w1] at c10
  rw [w2, axL_car w2] at c10'
  generalize each (car fr) m 6000 x 0 = a0 at *
  generalize each (car fr) m 6000 x 1 = a1 at *
  generalize each (car fr) ((m + 1) / 2) 6000 x 0 = d0 at *
  generalize each (car fr) ((m + 1) / 2) 6000 x 1 = d1 at *
  repeat' (first | refine w1g ?_ | refine w1l ?_ | refine w1q ?_ | refine w1b ?_ | refine w1p ?_ | ((first | refine w1r ?_ | refine w1k ?_ | refine w1e ?_ | refine CallC.now (c10) ?_); simp (maxSteps := 400000) (disch := omega) only [push_cast, ↓reduceIte, reduceCtorEq, Nat.reduceAdd, Nat.reduceSub, Nat.reduceEqDiff, Nat.reduceLeDiff, Nat.reduceLT, Nat.reduceBEq, Nat.reduceDiv, Nat.reduceMod, Nat.reducePow, Nat.reduceMul, Int.reduceToNat, Int.reduceLT, Int.reduceLE, et]) | refine an2 ?_ | fail)
  refine W_cond (by rfl) (fun h => absurd h (by decide)) (fun _ => ?_)
  have ul : (car 1).units.length = 2 := rfl
  repeat' (first | refine w1g ?_ | refine w1l ?_ | refine w1q ?_ | refine w1b ?_ | refine w1p ?_ | ((first | refine w1r ?_ | refine w1k ?_ | refine w1e ?_); simp (maxSteps := 400000) (disch := omega) only [push_cast, ↓reduceIte, reduceCtorEq, Nat.reduceAdd, Nat.reduceSub, Nat.reduceEqDiff, Nat.reduceLeDiff, Nat.reduceLT, Nat.reduceBEq, Nat.reduceDiv, Nat.reduceMod, Nat.reducePow, Nat.reduceMul, Int.reduceToNat, Int.reduceLT, Int.reduceLE, ul]) | refine an2 ?_ | fail)
  refine W_cond (by rfl) (fun h => absurd h (by decide)) (fun _ => ?_)
  have g0 : [a0, a1].getD 0 0 = a0 := rfl
  have g1 : [a0, a1].getD 1 0 = a1 := rfl
  have h0 : [d0, d1].getD 0 0 = d0 := rfl
  have h1 : [d0, d1].getD 1 0 = d1 := rfl
  have al : [a0, a1].length = 2 := rfl
  have dl : [d0, d1].length = 2 := rfl
  have u0 : (car 1).units.getD 0 dU = unL0 := rfl
  have u1 : (car 1).units.getD 1 dU = unL1 := rfl
  have x0 : unL0.axles.length = 2 := rfl
  have x1 : unL1.axles.length = 3 := rfl
  repeat' (first | refine w1g ?_ | refine w1l ?_ | refine w1q ?_ | refine w1b ?_ | refine w1p ?_ | ((first | refine w1r ?_ | refine w1k ?_ | refine w1e ?_); (refine sy1 ?_; try exact True.intro)) | refine an2 ?_ | fail)
  refine W_loopU (fun i : Nat => [(15, iv (sS a0 a1 i)), (16, iv (sN i)), (17, iv i)]) (fun i => []) (fun i => i ≤ 2) (fun i => 2 - i) 0 (by omega) (by rfl) (by rfl) (fun i hi => ?_)
  (refine sy1 ?_; try exact True.intro)
  repeat' (first | refine w1g ?_ | refine w1l ?_ | refine w1q ?_ | refine w1b ?_ | refine w1p ?_ | ((first | refine w1r ?_ | refine w1k ?_ | refine w1e ?_); simp (maxSteps := 400000) (disch := omega) only [push_cast, ↓reduceIte, reduceCtorEq, Nat.reduceAdd, Nat.reduceSub, Nat.reduceEqDiff, Nat.reduceLeDiff, Nat.reduceLT, Nat.reduceBEq, Nat.reduceDiv, Nat.reduceMod, Nat.reducePow, Nat.reduceMul, Int.reduceToNat, Int.reduceLT, Int.reduceLE, al]) | refine an2 ?_ | fail)
  refine W_condD (by rfl) (fun h5 => ?_) (fun h5 => ?_)
  · obtain rfl | rfl : i = 0 ∨ i = 1 := by omega
    · rw [show sS a0 a1 0 = 0 from rfl, show sN 0 = 0 from rfl, show ((0 : Nat) : Int) = 0 from rfl]
      repeat' (first | refine w1g ?_ | refine w1l ?_ | refine w1q ?_ | refine w1b ?_ | refine w1p ?_ | ((first | refine w1r ?_ | refine w1k ?_ | refine w1e ?_); simp (maxSteps := 400000) (disch := omega) only [push_cast, ↓reduceIte, reduceCtorEq, Nat.reduceAdd, Nat.reduceSub, Nat.reduceEqDiff, Nat.reduceLeDiff, Nat.reduceLT, Nat.reduceBEq, Nat.reduceDiv, Nat.reduceMod, Nat.reducePow, Nat.reduceMul, Int.reduceToNat, Int.reduceLT, Int.reduceLE, u0, x0, g0, ul, al]) | refine an2 ?_ | fail)
      refine ⟨1, by omega, by omega, by rfl, ?_⟩
      rw [show sS a0 a1 1 = a0 * 2 from rfl, show sN 1 = 2 from rfl]
      (refine syE ?_; try exact True.intro)
      exact ⟨by omega, by omega⟩
    · rw [show sS a0 a1 1 = a0 * 2 from rfl, show sN 1 = 2 from rfl, show ((1 : Nat) : Int) = 1 from rfl]
      repeat' (first | refine w1g ?_ | refine w1l ?_ | refine w1q ?_ | refine w1b ?_ | refine w1p ?_ | ((first | refine w1r ?_ | refine w1k ?_ | refine w1e ?_); simp (maxSteps := 400000) (disch := omega) only [push_cast, ↓reduceIte, reduceCtorEq, Nat.reduceAdd, Nat.reduceSub, Nat.reduceEqDiff, Nat.reduceLeDiff, Nat.reduceLT, Nat.reduceBEq, Nat.reduceDiv, Nat.reduceMod, Nat.reducePow, Nat.reduceMul, Int.reduceToNat, Int.reduceLT, Int.reduceLE, u1, x1, g1, ul, al]) | refine an2 ?_ | fail)
      refine ⟨2, by omega, by omega, by rfl, ?_⟩
      rw [show sS a0 a1 2 = a0 * 2 + a1 * 3 from rfl, show sN 2 = 5 from rfl]
      (refine syE ?_; try exact True.intro)
      exact ⟨by omega, by omega, by omega⟩
  · obtain rfl : i = 2 := by omega
    rw [show sS a0 a1 2 = a0 * 2 + a1 * 3 from rfl, show sN 2 = 5 from rfl]
    repeat' (first | refine w1g ?_ | refine w1l ?_ | refine w1q ?_ | refine w1b ?_ | refine w1p ?_ | ((first | refine w1r ?_ | refine w1k ?_ | refine w1e ?_); (refine sy1 ?_; try exact True.intro)) | refine an2 ?_ | fail)
    refine W_cond (by rfl) (fun h => ?_) (fun _ => ?_)
    · rw [Bool.or_eq_true, decide_eq_true_eq, decide_eq_true_eq] at h; omega
    repeat' (first | refine w1g ?_ | refine w1l ?_ | refine w1q ?_ | refine w1b ?_ | refine w1p ?_ | ((first | refine w1r ?_ | refine w1k ?_ | refine w1e ?_ | refine CallC.now (c10') ?_ | refine CallC.go _ (fun _ => ⟨trivial, fn9⟩) rfl ?_); simp (maxSteps := 400000) (disch := omega) only [push_cast, ↓reduceIte, reduceCtorEq, Nat.reduceAdd, Nat.reduceSub, Nat.reduceEqDiff, Nat.reduceLeDiff, Nat.reduceLT, Nat.reduceBEq, Nat.reduceDiv, Nat.reduceMod, Nat.reducePow, Nat.reduceMul, Int.reduceToNat, Int.reduceLT, Int.reduceLE, e2, e3, g0, g1, h0, h1]) | refine an2 ?_ | fail)
    rw [decide_eq_true w6, decide_eq_true w7]
    exact W_ret ⟨[_], ⟨rfl, rfl⟩, rfl⟩
theorem fn4 (l : List Bx) (u : Int) (b : Bool) (hl : l.length ≤ 140737488355328) (h : ∀ b ∈ l, OBx b) (hu : 0 ≤ u ∧ u ≤ 65535) : Sy.Fn Try.prog 4 [aBx l, .v (.int .u16 u), bv b] (bv true) := by
  refine Fn_of_W mixed Xt4 rfl ?_
  have c7 := fn7 l hl h
  have hlen := crg_len l
  have c6 := fn6 (crg l) (by omega) (by simp [crg])
  have c8 := fn8 (car 1) (car_gr 1) car_ok1
  have c80 := fn8 (car 0) (car_gr 0) car_ok0
  rw [car_ms] at c8 c80
  rw [ce] at c8 c80
  have ce1 := ce 1
  have cl : cLd (crg l) = [tx crgS, aPc (crg l).ps, aEy [], iv 300] := rfl
  repeat' (first | refine w1g ?_ | refine w1l ?_ | refine w1q ?_ | refine w1b ?_ | refine w1p ?_ | ((first | refine w1r ?_ | refine w1k ?_ | refine w1e ?_ | refine CallC.now (fn5) ?_); simp (maxSteps := 400000) (disch := omega) only [push_cast, ↓reduceIte, reduceCtorEq, Nat.reduceAdd, Nat.reduceSub, Nat.reduceEqDiff, Nat.reduceLeDiff, Nat.reduceLT, Nat.reduceBEq, Nat.reduceDiv, Nat.reduceMod, Nat.reducePow, Nat.reduceMul, Int.reduceToNat, Int.reduceLT, Int.reduceLE, ce1]) | refine an2 ?_ | fail)
  refine W_cond (by rfl) (fun hb => ?_) (fun hb => ?_)
  · repeat' (first | refine w1g ?_ | refine w1l ?_ | refine w1q ?_ | refine w1b ?_ | refine w1p ?_ | ((first | refine w1r ?_ | refine w1k ?_ | refine w1e ?_ | refine CallC.now (c7) ?_ | refine CallC.now (c6) ?_ | refine CallC.now (c80) ?_); (refine sy1 ?_; try exact True.intro)) | refine an2 ?_ | fail)
    refine W_cond (by rfl) (fun h => absurd h (by decide)) (fun _ => ?_)
    refine W_skip ?_
    (refine sy1 ?_; try exact True.intro)
    refine WK_go ?_
    refine W_le (le_to [1, 7, 9, 10, 11] [2] 40 rfl rfl) ?_
    exact rest4 0 (.inl rfl) l u h hu
  · repeat' (first | refine w1g ?_ | refine w1l ?_ | refine w1q ?_ | refine w1b ?_ | refine w1p ?_ | ((first | refine w1r ?_ | refine w1k ?_ | refine w1e ?_ | refine CallC.now (c7) ?_ | refine CallC.now (c6) ?_ | refine CallC.now (c8) ?_); (refine sy1 ?_; try exact True.intro)) | refine an2 ?_ | fail)
    refine W_cond (by rfl) (fun h => absurd h (by decide)) (fun _ => ?_)
    refine W_skip ?_
    (refine sy1 ?_; try exact True.intro)
    refine WK_go ?_
    refine W_le (le_to [1, 7, 9, 10, 11] [2] 40 rfl rfl) ?_
    exact rest4 1 (.inr rfl) l u h hu
end Go.Proofs.Ytlegpipcmnnaoaa

namespace Go.Proofs.Ytlegpipcmnnaoaa
open Go Sy Go.ChangeShapes Go.WideShapes Go.RowKit
set_option maxRecDepth 100000
set_option linter.unusedVariables false
theorem own : ownKnob Try.prog.godebug = none := by kernel_rfl
theorem laidOut : laidOutB Try.prog = true := by kernel_rfl
theorem walk4 (W : World) (v0 v1 v2 : Value) (l : List Bx) (u : Int) (b : Bool) (h0 : fsat (inW W) W (aBx l) v0) (h1 : fsat (inW W) W (.v (.int .u16 u)) v1) (h2 : fsat (inW W) W (bv b) v2) (ol : l.length * 8 ≤ 140737488351232 ∧ ∀ b ∈ l, OBx b) (ou : 0 ≤ u ∧ u ≤ 65535) (ob : True) :
    Calls Try.prog 4 #[v0, v1, v2] W fun e w' => e = .returned (.bool true) ∧ Below W.heap.size W w' := by
  have hf : Sy.Fn Try.prog 4 [aBx l, .v (.int .u16 u), bv b] (bv true) := fn4 l u b (by have := ol.1; omega) ol.2 ou
  refine (hf.2 (inW W) W [v0, v1, v2] (fun b hb => hb) ?_).mono ?_
  · simp only [fsatT]
    exact ⟨v0, _, rfl, h0, v1, _, rfl, h1, v2, _, rfl, h2, rfl⟩
  · rintro e w' ⟨v, rfl, hb, hv⟩
    simp only [fsat] at hv
    exact ⟨by rw [hv], hb⟩
theorem lifted4 (os : Os) (started : os.Started) (H : Type) (enc : TypeId × Value → H) :
    ReturnsInHanded {} Try.checked os 4 .any (Rows.topWeighedSpec.pre6 enc Try.prog Try.f4 Rows.topWeighedRow.domain false) (Rows.topWeighedSpec.post enc Try.prog Try.f4 false true false false) := by
  refine returnsInHanded_of_change_sized (C := Try.checked) own started (by kernel_rfl) Try.func4
    (ChangeSpec.witness6 (enc := enc) (C := Try.checked) false ⟨#[], #[.slice none 0 0, .int .u16 0, .bool false], []⟩ 8 (by kernel_rfl) (by kernel_rfl) (by kernel_rfl) (by kernel_rfl)) ?_
  intro W base args ds gs before hval0 hW hcnd hsz _
  have hval : ∀ (j : Nat) t v, Try.f4.params[j]? = some t → args[j]? = some v → Value.okWide Try.prog W .any base t v := hval0
  have hW' := hW
  obtain ⟨p, q, hA0, hV, rfl, hfz, hnd⟩ := hW
  have hA : DataW.TrodAll enc Try.prog W 0 (fun _ => true) true Try.f4.params.toList args.toList ds p := hA0
  rw [Try.params4] at hA hval
  obtain ⟨v0, vs0, d0, ds0, p0, q0, hargs, rfl, rfl, h0, r0⟩ := trodAll_cons hA
  obtain ⟨v1, vs1, d1, ds1, p1, q1, rfl, rfl, rfl, h1, r1⟩ := trodAll_cons r0
  obtain ⟨v2, vs2, d2, ds2, p2, q2, rfl, rfl, rfl, h2, r2⟩ := trodAll_cons r1
  obtain ⟨rfl, rfl, rfl⟩ := trodAll_nil r2
  obtain rfl : args = #[v0, v1, v2] := by cases args; simp_all
  obtain ⟨rfl, rfl⟩ := trodVars_none hV
  have hs : ∀ (j : Nat) t (d : DataW H), [22, 23, 4][j]? = some t → [d0, d1, d2][j]? = some d → ∀ n ∈ d.weights Try.prog t, n ≤ reachBytes := fun j t d ht hd n hn => by
    have hall := List.all_eq_true.1 hsz n (DataW.weights_mem_each (j := j) (t := t) (d := d) (by rw [Try.params4]; simpa using (List.getElem?_append_left (l₂ := _) (by have := (List.getElem?_eq_some_iff.1 ht).1; simpa using this)).trans ht) (by simpa using (List.getElem?_append_left (l₂ := _) (by have := (List.getElem?_eq_some_iff.1 hd).1; simpa using this)).trans hd) n hn)
    simpa using hall
  have lt0 : ∀ x ∈ p0, x.block < W.heap.size := by obtain ⟨m, hm⟩ := h0; exact DataW.trod_lt m _ _ _ hm
  have lt1 : ∀ x ∈ p1, x.block < W.heap.size := by obtain ⟨m, hm⟩ := h1; exact DataW.trod_lt m _ _ _ hm
  have lt2 : ∀ x ∈ p2, x.block < W.heap.size := by obtain ⟨m, hm⟩ := h2; exact DataW.trod_lt m _ _ _ hm
  obtain ⟨l, ol, s0⟩ := k22.arg1 (by kernel_rfl) (hval 0 22 v0 rfl rfl) h0 (hs 0 22 d0 rfl rfl)
  obtain ⟨u, ou, s1⟩ := k23.arg1 (by kernel_rfl) (hval 1 23 v1 rfl rfl) h1 (hs 1 23 d1 rfl rfl)
  obtain ⟨b, ob, s2⟩ := k4.arg1 (by kernel_rfl) (hval 2 4 v2 rfl rfl) h2 (hs 2 4 d2 rfl rfl)
  clear hA0 hval0
  refine (walk4 W v0 v1 v2 l u b s0 s1 s2 ol ou ob).mono fun e W' ⟨he, bel⟩ => ?_
  subst he
  exact ⟨_, rfl, _, _, _, [], _, [], hW', trodAll_mk1 (shut_bool Try.underlying4 _), (trodAll_cons_mk (Below.trod laidOut (by kernel_rfl) (of_decide_eq_true (by kernel_rfl)) h0 bel lt0) (trodAll_cons_mk (Below.trod laidOut (by kernel_rfl) (of_decide_eq_true (by kernel_rfl)) h1 bel lt1) (trodAll_cons_mk (Below.trod laidOut (by kernel_rfl) (of_decide_eq_true (by kernel_rfl)) h2 bel lt2) trodAll_mk0))), rfl, bel.frame _, fun h => by cases h⟩
theorem over4 : Rows.topWeighedRow.holds Try.pinned (OpenSpec.ofChange Rows.topWeighedSpec) :=
  OpenClaim.holds_of_wide 4 Try.f4 rfl rfl rfl rfl rfl rfl rfl ⟨rfl, rfl, rfl, rfl, rfl⟩ rfl rfl rfl rfl rfl (by kernel_rfl) Try.func4 (by kernel_rfl)
    (of_decide_eq_true (by kernel_rfl)) (by unfold Func.isWrapper; first | (rw [if_pos (by decide +kernel)]; kernel_rfl) | (rw [if_neg (by decide +kernel)]; exact ⟨rfl, rfl⟩))
    (fun os started H enc _ => lifted4 os started H enc)
theorem top_weighed_holds : Rows.TopWeighedSaid := over4
end Go.Proofs.Ytlegpipcmnnaoaa

