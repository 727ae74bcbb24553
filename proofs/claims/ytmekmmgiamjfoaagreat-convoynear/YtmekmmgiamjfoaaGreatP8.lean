/- Part 8 of the proof of: If a track is right, each of its points is near the guide, whatever the input. -/
import Derived.Test.YtmekmmgiamjfoaaGreatP7
namespace Go.Proofs.YtmekmmgiamjfoaaGreat.U
open Go Sy
set_option maxRecDepth 100000
set_option maxHeartbeats 8000000
set_option linter.unusedVariables false
set_option linter.unusedSimpArgs false
def crX (m : Int) (p : Pt) (k : Nat) : Int:=p.x + m * (2 * ((k % 2 : Nat) : Int) - 1)
def crY (m : Int) (p : Pt) (k : Nat) : Int:=p.y + m * (2 * ((k / 2 : Nat) : Int) - 1)
def crV (a b p : Pt) (m : Int) (k : Nat) : Int:=(b.x - a.x) * (crY m p k - a.y) - (b.y - a.y) * (crX m p k - a.x)
def nrO (a b p : Pt) (m : Int) : Bool:=decide (max a.x b.x < p.x - m) || decide (p.x + m < min a.x b.x) || decide (max a.y b.y < p.y - m) || decide (p.y + m < min a.y b.y)
def nrP (a b p : Pt) (m : Int) (k : Nat) : Bool:=(List.range k).any fun j=>decide (0 ≤ crV a b p m j)
def nrN (a b p : Pt) (m : Int) (k : Nat) : Bool:=(List.range k).any fun j=>decide (crV a b p m j ≤ 0)
def nearV (a b p : Pt) (m : Int) : Bool:=!nrO a b p m && (nrP a b p m 4 && nrN a b p m 4)
theorem nrP_succ (a b p : Pt) (m : Int) (k : Nat) : nrP a b p m (k + 1) = (nrP a b p m k || decide (0 ≤ crV a b p m k)):=by
 unfold nrP;rw [List.range_succ,List.any_append];simp
theorem nrN_succ (a b p : Pt) (m : Int) (k : Nat) : nrN a b p m (k + 1) = (nrN a b p m k || decide (crV a b p m k ≤ 0)):=by
 unfold nrN;rw [List.range_succ,List.any_append];simp
theorem fn37 (a b p : Pt) (m : Int) (ha : okQ a = true) (hb : okQ b = true) (hp : okQ p = true) (hm : 0 ≤ m ∧ m ≤ 16777216) : Sy.Fn Tryz.prog 37 [.agg (cPt a),.agg (cPt b),.agg (cPt p),iv m] (bv (nearV a b p m)):=by
 refine Fn_of_W mixed Xt37 rfl ?_
 unfold okQ at ha hb hp
 rw [Bool.and_eq_true] at ha hb hp
 have ha1:=inR_iff.1 ha.1
 have ha2:=inR_iff.1 ha.2
 have hb1:=inR_iff.1 hb.1
 have hb2:=inR_iff.1 hb.2
 have hp1:=inR_iff.1 hp.1
 have hp2:=inR_iff.1 hp.2
 (refine go0 ?_;try exact tTI)
 have eO : nrO a b p m = (decide (max a.x b.x < p.x - m) || decide (p.x + m < min a.x b.x) || decide (max a.y b.y < p.y - m) || decide (p.y + m < min a.y b.y)):=rfl
 rw [← eO]
 have eV : nearV a b p m = (!nrO a b p m && (nrP a b p m 4 && nrN a b p m 4)):=rfl
 generalize nrO a b p m = O at *
 refine W_cond (by rfl) (fun h=>?_) (fun h=>?_)
 ·rw [h] at eV
  rw [eV]
  (refine go0 ?_;try exact tTI)
  exact W_ret ⟨[_],⟨rfl,rfl⟩,rfl⟩
 rw [h] at eV
 (refine go0 ?_;try exact tTI)
 refine W_loopU (fun k : Nat=>[(11,iv k),(9,bv (nrP a b p m k)),(10,bv (nrN a b p m k))]) (fun k=>[]) (fun k=>k ≤ 4) (fun k=>4 - k) 0 (by omega) (by rfl) (by rfl) (fun k hk=>?_)
 (refine sy1 ?_;try exact tTI)
 (refine go0 ?_;try exact tTI)
 refine W_condD (by rfl) (fun h2=>?_) (fun h2=>?_)
 ·have s1:=nrP_succ a b p m k
  have s2:=nrN_succ a b p m k
  generalize nrP a b p m k = U at *
  generalize nrN a b p m k = V at *
  have e2 : (k : Int).tmod 2 = ((k % 2 : Nat) : Int):=by rw [Int.tmod_eq_emod_of_nonneg (by omega)];omega
  have e3 : (k : Int).tdiv 2 = ((k / 2 : Nat) : Int):=by rw [Int.tdiv_eq_ediv_of_nonneg (by omega)];omega
  have hV : crV a b p m k = (b.x - a.x) * (crY m p k - a.y) - (b.y - a.y) * (crX m p k - a.x):=rfl
  have hX : crX m p k = p.x + m * (2 * ((k % 2 : Nat) : Int) - 1):=rfl
  have hY : crY m p k = p.y + m * (2 * ((k / 2 : Nat) : Int) - 1):=rfl
  obtain ⟨i,hi⟩ : ∃ i : Int,((k % 2 : Nat) : Int) = i:=⟨_,rfl⟩
  obtain ⟨j,hj⟩ : ∃ j : Int,((k / 2 : Nat) : Int) = j:=⟨_,rfl⟩
  have hi2 : i = 0 ∨ i = 1:=by omega
  have hj2 : j = 0 ∨ j = 1:=by omega
  rw [hi] at e2 hX
  rw [hj] at e3 hY
  have f1 : -16777216 ≤ m * (2 * i - 1) ∧ m * (2 * i - 1) ≤ 16777216:=by rcases hi2 with rfl | rfl <;> omega
  have f2 : -16777216 ≤ m * (2 * j - 1) ∧ m * (2 * j - 1) ≤ 16777216:=by rcases hj2 with rfl | rfl <;> omega
  have f3 : -33554432 ≤ crX m p k ∧ crX m p k ≤ 33554432:=by rw [hX];omega
  have f4 : -33554432 ≤ crY m p k ∧ crY m p k ≤ 33554432:=by rw [hY];omega
  generalize crX m p k = X at *
  generalize crY m p k = Y at *
  have m1:=abs_mul (show -67108864 ≤ b.x - a.x ∧ b.x - a.x ≤ 67108864 by omega) (show -67108864 ≤ Y - a.y ∧ Y - a.y ≤ 67108864 by omega)
  have m2:=abs_mul (show -67108864 ≤ b.y - a.y ∧ b.y - a.y ≤ 67108864 by omega) (show -67108864 ≤ X - a.x ∧ X - a.x ≤ 67108864 by omega)
  repeat' (first | refine w1g ?_ | refine w1l ?_ | refine w1q ?_ | refine w1b ?_ | refine w1p ?_ | ((first | refine w1r ?_ | refine w1k ?_ | refine w1e ?_);simp (maxSteps:=400000) (disch:=omega) only [push_cast,↓reduceIte,reduceCtorEq,Nat.reduceAdd,Nat.reduceSub,Nat.reduceEqDiff,Nat.reduceLeDiff,Nat.reduceLT,Nat.reduceBEq,Nat.reduceDiv,Nat.reduceMod,Nat.reducePow,Nat.reduceMul,Int.reduceToNat,Int.reduceLT,Int.reduceLE,e2,e3,← hX,← hY]) | refine an2 ?_ | fail)
  refine ⟨k + 1,by omega,by omega,by rfl,?_⟩
  rw [← hV,s1,s2]
  rfl
 ·obtain rfl : k = 4:=by omega
  (refine go0 ?_;try exact tTI)
  refine W_ret ⟨[_],⟨rfl,rfl⟩,?_⟩
  rw [eV]
  rfl
theorem near_v {a b p : Pt} {m : Int} (h : nearB a b p m) : nearV a b p m = true:=by
 obtain ⟨h1,h2,h3,h4,⟨q,hq,h5⟩,r,hr,h6⟩:=h
 have key : ∀ q ∈ gr4 m p,∃ k,k < 4 ∧ crs a b q = crV a b p m k:=fun q hq=>by
  simp only [gr4,List.mem_cons,List.not_mem_nil,or_false] at hq
  rcases hq with rfl | rfl | rfl | rfl
  ·refine ⟨0,by omega,?_⟩
   unfold crs crV crX crY
   simp
  ·refine ⟨2,by omega,?_⟩
   unfold crs crV crX crY
   simp
  ·refine ⟨1,by omega,?_⟩
   unfold crs crV crX crY
   simp
  ·refine ⟨3,by omega,?_⟩
   unfold crs crV crX crY
   simp
 unfold nearV nrO
 rw [decide_eq_false h1,decide_eq_false h2,decide_eq_false h3,decide_eq_false h4]
 obtain ⟨k1,e1,e2⟩:=key q hq
 obtain ⟨k2,e3,e4⟩:=key r hr
 have a1 : nrP a b p m 4 = true:=List.any_eq_true.2 ⟨k1,List.mem_range.2 e1,by rw [← e2];exact decide_eq_true h5⟩
 have a2 : nrN a b p m 4 = true:=List.any_eq_true.2 ⟨k2,List.mem_range.2 e3,by rw [← e4];exact decide_eq_true h6⟩
 rw [a1,a2]
 rfl
end Go.Proofs.YtmekmmgiamjfoaaGreat.U
