/- Part 13 of the proof of: For every input the law TopOnGuide returns true: a point of a guide at a length is hardly off it, a track of such points is right, and one that is moved too far is refused. -/
import Derived.Test.YtgiedelaebdooaaGreatP12
namespace Go.Proofs.YtgiedelaebdooaaGreat
open Go Sy
set_option maxRecDepth 100000
set_option maxHeartbeats 8000000
set_option linter.unusedVariables false
set_option linter.unusedSimpArgs false
def exT : R.Tr:=⟨0,0,9,255,255,255,0,255⟩
def exA : R.Mp:=R.atl [exT] []
def exZ (k : Nat) : Int:=0
theorem exA_chV : R.chV exA exZ 0 1 = some ([],10):=by kernel_rfl
theorem exA_chE : R.chE exA exZ 0 1 = 0:=by kernel_rfl
theorem exA_way : R.wayS exA exZ 0 1 [] = [0]:=by kernel_rfl
theorem exA_min : R.minL exA [0] = 19:=by kernel_rfl
theorem exA_fn : Sy.Fn Tryz.prog 132 [R.aTr [exT],.v (.slice none 0 0)] (R.aM exA):=by
 have h:=R.fn132 [exT] [] (by simp) (by simp) (fun t ht=>by
  rw [List.mem_singleton] at ht
  rw [ht]
  exact ⟨by decide,by decide,by decide,by decide,by decide,by decide,by decide,by decide⟩) (fun x hx=>by cases hx)
 exact Fn_nil (pre:=[R.aTr [exT]]) (rest:=[]) h
theorem fn65 : Sy.Fn Tryz.prog 65 [] (bv true):=by
 refine Fn_of_W mixed Xt65 rfl ?_
 have c8:=exA_fn
 have c9:=R.fn133 exA exZ 0 1 (R.atl_gm _ _)
 rw [exA_chV,exA_chE] at c9
 have e : R.rtC exA exZ 0 1 (some ([],10)) = R.cRt [0] [] 10 19:=by
  show R.cRt (R.wayS exA exZ 0 1 []) [] 10 (R.minL exA (R.wayS exA exZ 0 1 [])) = _
  rw [exA_way,exA_min]
 rw [e] at c9
 have c9 : Sy.Fn Tryz.prog 133 [R.aM exA,.agg [iv 0,iv 0,iv 0,iv 0,iv 0,iv 0],iv 0,iv 1] (.tup [.agg [R.aI [0],R.aI [],iv 10,iv 19],iv 0]):=c9
 have c134:=fn134
 repeat (first | refine WK_go ?_ | refine W_seqL ?_ | refine W_seq ?_ | refine W_block ?_)
 refine W_regL ?_
 (refine sy1 ?_;try exact tTI)
 repeat (first | refine WK_go ?_ | refine W_seqL ?_ | refine W_seq ?_ | refine W_block ?_)
 refine W_regP [2] (by decide) ?_
 (refine sCP ?_;try exact tTI)
 refine ⟨rfl,trivial,R.Tr,R.dTr,R.cTr,[exT],rfl,by omega,fun x _=>⟨rfl,rfl⟩,rfl,?_⟩
 refine ⟨_,le_frzR 5 [] [] 10 2 0 296 8 R.dTr R.cTr [exT] rfl rfl rfl rfl,?_⟩
 (refine sCP ?_;try exact tTI)
 refine CallC.now c8 ?_
 (refine sy1 ?_;try exact tTI)
 repeat' (first | refine w1g ?_ | refine w1l ?_ | refine w1q ?_ | refine w1b ?_ | refine w1p ?_ | ((first | refine w1r ?_ | refine w1k ?_ | refine w1e ?_ | refine CallC.now (c9) ?_ | refine CallC.go _ (fun _=>⟨trivial,c134⟩) rfl ?_);simp (maxSteps:=400000) (disch:=omega) only [push_cast,↓reduceIte,reduceCtorEq,Nat.reduceAdd,Nat.reduceSub,Nat.reduceEqDiff,Nat.reduceLeDiff,Nat.reduceLT,Nat.reduceBEq,Nat.reduceDiv,Nat.reduceMod,Nat.reducePow,Nat.reduceMul,Int.reduceToNat,Int.reduceLT,Int.reduceLE,beq_self_eq_true]) | refine an2 ?_ | fail)
 exact W_ret ⟨[_],⟨rfl,rfl⟩,rfl⟩
end Go.Proofs.YtgiedelaebdooaaGreat
