/- Part 12 of the proof of: For every input the law TopOnGuide returns true: a point of a guide at a length is hardly off it, a track of such points is right, and one that is moved too far is refused. -/
import Derived.Test.YtgiedelaebdooaaGreatP11
namespace Go.Proofs.YtgiedelaebdooaaGreat.R
open Go Sy
set_option maxRecDepth 100000
set_option maxHeartbeats 8000000
set_option linter.unusedVariables false
set_option linter.unusedSimpArgs false
theorem fn132 (l : List Tr) (fs : List Fx) (hl : l.length ≤ 140737488355328) (hf : fs.length ≤ 140737488355328) (h1 : ∀ t ∈ l,OTr t) (h2 : ∀ x ∈ fs,OFx x) : Sy.Fn Tryz.prog 132 [aTr l,aFx fs] (aM (atl l fs)):=by
 refine Fn_of_W mixed Xt132 rfl ?_
 (refine go0 ?_;try exact tTI)
 refine W_le (le_adoptC 2 1 358 12 dR cR (by omega) _ rfl rfl (by simp)) ?_
 (refine sy1 ?_;try exact tTI)
 refine W_le (le_adoptC 2 2 363 4 dW cW (by omega) _ rfl rfl (by simp)) ?_
 (refine sy1 ?_;try exact tTI)
 refine W_loopU (fun i : Nat=>[(6,iv i)]) (fun i=>[(2,.cells [iv 5,.row 5 i,.row 6 0]),(5,.row i 358 12 dR cR ((l.take i).map rdT))]) (fun i=>i ≤ 12 ∧ i ≤ l.length) (fun i=>12 - i) 0 ⟨by omega,by omega⟩ (by rfl) (by rfl) (fun i hi=>?_)
 obtain ⟨h12,hi⟩:=hi
 (refine sy1 ?_;try exact tTI)
 (refine go0 ?_;try exact tTI)
 refine W_cond (by rfl) (fun h5=>?_) (fun h5=>?_)
 ·rw [Bool.and_eq_true,decide_eq_true_eq,decide_eq_true_eq] at h5
  have hlt : i < l.length:=by omega
  have hb:=h1 _ (getD_mem' dTr l i hlt)
  have ht : l.take (i + 1) = l.take i ++ [l.getD i dTr]:=by
   rw [List.take_succ_eq_append_getElem hlt]
   simp [List.getD,hlt]
  generalize hq : l.getD i dTr = b at *
  obtain ⟨b1,b2,b3,b4,b5,b6,b7,b8⟩:=hb
  have e1 : b.f.tmod 5 = b.f % 5:=Int.tmod_eq_emod_of_nonneg b1.1
  have e2 : b.t.tmod 4 = b.t % 4:=Int.tmod_eq_emod_of_nonneg b2.1
  have e3 : b.c.tmod 50 = b.c % 50:=Int.tmod_eq_emod_of_nonneg b3.1
  have e4 : (b.f % 5 + 1 + b.t % 4).tmod 5 = (b.f % 5 + 1 + b.t % 4) % 5:=Int.tmod_eq_emod_of_nonneg (by omega)
  (refine gof (ad5 hq e1 e2 e3 e4) ?_;try exact tTI)
  refine ⟨rfl,trivial,Rd,dR,cR,[rdT b],rfl,by omega,fun x _=>⟨rfl,rfl⟩,rfl,?_⟩
  (refine sy1 ?_;try exact tTI)
  refine ⟨rfl,⟨Nat.le_of_ble_eq_true rfl,rfl⟩,trivial,[rdT b],rfl,by first | omega | (simp;omega),by first | omega | (simp;omega),?_⟩
  (refine sy1 ?_;try exact tTI)
  (refine go0 ?_;try exact tTI)
  refine ⟨i + 1,⟨by omega,by omega⟩,by omega,by rfl,?_⟩
  rw [ht,List.map_append]
  (refine syE ?_;try exact tTI)
 ·rw [Bool.and_eq_false_iff,decide_eq_false_iff_not,decide_eq_false_iff_not] at h5
  have e : (l.take i).map rdT = rdA l:=by
   unfold rdA
   rcases (show i = 12 ∨ i = l.length by omega) with rfl | rfl
   ·rfl
   ·rw [List.take_length,List.take_of_length_le (by omega)]
  have en : (rdA l).length = i:=by rw [← e];simp;omega
  rw [e,← en]
  have hR : (rdA l).length ≤ 12:=by omega
  have eA : aM (atl l fs) = .agg [iv 5,aR (rdA l),aW (wkA (rdA l).length fs)]:=rfl
  rw [eA]
  clear eA
  generalize rdA l = RA at *
  (refine go0 ?_;try exact tTI)
  refine W_loopU (fun i : Nat=>[(9,iv i)]) (fun i=>[(2,.cells [iv 5,.row 5 RA.length,.row 6 i]),(6,.row i 363 4 dW cW ((fs.take i).map (wkF RA.length)))]) (fun i=>i ≤ 4 ∧ i ≤ fs.length ∧ (RA.length = 0 → i = 0)) (fun i=>4 - i) 0 ⟨by omega,by omega,fun _=>rfl⟩ (by rfl) (by rfl) (fun i hi=>?_)
  obtain ⟨h4,hi,hn0⟩:=hi
  (refine sy1 ?_;try exact tTI)
  (refine go0 ?_;try exact tTI)
  refine W_cond (by rfl) (fun h5=>?_) (fun h5=>?_)
  ·rw [Bool.and_eq_true,Bool.and_eq_true,decide_eq_true_eq,decide_eq_true_eq,decide_eq_true_eq] at h5
   have hlt : i < fs.length:=by omega
   have hb:=h2 _ (getD_mem' dFx fs i hlt)
   have ht : fs.take (i + 1) = fs.take i ++ [fs.getD i dFx]:=by
    rw [List.take_succ_eq_append_getElem hlt]
    simp [List.getD,hlt]
   generalize hq : fs.getD i dFx = b at *
   obtain ⟨b1,b2,b3,b4⟩:=hb
   have e1 : b.k.tmod 3 = b.k % 3:=Int.tmod_eq_emod_of_nonneg b2.1
   (refine gof (ad2 hq e1) ?_;try exact tTI)
   have ek:=nth_kd b2.1
   simp only [ek]
   refine ⟨trivial,?_⟩
   have hwl : ((fs.take i).map (wkF RA.length)).length = i:=by simp;omega
   refine t46 fs RA _ i b ⟨b1,b2,b3,b4⟩ ⟨by omega,hR⟩ hwl (by omega) ?_
   unfold fM fW fC
   (refine sy1 ?_;try exact tTI)
   (refine go0 ?_;try exact tTI)
   refine ⟨i + 1,⟨by omega,by omega,fun z=>by omega⟩,by omega,by rfl,?_⟩
   rw [ht,List.map_append]
   (refine syE ?_;try exact tTI)
  ·rw [Bool.and_eq_false_iff,Bool.and_eq_false_iff,decide_eq_false_iff_not,decide_eq_false_iff_not,decide_eq_false_iff_not] at h5
   have e2 : (fs.take i).map (wkF RA.length) = wkA RA.length fs:=by
    unfold wkA
    by_cases q : RA.length = 0
    ·rw [if_pos q,hn0 q];rfl
    ·rw [if_neg q]
     rcases (show i = 4 ∨ i = fs.length by omega) with rfl | rfl
     ·rfl
     ·rw [List.take_length,List.take_of_length_le (by omega)]
   rw [e2]
   (refine go0 ?_;try exact tTI)
   refine W_ret ⟨[_],⟨⟨by simp,rfl⟩,rfl⟩,?_⟩
   (refine syP ?_;try exact tTI)
end Go.Proofs.YtgiedelaebdooaaGreat.R
