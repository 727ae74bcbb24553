/- Part 7 of the proof of: If a track is right, each of its points is near the guide, whatever the input. -/
import Derived.Test.YtmekmmgiamjfoaaGreatP6
namespace Go.Proofs.YtmekmmgiamjfoaaGreat.U
open Go Sy
set_option maxRecDepth 100000
set_option maxHeartbeats 4000000
set_option linter.unusedVariables false
set_option linter.unusedSimpArgs false
abbrev rQ (st : Nat) (l : List Pt) : Blk:=.row st 92 2 dQ cPt l
theorem w229 {M : List (Nat × Blk)} {k st nx : Nat} {gc : Nat} {ca : List AV} {lt : Pt → Pt → Bool} {cv : Pt → Pt → Int} (hw : SW lt) (hfz : frzAll ca = true) (hcv : ∀ x y,lt x y = decide (cv x y < 0))
  (hg : ∀ x y,Sy.Fn Tryz.prog gc (.agg (cPt x) :: .agg (cPt y) :: ca) (iv (cv x y))) (P U Q : List Pt) (hlen : P.length + U.length + Q.length ≤ 1000000) (hk : k < nx) (hfr : ∀ j,nx ≤ j → lm M j = none) :
  W Tryz.prog 53 Xn229_0 ⟨initT 0 [.row k st,iv P.length,iv (P.length + U.length),.clo gc [] ca],setm M k (rQ st (P ++ (U ++ Q))),nx⟩
   (fun e s'=>(e = .n ∨ e = .r) ∧ s'.mem = setm M k (rQ st (P ++ (isort lt U ++ Q)))):=by
 have hfr' : ∀ b : Blk,∀ j,nx ≤ j → lm (setm M k b) j = none:=fun b j hj=>by rw [lm_set_other _ _ (by omega)];exact hfr j hj
 simp (maxSteps:=400000) (disch:=omega) only [push_cast,↓reduceIte,reduceCtorEq,Nat.reduceAdd,Nat.reduceSub,Nat.reduceEqDiff,Nat.reduceLeDiff,Nat.reduceLT,Nat.reduceBEq,Nat.reduceDiv,Nat.reduceMod,Nat.reducePow,Nat.reduceMul,Int.reduceToNat,Int.reduceLT,Int.reduceLE,initT]
 (refine go0 ?_;try exact tTI)
 refine W_loopM (fun c : Nat=>[(8,iv ((P.length : Int) + 1 + c))]) (fun c=>setm M k (rQ st (P ++ (isort lt (U.take (c + 1)) ++ (U.drop (c + 1) ++ Q))))) (fun c=>c = 0 ∨ c + 1 ≤ U.length) (fun c=>U.length - c) nx (fun c _=>hfr' _) 0 (.inl rfl) (by rfl) (by
  have : isort lt (U.take 1) ++ U.drop 1 = U:=by
   cases U with
   |nil=>rfl
   |cons u U=>rfl
  rw [← List.append_assoc (isort lt _),this]) (fun c hc=>?_)
 simp (maxSteps:=400000) (disch:=omega) only [push_cast,↓reduceIte,reduceCtorEq,Nat.reduceAdd,Nat.reduceSub,Nat.reduceEqDiff,Nat.reduceLeDiff,Nat.reduceLT,Nat.reduceBEq,Nat.reduceDiv,Nat.reduceMod,Nat.reducePow,Nat.reduceMul,Int.reduceToNat,Int.reduceLT,Int.reduceLE,keepL]
 repeat' (first | refine w1g ?_ | refine w1l ?_ | refine w1q ?_ | refine w1b ?_ | refine w1p ?_ | ((first | refine w1r ?_ | refine w1k ?_ | refine w1e ?_);simp (maxSteps:=400000) (disch:=omega) only [push_cast,↓reduceIte,reduceCtorEq,Nat.reduceAdd,Nat.reduceSub,Nat.reduceEqDiff,Nat.reduceLeDiff,Nat.reduceLT,Nat.reduceBEq,Nat.reduceDiv,Nat.reduceMod,Nat.reducePow,Nat.reduceMul,Int.reduceToNat,Int.reduceLT,Int.reduceLE,keepL]) | refine an2 ?_ | fail)
 refine W_condD (by rfl) (fun h5=>?_) (fun h5=>?_)
 ·have hlt : c + 1 < U.length:=by omega
  have hA : SrtL lt (isort lt (U.take (c + 1))):=srt_isort hw _
  have hAl : (isort lt (U.take (c + 1))).length = c + 1:=by rw [isort_len,List.length_take];omega
  have hA2 : isort lt (U.take (c + 1 + 1)) = ins lt (U.getD (c + 1) dQ) (isort lt (U.take (c + 1))):=by
   rw [List.take_succ_eq_append_getElem hlt,isort_snoc]
   simp [List.getD,hlt]
  have hdr : U.drop (c + 1) = U.getD (c + 1) dQ :: U.drop (c + 1 + 1):=by rw [List.drop_eq_getElem_cons hlt];simp [List.getD,hlt]
  have hdl : (U.drop (c + 1 + 1)).length = U.length - (c + 1 + 1):=List.length_drop
  rw [hdr]
  generalize isort lt (U.take (c + 1)) = A at *
  generalize U.getD (c + 1) dQ = v at *
  generalize hR : U.drop (c + 1 + 1) ++ Q = R at *
  have hRl : R.length = U.length - (c + 1 + 1) + Q.length:=by rw [← hR,List.length_append,hdl]
  have hini : P ++ (A ++ (v :: (U.drop (c + 1 + 1)) ++ Q)) = insL P A v A.length R:=by
   unfold insL
   rw [List.take_length,List.drop_length,← hR];simp
  rw [hini]
  repeat' (first | refine w1g ?_ | refine w1l ?_ | refine w1q ?_ | refine w1b ?_ | refine w1p ?_ | ((first | refine w1r ?_ | refine w1k ?_ | refine w1e ?_);simp (maxSteps:=400000) (disch:=omega) only [push_cast,↓reduceIte,reduceCtorEq,Nat.reduceAdd,Nat.reduceSub,Nat.reduceEqDiff,Nat.reduceLeDiff,Nat.reduceLT,Nat.reduceBEq,Nat.reduceDiv,Nat.reduceMod,Nat.reducePow,Nat.reduceMul,Int.reduceToNat,Int.reduceLT,Int.reduceLE,keepL]) | refine an2 ?_ | fail)
  refine W_loopM (fun e : Nat=>[(9,iv ((P.length : Int) + e))]) (fun e=>setm M k (rQ st (insL P A v e R))) (fun e=>e ≤ A.length ∧ ∀ u ∈ A.drop e,lt v u = true) (fun e=>e) nx (fun c _=>hfr' _) A.length ⟨Nat.le_refl _,by rw [List.drop_length];intro u hu;cases hu⟩ (by
   have e1 : (P.length : Int) + 1 + c = P.length + A.length:=by omega
   rw [e1];rfl) (by rfl) (fun e he=>?_)
  obtain ⟨he1,he2⟩:=he
  have hll:=insL_len (P:=P) (Q:=R) (v:=v) he1
  have hat:=insL_at (P:=P) (Q:=R) (v:=v) dQ he1
  have ea : ((P.length : Int) + e).toNat = P.length + e:=by omega
  obtain ⟨y,hy⟩ : ∃ y,(insL P A v e R).getD ((P.length : Int) + e - 1).toNat dQ = y:=⟨_,rfl⟩
  have cg:=hg v y
  simp (maxSteps:=400000) (disch:=omega) only [push_cast,↓reduceIte,reduceCtorEq,Nat.reduceAdd,Nat.reduceSub,Nat.reduceEqDiff,Nat.reduceLeDiff,Nat.reduceLT,Nat.reduceBEq,Nat.reduceDiv,Nat.reduceMod,Nat.reducePow,Nat.reduceMul,Int.reduceToNat,Int.reduceLT,Int.reduceLE,keepL]
  repeat' (first | refine w1g ?_ | refine w1l ?_ | refine w1q ?_ | refine w1b ?_ | refine w1p ?_ | ((first | refine w1r ?_ | refine w1k ?_ | refine w1e ?_ | refine CallC.go _ (fun _=>⟨trivial,cg⟩) rfl ?_);simp (maxSteps:=400000) (disch:=omega) only [push_cast,↓reduceIte,reduceCtorEq,Nat.reduceAdd,Nat.reduceSub,Nat.reduceEqDiff,Nat.reduceLeDiff,Nat.reduceLT,Nat.reduceBEq,Nat.reduceDiv,Nat.reduceMod,Nat.reducePow,Nat.reduceMul,Int.reduceToNat,Int.reduceLT,Int.reduceLE,keepL,hll,ea,hat,hy,hfz,beq_self_eq_true]) | refine an2 ?_ | fail)
  refine W_cond (by rfl) (fun hb=>?_) (fun hb=>?_)
  ·simp only [Bool.and_eq_true,decide_eq_true_eq] at hb
   obtain ⟨e',rfl⟩ : ∃ e',e = e' + 1:=⟨e - 1,by omega⟩
   have hdn:=insL_dn (P:=P) (Q:=R) (v:=v) dQ (show e' < A.length by omega)
   obtain ⟨q1,q2⟩:=hdn
   have eb : ((P.length : Int) + ((e' + 1 : Nat) : Int) - 1).toNat = P.length + e':=by omega
   rw [eb,q1] at hy
   have hlty : lt v y = true:=by rw [hcv];exact decide_eq_true hb.2
   have hall : ∀ u ∈ A.drop e',lt v u = true:=by
    have he' : e' < A.length:=by omega
    have e1 : A.drop e' = A.getD e' dQ :: A.drop (e' + 1):=by rw [List.drop_eq_getElem_cons he'];simp [List.getD,he']
    rw [e1,hy]
    intro u hu
    rcases List.mem_cons.1 hu with rfl | hu
    ·exact hlty
    ·exact he2 u hu
   have eb' : ((P.length : Int) + ((e' : Int) + 1) - 1).toNat = P.length + e':=by omega
   have ea' : ((P.length : Int) + ((e' : Int) + 1)).toNat = P.length + (e' + 1):=by omega
   rw [hy] at q1 q2
   repeat' (first | refine w1g ?_ | refine w1l ?_ | refine w1q ?_ | refine w1b ?_ | refine w1p ?_ | ((first | refine w1r ?_ | refine w1k ?_ | refine w1e ?_);simp (maxSteps:=400000) (disch:=omega) only [push_cast,↓reduceIte,reduceCtorEq,Nat.reduceAdd,Nat.reduceSub,Nat.reduceEqDiff,Nat.reduceLeDiff,Nat.reduceLT,Nat.reduceBEq,Nat.reduceDiv,Nat.reduceMod,Nat.reducePow,Nat.reduceMul,Int.reduceToNat,Int.reduceLT,Int.reduceLE,keepL,hll,ea',eb',hat,q1,beq_self_eq_true]) | refine an2 ?_ | fail)
   refine ⟨rfl,⟨by dsimp only;omega,hasM_set _ _ _⟩,by omega,y,rfl,rfl,?_⟩
   simp (maxSteps:=400000) (disch:=omega) only [push_cast,↓reduceIte,reduceCtorEq,Nat.reduceAdd,Nat.reduceSub,Nat.reduceEqDiff,Nat.reduceLeDiff,Nat.reduceLT,Nat.reduceBEq,Nat.reduceDiv,Nat.reduceMod,Nat.reducePow,Nat.reduceMul,Int.reduceToNat,Int.reduceLT,Int.reduceLE,hll,ea',eb',List.length_set]
   repeat' (first | refine w1g ?_ | refine w1l ?_ | refine w1q ?_ | refine w1b ?_ | refine w1p ?_ | ((first | refine w1r ?_ | refine w1k ?_ | refine w1e ?_);simp (maxSteps:=400000) (disch:=omega) only [push_cast,↓reduceIte,reduceCtorEq,Nat.reduceAdd,Nat.reduceSub,Nat.reduceEqDiff,Nat.reduceLeDiff,Nat.reduceLT,Nat.reduceBEq,Nat.reduceDiv,Nat.reduceMod,Nat.reducePow,Nat.reduceMul,Int.reduceToNat,Int.reduceLT,Int.reduceLE,keepL,hll,ea',eb',List.length_set,beq_self_eq_true]) | refine an2 ?_ | fail)
   refine ⟨rfl,⟨by dsimp only;omega,hasM_set _ _ _⟩,by omega,v,rfl,rfl,?_⟩
   rw [q2]
   (refine sy1 ?_;try exact tTI)
   repeat' (first | refine w1g ?_ | refine w1l ?_ | refine w1q ?_ | refine w1b ?_ | refine w1p ?_ | ((first | refine w1r ?_ | refine w1k ?_ | refine w1e ?_);simp (maxSteps:=400000) (disch:=omega) only [push_cast,↓reduceIte,reduceCtorEq,Nat.reduceAdd,Nat.reduceSub,Nat.reduceEqDiff,Nat.reduceLeDiff,Nat.reduceLT,Nat.reduceBEq,Nat.reduceDiv,Nat.reduceMod,Nat.reducePow,Nat.reduceMul,Int.reduceToNat,Int.reduceLT,Int.reduceLE,keepL]) | refine an2 ?_ | fail)
   refine ⟨e',⟨by omega,hall⟩,by omega,?_,rfl⟩
   rw [show (P.length : Int) + ((e' : Int) + 1) - 1 = P.length + e' by omega]
  ·have hstop : e = 0 ∨ lt v (A.getD (e - 1) dQ) = false:=by
    by_cases e0 : e = 0
    ·exact .inl e0
    ·right
     obtain ⟨e',rfl⟩ : ∃ e',e = e' + 1:=⟨e - 1,by omega⟩
     have q1:=(insL_dn (P:=P) (Q:=R) (v:=v) dQ (show e' < A.length by omega)).1
     have eb : ((P.length : Int) + ((e' + 1 : Nat) : Int) - 1).toNat = P.length + e':=by omega
     rw [eb,q1] at hy
     rw [Nat.add_sub_cancel,hy,hcv]
     simp only [Bool.and_eq_false_iff,decide_eq_false_iff_not] at hb
     exact decide_eq_false (by omega)
   have hins:=ins_at hw hA dQ v he1 hstop he2
   have hfin : insL P A v e R = P ++ (ins lt v A ++ (U.drop (c + 1 + 1) ++ Q)):=by
    unfold insL
    rw [hins,hR];simp
   rw [hfin,← hA2]
   repeat' (first | refine w1g ?_ | refine w1l ?_ | refine w1q ?_ | refine w1b ?_ | refine w1p ?_ | ((first | refine w1r ?_ | refine w1k ?_ | refine w1e ?_);simp (maxSteps:=400000) (disch:=omega) only [push_cast,↓reduceIte,reduceCtorEq,Nat.reduceAdd,Nat.reduceSub,Nat.reduceEqDiff,Nat.reduceLeDiff,Nat.reduceLT,Nat.reduceBEq,Nat.reduceDiv,Nat.reduceMod,Nat.reducePow,Nat.reduceMul,Int.reduceToNat,Int.reduceLT,Int.reduceLE,keepL]) | refine an2 ?_ | fail)
   refine ⟨c + 1,.inr (by omega),by omega,?_,rfl⟩
   rw [show (P.length : Int) + 1 + ((c + 1 : Nat) : Int) = P.length + 1 + c + 1 by omega]
 ·have hcl : U.length ≤ c + 1:=by omega
  rw [List.take_of_length_le hcl,List.drop_of_length_le hcl,List.nil_append]
  repeat' (first | refine w1g ?_ | refine w1l ?_ | refine w1q ?_ | refine w1b ?_ | refine w1p ?_ | ((first | refine w1r ?_ | refine w1k ?_ | refine w1e ?_);simp (maxSteps:=400000) (disch:=omega) only [push_cast,↓reduceIte,reduceCtorEq,Nat.reduceAdd,Nat.reduceSub,Nat.reduceEqDiff,Nat.reduceLeDiff,Nat.reduceLT,Nat.reduceBEq,Nat.reduceDiv,Nat.reduceMod,Nat.reducePow,Nat.reduceMul,Int.reduceToNat,Int.reduceLT,Int.reduceLE,keepL]) | refine an2 ?_ | fail)
end Go.Proofs.YtmekmmgiamjfoaaGreat.U
namespace Go.Proofs.YtmekmmgiamjfoaaGreat.U
set_option linter.unusedVariables false
def ltP (a b : Pt) : Bool:=decide (cmpP a b < 0)
theorem cmpP_lt {a b : Pt} : cmpP a b < 0 ↔ a.x < b.x ∨ (a.x = b.x ∧ a.y < b.y):=by
 unfold cmpP cmp3
 split
 ·rename_i h
  split
  ·omega
  ·split <;> omega
 ·rename_i h
  split
  ·omega
  ·split <;> omega
theorem sw_ltP : SW ltP:={
 asym:=fun {a b} h=>by
  unfold ltP at h ⊢
  rw [decide_eq_true_eq,cmpP_lt] at h
  rw [decide_eq_false_iff_not,cmpP_lt]
  omega
 nt:=fun {a b c} h1 h2=>by
  unfold ltP at h1 h2 ⊢
  rw [decide_eq_false_iff_not,cmpP_lt] at h1 h2 ⊢
  omega }
def eqP (a b : Pt) : Bool:=a.x == b.x && a.y == b.y
theorem eqP_iff {a b : Pt} : eqP a b = true ↔ a = b:=by
 unfold eqP
 rw [Bool.and_eq_true,beq_iff_eq,beq_iff_eq]
 constructor
 ·intro h;cases a;cases b;simp_all
 ·rintro rfl;exact ⟨rfl,rfl⟩
def cpt (l : List Pt) : Nat → List Pt
 |0=>[]
 |1=>l.take 1
 |n + 2=>if eqP (l.getD (n + 1) dQ) (l.getD n dQ) = true then cpt l (n + 1) else cpt l (n + 1) ++ [l.getD (n + 1) dQ]
theorem cpt_succ (l : List Pt) {n : Nat} (h : 0 < n) : cpt l (n + 1) = if eqP (l.getD n dQ) (l.getD (n - 1) dQ) = true then cpt l n else cpt l n ++ [l.getD n dQ]:=by
 obtain ⟨m,rfl⟩ : ∃ m,n = m + 1:=⟨n - 1,by omega⟩
 rfl
theorem cpt_len (l : List Pt) : ∀ n,n ≤ l.length → (cpt l n).length ≤ n
 |0,_=>Nat.le_refl _
 |1,h=>by show (l.take 1).length ≤ 1;rw [List.length_take];omega
 |n + 2,h=>by
  have ih:=cpt_len l (n + 1) (by omega)
  unfold cpt
  split
  ·omega
  ·rw [List.length_append,List.length_singleton];omega
theorem cpt_take (l : List Pt) : ∀ n,n ≤ l.length → (∀ j,0 < j → j < n → eqP (l.getD j dQ) (l.getD (j - 1) dQ) = false) → cpt l n = l.take n
 |0,_,_=>rfl
 |1,_,_=>rfl
 |n + 2,hn,h=>by
  have ih:=cpt_take l (n + 1) (by omega) (fun j h1 h2=>h j h1 (by omega))
  rw [cpt_succ l (by omega),if_neg (by rw [h (n + 1) (by omega) (by omega)];decide),ih,List.take_succ_eq_append_getElem (show n + 1 < l.length by omega)]
  simp [List.getD,show n + 1 < l.length by omega]
def popR (x : Pt) : List Pt → List Pt
 |b :: a :: r=>if crs a b x ≤ 0 then popR x (a :: r) else b :: a :: r
 |l=>l
def stkR (l : List Pt) (n : Nat) : List Pt:=(l.take n).foldl (fun r x=>x :: popR x r) []
def stk (l : List Pt) : List Pt:=(stkR l l.length).reverse
theorem stkR_succ (l : List Pt) {n : Nat} (h : n < l.length) : stkR l (n + 1) = l.getD n dQ :: popR (l.getD n dQ) (stkR l n):=by
 unfold stkR
 rw [List.take_succ_eq_append_getElem h,List.foldl_append]
 simp [List.getD,h]
theorem popR_le (x : Pt) : ∀ l,(popR x l).length ≤ l.length
 |[]=>Nat.le_refl _
 |[b]=>Nat.le_refl _
 |b :: a :: r=>by
  unfold popR
  split
  ·have:=popR_le x (a :: r)
   simp only [List.length_cons] at this ⊢;omega
  ·exact Nat.le_refl _
theorem popR_mem (x : Pt) {y : Pt} : ∀ l,y ∈ popR x l → y ∈ l
 |[],h=>h
 |[b],h=>h
 |b :: a :: r,h=>by
  unfold popR at h
  split at h
  ·exact List.mem_cons_of_mem _ (popR_mem x (a :: r) h)
  ·exact h
theorem popR_ne (x : Pt) : ∀ l,l ≠ [] → popR x l ≠ []
 |[],h=>absurd rfl h
 |[b],_=>by simp [popR]
 |b :: a :: r,_=>by
  unfold popR
  split
  ·exact popR_ne x (a :: r) (by simp)
  ·simp
theorem stkR_len (l : List Pt) : ∀ n,n ≤ l.length → (stkR l n).length ≤ n ∧ (0 < n → 0 < (stkR l n).length)
 |0,_=>⟨by simp [stkR],fun h=>by omega⟩
 |n + 1,h=>by
  have ih:=(stkR_len l n (by omega)).1
  rw [stkR_succ l (by omega),List.length_cons]
  have:=popR_le (l.getD n dQ) (stkR l n)
  omega
theorem stkR_mem (l : List Pt) {y : Pt} : ∀ n,n ≤ l.length → y ∈ stkR l n → y ∈ l
 |0,_,h=>by simp [stkR] at h
 |n + 1,hn,h=>by
  rw [stkR_succ l (by omega)] at h
  rcases List.mem_cons.1 h with rfl | h
  ·have : n < l.length:=by omega
   simp only [List.getD,List.getElem?_eq_getElem this,Option.getD_some];exact List.getElem_mem this
  ·exact stkR_mem l n (by omega) (popR_mem _ _ h)
def rvP (l : List Pt) (i : Nat) : List Pt:=(List.range l.length).map fun p=>if p < i ∨ l.length - i ≤ p then l.getD (l.length - 1 - p) dQ else l.getD p dQ
theorem rvP_len (l : List Pt) (i : Nat) : (rvP l i).length = l.length:=by simp [rvP]
theorem rvP_at (l : List Pt) (i p : Nat) (h : p < l.length) : (rvP l i).getD p dQ = if p < i ∨ l.length - i ≤ p then l.getD (l.length - 1 - p) dQ else l.getD p dQ:=by
 simp [rvP,List.getD,h]
theorem rvP_zero (l : List Pt) : rvP l 0 = l:=by
 apply List.ext_getElem (rvP_len l 0)
 intro p h1 h2
 have:=rvP_at l 0 p h2
 rw [if_neg (by omega)] at this
 simpa [List.getD,h1,h2] using this
theorem ext_getD {l m : List Pt} (h : l.length = m.length) (h2 : ∀ p,p < l.length → l.getD p dQ = m.getD p dQ) : l = m:=by
 apply List.ext_getElem h
 intro p h3 h4
 have:=h2 p h3
 simpa [List.getD,h3,h4] using this
theorem rvP_step (l : List Pt) {i : Nat} (h : i < l.length - 1 - i) : ((rvP l i).set i (l.getD (l.length - 1 - i) dQ)).set (l.length - 1 - i) (l.getD i dQ) = rvP l (i + 1):=by
 apply ext_getD (by rw [List.length_set,List.length_set,rvP_len,rvP_len])
 intro p hp
 rw [List.length_set,List.length_set,rvP_len] at hp
 rw [rvP_at l (i + 1) p hp]
 by_cases e1 : p = l.length - 1 - i
 ·subst e1
  have h3 : l.length - 1 - i < ((rvP l i).set i (l.getD (l.length - 1 - i) dQ)).length:=by rw [List.length_set,rvP_len];omega
  rw [if_pos (by omega)]
  have e9 : l.length - 1 - (l.length - 1 - i) = i:=by omega
  rw [e9]
  generalize (rvP l i).set i (l.getD (l.length - 1 - i) dQ) = X at *
  simp only [List.getD]
  rw [List.getElem?_set_self h3];rfl
 ·by_cases e2 : p = i
  ·subst e2
   have h3 : p < (rvP l p).length:=by rw [rvP_len];omega
   rw [if_pos (by omega)]
   simp only [List.getD]
   rw [List.getElem?_set_ne (by omega),List.getElem?_set_self h3];rfl
  ·have h4:=rvP_at l i p hp
   simp only [List.getD] at h4 ⊢
   rw [List.getElem?_set_ne (by omega),List.getElem?_set_ne (by omega),h4]
   by_cases q : p < i ∨ l.length - i ≤ p
   ·rw [if_pos q,if_pos (by omega)]
   ·rw [if_neg q,if_neg (by omega)]
theorem rvP_end (l : List Pt) {i : Nat} (h : l.length ≤ 2 * i + 1) : rvP l i = l.reverse:=by
 apply ext_getD (by rw [rvP_len,List.length_reverse])
 intro p hp
 rw [rvP_len] at hp
 rw [rvP_at l i p hp]
 have e : l.reverse.getD p dQ = l.getD (l.length - 1 - p) dQ:=by
  simp only [List.getD];rw [List.getElem?_reverse hp]
 rw [e]
 by_cases q : p < i ∨ l.length - i ≤ p
 ·rw [if_pos q]
 ·rw [if_neg q];congr 1;omega
def crn (l : List Pt) : List Pt:=
 if (cpt (isort ltP l) l.length).length < 2 then cpt (isort ltP l) l.length
 else (stk (cpt (isort ltP l) l.length)).dropLast ++ (stk (cpt (isort ltP l) l.length).reverse).dropLast
theorem cpt_mem (l : List Pt) {y : Pt} : ∀ n,n ≤ l.length → y ∈ cpt l n → y ∈ l
 |0,_,h=>by cases h
 |1,_,h=>List.mem_of_mem_take h
 |n + 2,hn,h=>by
  rw [cpt_succ l (by omega)] at h
  split at h
  ·exact cpt_mem l (n + 1) (by omega) h
  ·rcases List.mem_append.1 h with h | h
   ·exact cpt_mem l (n + 1) (by omega) h
   ·rw [List.mem_singleton] at h
    have : n + 1 < l.length:=by omega
    rw [h];simp only [List.getD,List.getElem?_eq_getElem this,Option.getD_some];exact List.getElem_mem this
def mkS (s : List Pt) (n : Nat) : List Pt:=cpt s n ++ s.drop (cpt s n).length
theorem mkS_len (s : List Pt) {n : Nat} (h : n ≤ s.length) : (mkS s n).length = s.length:=by
 have:=cpt_len s n h
 unfold mkS
 rw [List.length_append,List.length_drop];omega
theorem mkS_get (s : List Pt) {n p : Nat} (hp : (cpt s n).length ≤ p) : (mkS s n).getD p dQ = s.getD p dQ:=by
 unfold mkS
 simp only [List.getD]
 rw [List.getElem?_append_right hp,List.getElem?_drop]
 congr 2;omega
theorem mkS_eq (s : List Pt) {n : Nat} (h0 : 0 < n) (h : eqP (s.getD n dQ) (s.getD (n - 1) dQ) = true) : mkS s (n + 1) = mkS s n ∧ (cpt s (n + 1)).length = (cpt s n).length:=by
 have : cpt s (n + 1) = cpt s n:=by rw [cpt_succ s h0,if_pos h]
 unfold mkS
 rw [this];exact ⟨rfl,rfl⟩
theorem mkS_ne (s : List Pt) {n : Nat} (h0 : 0 < n) (hn : n < s.length) (h : ¬ eqP (s.getD n dQ) (s.getD (n - 1) dQ) = true) : (mkS s n).set (cpt s n).length (s.getD n dQ) = mkS s (n + 1) ∧ (cpt s (n + 1)).length = (cpt s n).length + 1:=by
 have e : cpt s (n + 1) = cpt s n ++ [s.getD n dQ]:=by rw [cpt_succ s h0,if_neg h]
 have hl:=cpt_len s n (by omega)
 unfold mkS
 rw [e]
 refine ⟨?_,by rw [List.length_append,List.length_singleton]⟩
 rw [List.length_append,List.length_singleton]
 have hd : s.drop (cpt s n).length = s.getD (cpt s n).length dQ :: s.drop ((cpt s n).length + 1):=by
  rw [List.drop_eq_getElem_cons (show (cpt s n).length < s.length by omega)]
  simp [List.getD,show (cpt s n).length < s.length by omega]
 rw [hd,List.append_assoc,set_cons rfl]
 rfl
theorem cpt_dup (s : List Pt) {k : Nat} (h0 : 0 < k) (hk : k < s.length) (hd : eqP (s.getD k dQ) (s.getD (k - 1) dQ) = true) : ∀ d,k + 1 + d ≤ s.length → (cpt s (k + 1 + d)).length + 1 ≤ k + 1 + d
 |0,_=>by
  have:=cpt_len s k (by omega)
  rw [Nat.add_zero,(mkS_eq s h0 hd).2];omega
 |d + 1,h=>by
  have ih:=cpt_dup s h0 hk hd d (by omega)
  rw [show k + 1 + (d + 1) = (k + 1 + d) + 1 by omega]
  by_cases q : eqP (s.getD (k + 1 + d) dQ) (s.getD (k + 1 + d - 1) dQ) = true
  ·rw [(mkS_eq s (by omega) q).2];omega
  ·rw [(mkS_ne s (by omega) (by omega) q).2];omega
theorem cpt_ne (s : List Pt) : ∀ n,0 < n → n ≤ s.length → 0 < (cpt s n).length
 |0,h,_=>by omega
 |1,_,h=>by show 0 < (s.take 1).length;rw [List.length_take];omega
 |n + 2,_,h=>by
  have ih:=cpt_ne s (n + 1) (by omega) (by omega)
  unfold cpt
  split
  ·exact ih
  ·rw [List.length_append];omega
end Go.Proofs.YtmekmmgiamjfoaaGreat.U
namespace Go.Proofs.YtmekmmgiamjfoaaGreat.U
open Go Sy
set_option maxRecDepth 100000
set_option maxHeartbeats 8000000
set_option linter.unusedVariables false
set_option linter.unusedSimpArgs false
def bd (p : Pt) : Prop:=(-67108864 ≤ p.x ∧ p.x ≤ 67108864) ∧ -67108864 ≤ p.y ∧ p.y ≤ 67108864
theorem fn190 (a b c : Pt) (h1 : bd a) (h2 : bd b) (h3 : bd c) : Sy.Fn Tryz.prog 190 [.agg (cPt a),.agg (cPt b),.agg (cPt c)] (iv (crs a b c)):=by
 refine Fn_of_W mixed Xt190 rfl ?_
 unfold bd at h1 h2 h3
 have m1:=abs_mul (show -134217728 ≤ b.x - a.x ∧ b.x - a.x ≤ 134217728 by omega) (show -134217728 ≤ c.y - a.y ∧ c.y - a.y ≤ 134217728 by omega)
 have m2:=abs_mul (show -134217728 ≤ b.y - a.y ∧ b.y - a.y ≤ 134217728 by omega) (show -134217728 ≤ c.x - a.x ∧ c.x - a.x ≤ 134217728 by omega)
 unfold crs
 (refine go0 ?_;try exact tTI)
 exact W_ret ⟨[_],⟨rfl,rfl⟩,rfl⟩
theorem fn189 (a b c : Pt) (ha : bd a) (hb : bd b) (hc : bd c) : Sy.Fn Tryz.prog 189 [.agg (cPt a),.agg (cPt b),.agg (cPt c)] (bv (decide (crs a b c ≤ 0))):=by
 refine Fn_of_W mixed Xt189 rfl ?_
 (refine go_c (fn190 a b c ha hb hc) ?_;try exact tTI)
 exact W_ret ⟨[_],⟨rfl,rfl⟩,rfl⟩
theorem rev2 (a b : Pt) (r : List Pt) : (b :: a :: r).reverse.length = r.length + 2 ∧ (b :: a :: r).reverse.getD r.length dQ = a ∧ (b :: a :: r).reverse.getD (r.length + 1) dQ = b ∧ (b :: a :: r).reverse.take (r.length + 1) = (a :: r).reverse:=by
 have h : (b :: a :: r).reverse = (a :: r).reverse ++ [b]:=List.reverse_cons
 have h2 : (a :: r).reverse = r.reverse ++ [a]:=List.reverse_cons
 refine ⟨by simp,?_,?_,?_⟩
 ·rw [h,h2,List.append_assoc]
  simp [List.getD]
 ·rw [h]
  simp [List.getD]
 ·rw [h]
  have : r.length + 1 = (a :: r).reverse.length:=by simp
  rw [this,List.take_left']
  rfl
theorem fn191 (s : List Pt) (hq : ∀ x ∈ s,bd x) (hl : s.length ≤ 1000000) : FnO Tryz.prog 191 [.clo 216 [] [.fp [aQ s] 0],.clo 189 [] []] 92 2 dQ cPt (stk s):=by
 refine FnO_of_W mixed Xt191 rfl (fun x _=>rfl) ?_
 (refine go0 ?_;try exact tTI)
 refine W_rfn (.inl rfl) (fun lp R hR=>Inl_of_W mixed Xt216 rfl (fun vs=>?_))
 (refine sy1 ?_;try exact tTI)
 (refine go0 ?_;try exact tTI)
 refine W_le (le_adoptC 2 0 92 2 dQ cPt (by omega) _ rfl rfl (by simp)) ?_
 (refine sy1 ?_;try exact tTI)
 refine W_loopU (fun q : Nat × Nat=>[(7,iv q.1)]) (fun q=>[(2,.cells [.row 9 q.2]),(9,.row q.2 92 2 dQ cPt (stkR s q.1).reverse)]) (fun q=>q.1 ≤ s.length) (fun q=>s.length - q.1) (0,0) (Nat.zero_le _) (by rfl) (by rfl) (fun q hi=>?_)
 obtain ⟨i,st⟩:=q
 have hi : i ≤ s.length:=hi
 (refine sy1 ?_;try exact tTI)
 (refine go0 ?_;try exact tTI)
 refine W_condD (by rfl) (fun h5=>?_) (fun h5=>?_)
 ·have hlt : i < s.length:=by omega
  have hsucc:=stkR_succ s hlt
  obtain ⟨hrl,_⟩:=stkR_len s i hi
  have hrm:=fun y=>stkR_mem s (y:=y) i hi
  have hx:=hq (s.getD i dQ) (by simp only [List.getD,List.getElem?_eq_getElem hlt,Option.getD_some];exact List.getElem_mem hlt)
  generalize hxx : s.getD i dQ = x at *
  generalize stkR s i = r0 at *
  (refine gof hxx ?_;try exact tTI)
  refine StopC.yld (fun hpc=>⟨trivial,Yl_of_W (k:=4) mixed hR rfl rfl rfl (fun vs2=>?_)⟩) (fun hpc=>absurd (by simp [Sy.pc]) hpc)
  (refine sy1 ?_;try exact tTI)
  (refine go0 ?_;try exact tTI)
  refine ⟨_,rfl,?_⟩
  (refine sy1 ?_;try exact tTI)
  (refine go0 ?_;try exact tTI)
  refine W_loopU (fun q : List Pt × Nat=>[]) (fun q=>[(2,.cells [.row 9 q.2]),(9,.row q.2 92 2 dQ cPt q.1.reverse)]) (fun q=>popR x q.1 = popR x r0 ∧ (∀ y ∈ q.1,y ∈ s) ∧ q.1.length ≤ i) (fun q=>q.1.length) (r0,st) ⟨rfl,hrm,hrl⟩ (by rfl) (by rfl) (fun q hqq=>?_)
  obtain ⟨r,st2⟩:=q
  obtain ⟨hp,hm,hrl2⟩:=hqq
  have hp : popR x r = popR x r0:=hp
  have hm : ∀ y ∈ r,y ∈ s:=hm
  have hrl2 : r.length ≤ i:=hrl2
  (refine sy1 ?_;try exact tTI)
  rcases r with _ | ⟨b,_ | ⟨a,r⟩⟩
  ·have e : stkR s (i + 1) = [x]:=by rw [hsucc,← hp];rfl
   rw [show ([] : List Pt).reverse = [] from rfl]
   repeat' (first | refine w1g ?_ | refine w1l ?_ | refine w1q ?_ | refine w1b ?_ | refine w1p ?_ | ((first | refine w1r ?_ | refine w1k ?_ | refine w1e ?_);(refine sy1 ?_;try exact tTI)) | refine an2 ?_ | ((refine CallC.go (bv false) (fun hpc=>absurd hpc (by simp [Sy.pc])) rfl ?_;(refine sy1 ?_;try exact tTI))) | fail)
   refine ⟨fun h=>absurd h (by decide),fun h=>absurd h (by decide),fun h=>absurd h (by decide),fun h=>absurd h (by decide),?_⟩
   refine CallC.go (bv false) (fun hpc=>absurd hpc (by simp [Sy.pc])) rfl ?_
   (refine sy1 ?_;try exact tTI)
   refine W_cond (by rfl) (fun h=>absurd h (by decide)) (fun _=>?_)
   (refine go0 ?_;try exact tTI)
   refine ⟨rfl,trivial,Pt,dQ,cPt,[x],rfl,by omega,fun x _=>⟨rfl,rfl⟩,rfl,?_⟩
   (refine sy1 ?_;try exact tTI)
   refine ⟨rfl,⟨Nat.le_of_ble_eq_true rfl,rfl⟩,trivial,[x],rfl,by first | omega | (simp;done) | (simp;omega),by first | omega | (simp;done) | (simp;omega),?_⟩
   (refine sy1 ?_;try exact tTI)
   refine ⟨_,_,rfl,rfl,?_⟩
   (refine sy1 ?_;try exact tTI)
   refine W_cond (by rfl) (fun h=>by cases h) (fun _=>?_)
   (refine go0 ?_;try exact tTI)
   refine ⟨(i + 1,st2 + 1),by show i + 1 ≤ _;omega,by show s.length - (i + 1) < _;omega,by rfl,?_⟩
   dsimp only
   rw [e]
   (refine syE ?_;try exact tTI)
   try rfl
  ·have e : stkR s (i + 1) = [x,b]:=by rw [hsucc,← hp];rfl
   rw [show ([b] : List Pt).reverse = [b] from rfl]
   repeat' (first | refine w1g ?_ | refine w1l ?_ | refine w1q ?_ | refine w1b ?_ | refine w1p ?_ | ((first | refine w1r ?_ | refine w1k ?_ | refine w1e ?_);(refine sy1 ?_;try exact tTI)) | refine an2 ?_ | ((refine CallC.go (bv false) (fun hpc=>absurd hpc (by simp [Sy.pc])) rfl ?_;(refine sy1 ?_;try exact tTI))) | fail)
   refine W_cond (by rfl) (fun h=>absurd h (by decide)) (fun _=>?_)
   (refine go0 ?_;try exact tTI)
   refine ⟨rfl,trivial,Pt,dQ,cPt,[x],rfl,by omega,fun x _=>⟨rfl,rfl⟩,rfl,?_⟩
   (refine sy1 ?_;try exact tTI)
   refine ⟨rfl,⟨Nat.le_of_ble_eq_true rfl,rfl⟩,trivial,[x],rfl,by first | omega | (simp;done) | (simp;omega),by first | omega | (simp;done) | (simp;omega),?_⟩
   (refine sy1 ?_;try exact tTI)
   refine ⟨_,_,rfl,rfl,?_⟩
   (refine sy1 ?_;try exact tTI)
   refine W_cond (by rfl) (fun h=>by cases h) (fun _=>?_)
   (refine go0 ?_;try exact tTI)
   refine ⟨(i + 1,st2 + 1),by show i + 1 ≤ _;omega,by show s.length - (i + 1) < _;omega,by rfl,?_⟩
   dsimp only
   rw [e]
   (refine syE ?_;try exact tTI)
   try rfl
  ·obtain ⟨hL,g1,g2,g3⟩:=rev2 a b r
   have d1:=fn189 a b x (hq _ (hm a (by simp))) (hq _ (hm b (by simp))) hx
   have hpop : popR x (b :: a :: r) = if crs a b x ≤ 0 then popR x (a :: r) else b :: a :: r:=rfl
   have hrl3 : r.length + 2 ≤ i:=hrl2
   generalize hLL : (b :: a :: r).reverse = L at *
   generalize hm1 : r.length = m at *
   have e1 : ((m : Int) + 1 + 1 - 2).toNat = m:=by omega
   have e2 : ((m : Int) + 1 + 1 - 1).toNat = m + 1:=by omega
   have e3 : decide (2 ≤ (m : Int) + 1 + 1) = true:=decide_eq_true (by omega)
   (refine gofg (ad6 hL g1 g2 e1 e2 e3) d1 ?_;try exact tTI)
   by_cases hc : crs a b x ≤ 0
   ·rw [if_pos hc] at hpop
    refine W_cond (by rfl) (fun _=>?_) (fun h=>by rw [decide_eq_true hc] at h;cases h)
    (refine gof (ad3 hL e2 g3) ?_;try exact tTI)
    refine ⟨(a :: r,st2 + 1),⟨by rw [← hpop];exact hp,fun y hy=>hm y (List.mem_cons_of_mem _ hy),by show (a :: r).length ≤ i;rw [List.length_cons];omega⟩,by show (a :: r).length < (b :: a :: r).length;simp,by rfl,?_⟩
    (refine syE ?_;try exact tTI)
    try rfl
   ·have e : stkR s (i + 1) = x :: b :: a :: r:=by rw [hsucc,← hp,hpop,if_neg hc]
    refine W_cond (by rfl) (fun h=>by rw [decide_eq_false hc] at h;cases h) (fun _=>?_)
    (refine go0 ?_;try exact tTI)
    refine ⟨rfl,trivial,Pt,dQ,cPt,[x],rfl,by omega,fun x _=>⟨rfl,rfl⟩,rfl,?_⟩
    (refine sy1 ?_;try exact tTI)
    refine ⟨rfl,⟨Nat.le_of_ble_eq_true rfl,rfl⟩,trivial,[x],rfl,by first | omega | (simp;done) | (simp;omega),by first | omega | (simp;done) | (simp;omega),?_⟩
    (refine sy1 ?_;try exact tTI)
    refine ⟨_,_,rfl,rfl,?_⟩
    (refine sy1 ?_;try exact tTI)
    refine W_cond (by rfl) (fun h=>by cases h) (fun _=>?_)
    (refine go0 ?_;try exact tTI)
    refine ⟨(i + 1,st2 + 1),by show i + 1 ≤ _;omega,by show s.length - (i + 1) < _;omega,by rfl,?_⟩
    dsimp only
    rw [e,List.reverse_cons,hLL]
    (refine syE ?_;try exact tTI)
    try rfl
 ·have e : i = s.length:=by omega
  subst e
  rw [show (stkR s s.length).reverse = stk s from rfl]
  (refine go0 ?_;try exact tTI)
  refine ⟨_,_,rfl,rfl,⟨_,_,rfl,by rw [hR.st];simp,?_⟩⟩
  rw [hR.pe]
  (refine syN ?_;try exact tTI)
  (refine go0 ?_;try exact tTI)
  exact W_ret ⟨_,_,⟨rfl,rfl⟩,rfl⟩
theorem i229 {s : S} {k st : Nat} {l : List Pt} {n : Int} {K : AV → S → Prop} (hk : lm s.mem k = some (rQ st l)) (hfr : ∀ j,s.nx ≤ j → lm s.mem j = none) (hlen : l.length ≤ 1000000) (hn : n = l.length) (hK : K (.tup []) ⟨s.tm,setm s.mem k (rQ st (isort ltP l)),s.nx⟩) :
  Inl Tryz.prog 229 [.row k st,iv 0,iv n,.clo 187 [] []] s K:=by
 subst hn
 refine Inl_row mixed Xt229 rfl hk hfr (fun M nx h1 h2=>?_) hK
 have h:=w229 (M:=M) (k:=k) (st:=st) (nx:=nx) (gc:=187) (ca:=[]) (lt:=ltP) (cv:=cmpP) sw_ltP rfl (fun _ _=>rfl) fn187 [] l [] (by simp;exact hlen) h1 h2
 simp only [List.append_nil,List.nil_append,List.length_nil,show ((0 : Nat) : Int) = 0 from rfl,Int.zero_add] at h
 exact h
theorem w193 {M : List (Nat × Blk)} {k st nx : Nat} (l : List Pt) (hlen : l.length ≤ 1000000) (hk : k < nx) (hfr : ∀ j,nx ≤ j → lm M j = none) :
  W Tryz.prog 28 Xn193_0 ⟨initT 0 [.row k st],setm M k (rQ st l),nx⟩ (fun e s'=>(e = .n ∨ e = .r) ∧ s'.mem = setm M k (rQ st l.reverse)):=by
 have hfr' : ∀ b : Blk,∀ j,nx ≤ j → lm (setm M k b) j = none:=fun b j hj=>by rw [lm_set_other _ _ (by omega)];exact hfr j hj
 simp (maxSteps:=400000) (disch:=omega) only [push_cast,↓reduceIte,reduceCtorEq,Nat.reduceAdd,Nat.reduceSub,Nat.reduceEqDiff,Nat.reduceLeDiff,Nat.reduceLT,Nat.reduceBEq,Nat.reduceDiv,Nat.reduceMod,Nat.reducePow,Nat.reduceMul,Int.reduceToNat,Int.reduceLT,Int.reduceLE,initT]
 (refine go0 ?_;try exact tTI)
 refine W_loopM (fun i : Nat=>[(2,iv i),(3,iv ((l.length : Int) - 1 - i))]) (fun i=>setm M k (rQ st (rvP l i))) (fun i=>2 * i ≤ l.length + 1) (fun i=>l.length - i) nx (fun c _=>hfr' _) 0 (by omega) (by rw [show (l.length : Int) - 1 - ((0 : Nat) : Int) = l.length - 1 by omega];rfl) (by rw [rvP_zero]) (fun i hi=>?_)
 have hll:=rvP_len l i
 simp (maxSteps:=400000) (disch:=omega) only [push_cast,↓reduceIte,reduceCtorEq,Nat.reduceAdd,Nat.reduceSub,Nat.reduceEqDiff,Nat.reduceLeDiff,Nat.reduceLT,Nat.reduceBEq,Nat.reduceDiv,Nat.reduceMod,Nat.reducePow,Nat.reduceMul,Int.reduceToNat,Int.reduceLT,Int.reduceLE,keepL]
 repeat' (first | refine w1g ?_ | refine w1l ?_ | refine w1q ?_ | refine w1b ?_ | refine w1p ?_ | ((first | refine w1r ?_ | refine w1k ?_ | refine w1e ?_);simp (maxSteps:=400000) (disch:=omega) only [push_cast,↓reduceIte,reduceCtorEq,Nat.reduceAdd,Nat.reduceSub,Nat.reduceEqDiff,Nat.reduceLeDiff,Nat.reduceLT,Nat.reduceBEq,Nat.reduceDiv,Nat.reduceMod,Nat.reducePow,Nat.reduceMul,Int.reduceToNat,Int.reduceLT,Int.reduceLE,keepL]) | refine an2 ?_ | fail)
 refine W_condD (by rfl) (fun h5=>?_) (fun h5=>?_)
 ·have hlt : i < l.length - 1 - i:=by omega
  have q1:=rvP_at l i i (by omega)
  rw [if_neg (by omega)] at q1
  have q2:=rvP_at l i (l.length - 1 - i) (by omega)
  rw [if_neg (by omega)] at q2
  have q3:=rvP_step l hlt
  have ea : ((i : Int)).toNat = i:=by omega
  have eb : ((l.length : Int) - 1 - i).toNat = l.length - 1 - i:=by omega
  repeat' (first | refine w1g ?_ | refine w1l ?_ | refine w1q ?_ | refine w1b ?_ | refine w1p ?_ | ((first | refine w1r ?_ | refine w1k ?_ | refine w1e ?_);simp (maxSteps:=400000) (disch:=omega) only [push_cast,↓reduceIte,reduceCtorEq,Nat.reduceAdd,Nat.reduceSub,Nat.reduceEqDiff,Nat.reduceLeDiff,Nat.reduceLT,Nat.reduceBEq,Nat.reduceDiv,Nat.reduceMod,Nat.reducePow,Nat.reduceMul,Int.reduceToNat,Int.reduceLT,Int.reduceLE,keepL,hll,eb,q1,q2,beq_self_eq_true]) | refine an2 ?_ | fail)
  refine ⟨rfl,⟨by dsimp only;omega,hasM_set _ _ _⟩,by omega,l.getD (l.length - 1 - i) dQ,rfl,rfl,?_⟩
  simp (maxSteps:=400000) (disch:=omega) only [push_cast,↓reduceIte,reduceCtorEq,Nat.reduceAdd,Nat.reduceSub,Nat.reduceEqDiff,Nat.reduceLeDiff,Nat.reduceLT,Nat.reduceBEq,Nat.reduceDiv,Nat.reduceMod,Nat.reducePow,Nat.reduceMul,Int.reduceToNat,Int.reduceLT,Int.reduceLE,hll,eb,List.length_set]
  repeat' (first | refine w1g ?_ | refine w1l ?_ | refine w1q ?_ | refine w1b ?_ | refine w1p ?_ | ((first | refine w1r ?_ | refine w1k ?_ | refine w1e ?_);simp (maxSteps:=400000) (disch:=omega) only [push_cast,↓reduceIte,reduceCtorEq,Nat.reduceAdd,Nat.reduceSub,Nat.reduceEqDiff,Nat.reduceLeDiff,Nat.reduceLT,Nat.reduceBEq,Nat.reduceDiv,Nat.reduceMod,Nat.reducePow,Nat.reduceMul,Int.reduceToNat,Int.reduceLT,Int.reduceLE,keepL,hll,eb,List.length_set,beq_self_eq_true]) | refine an2 ?_ | fail)
  refine ⟨rfl,⟨by dsimp only;omega,hasM_set _ _ _⟩,by omega,l.getD i dQ,rfl,rfl,?_⟩
  rw [q3]
  (refine sy1 ?_;try exact tTI)
  repeat' (first | refine w1g ?_ | refine w1l ?_ | refine w1q ?_ | refine w1b ?_ | refine w1p ?_ | ((first | refine w1r ?_ | refine w1k ?_ | refine w1e ?_);simp (maxSteps:=400000) (disch:=omega) only [push_cast,↓reduceIte,reduceCtorEq,Nat.reduceAdd,Nat.reduceSub,Nat.reduceEqDiff,Nat.reduceLeDiff,Nat.reduceLT,Nat.reduceBEq,Nat.reduceDiv,Nat.reduceMod,Nat.reducePow,Nat.reduceMul,Int.reduceToNat,Int.reduceLT,Int.reduceLE,keepL]) | refine an2 ?_ | fail)
  refine ⟨i + 1,by omega,by omega,?_,rfl⟩
  rw [show (l.length : Int) - 1 - ((i + 1 : Nat) : Int) = l.length - 1 - i - 1 by omega]
  rfl
 ·rw [rvP_end l (i:=i) (by omega)]
  repeat' (first | refine w1g ?_ | refine w1l ?_ | refine w1q ?_ | refine w1b ?_ | refine w1p ?_ | ((first | refine w1r ?_ | refine w1k ?_ | refine w1e ?_);simp (maxSteps:=400000) (disch:=omega) only [push_cast,↓reduceIte,reduceCtorEq,Nat.reduceAdd,Nat.reduceSub,Nat.reduceEqDiff,Nat.reduceLeDiff,Nat.reduceLT,Nat.reduceBEq,Nat.reduceDiv,Nat.reduceMod,Nat.reducePow,Nat.reduceMul,Int.reduceToNat,Int.reduceLT,Int.reduceLE,keepL]) | refine an2 ?_ | fail)
theorem fn156 (l : List Pt) (hq : ∀ x ∈ l,bd x) (hl : 0 < l.length ∧ l.length ≤ 12) : Sy.Fn Tryz.prog 156 [aQ l] (aQ (crn l)):=by
 refine Fn_of_W mixed Xt156 rfl ?_
 (refine go0 ?_;try exact tTI)
 refine CallC.inl (Inl_of_W mixed Xt185 rfl (fun vs=>?_))
 (refine sy1 ?_;try exact tTI)
 (refine go0 ?_;try exact tTI)
 refine W_cond (by rfl) (fun h=>by cases h) (fun _=>?_)
 (refine go0 ?_;try exact tTI)
 refine ⟨rfl,trivial,Pt,dQ,cPt,[],rfl,by omega,fun x _=>⟨rfl,rfl⟩,rfl,?_⟩
 (refine sy1 ?_;try exact tTI)
 refine ⟨rfl,⟨Nat.le_of_ble_eq_true rfl,rfl⟩,trivial,l,rfl,by first | omega | (simp;omega),by first | omega | (simp;omega),?_⟩
 (refine sy1 ?_;try exact tTI)
 (refine go0 ?_;try exact tTI)
 refine W_ret ⟨[_],_,⟨rfl,rfl⟩,rfl,?_⟩
 (refine syP ?_;try exact tTI)
 (refine go0 ?_;try exact tTI)
 refine CallC.inl (Inl_of_W mixed Xt186 rfl (fun vs=>?_))
 obtain ⟨n73,_,c214⟩:=fn214 l.length (by omega)
 have w3 : IntKind.u64.wrap (l.length : Int) = l.length:=by rw [IntKind.wrap_u64];omega
 (refine sy1 ?_;try exact tTI)
 (refine gofc w3 c214 ?_;try exact tTI)
 refine CallC.inl (Inl_of_W mixed Xt213 rfl (fun vs2=>?_))
 (refine sy1 ?_;try exact tTI)
 (refine go0 ?_;try exact tTI)
 refine W_loopU (fun k : Nat=>[]) (fun k=>[]) (fun k=>k = 0) (fun k=>1) 0 rfl (by rfl) (by rfl) (fun k hk=>?_)
 (refine sy1 ?_;try exact tTI)
 (refine go0 ?_;try exact tTI)
 refine W_condD (by rfl) (fun h5=>?_) (fun h5=>absurd h5 (by omega))
 (refine go0 ?_;try exact tTI)
 refine CallC.inl (i229 (l:=l) (by rfl) ?_ (by omega) (by omega) ?_)
 ·intro j hj
  have hj : 36 ≤ j:=hj
  simp only [lm]
  rw [if_neg (by omega),if_neg (by omega),if_neg (by omega)]
 have hsl:=isort_len (lt:=ltP) l
 have hsm : ∀ x ∈ isort ltP l,bd x:=fun x hx=>hq x ((isort_mem l).1 hx)
 have ecr : crn l = if (cpt (isort ltP l) (isort ltP l).length).length < 2 then cpt (isort ltP l) (isort ltP l).length else (stk (cpt (isort ltP l) (isort ltP l).length)).dropLast ++ (stk (cpt (isort ltP l) (isort ltP l).length).reverse).dropLast:=by rw [hsl];rfl
 rw [ecr]
 generalize isort ltP l = s at *
 (refine sy1 ?_;try exact tTI)
 refine W_ret ⟨[],_,rfl,rfl,?_⟩
 (refine syP ?_;try exact tTI)
 (refine go0 ?_;try exact tTI)
 refine ⟨[],_,rfl,rfl,?_⟩
 (refine syP ?_;try exact tTI)
 (refine go0 ?_;try exact tTI)
 refine CallC.inl (Inl_of_W mixed Xt188 rfl (fun vs4=>?_))
 (refine sy1 ?_;try exact tTI)
 (refine go0 ?_;try exact tTI)
 have hl0 : 0 < s.length:=by omega
 have hsz : s.length ≤ 12:=by omega
 clear hsl
 obtain ⟨CS,hCS⟩ : ∃ CS,CS = cpt s s.length:=⟨_,rfl⟩
 rw [← hCS]
 clear ecr
 suffices rest : ∀ st,W Tryz.prog 38 Xn156_8 ⟨[(3,.row 6 st)],[(6,.row st 92 2 dQ cPt CS)],45⟩ (Sy.Fin [RV.t 2] (aQ (if CS.length < 2 then CS else (stk CS).dropLast ++ (stk CS.reverse).dropLast))) by
  refine W_condD (by rfl) (fun h6=>?_) (fun h6=>?_)
  ·have e1 : CS = s:=by
    rw [hCS,show s.length = 1 by omega]
    show s.take 1 = s
    rw [List.take_of_length_le (by omega)]
   have r:=rest 1
   rw [e1] at r ⊢
   (refine go0 ?_;try exact tTI)
   refine W_ret ⟨[_],_,⟨rfl,rfl⟩,rfl,?_⟩
   (refine syP ?_;try exact tTI)
   exact W_le (le_to [3] [6] 45 (by rfl) rfl) r
  (refine go0 ?_;try exact tTI)
  refine W_loopU (fun k : Nat=>[(3,iv ((k : Int) + 1))]) (fun k=>[]) (fun k=>k + 1 ≤ s.length ∧ ∀ j,0 < j → j < k + 1 → eqP (s.getD j dQ) (s.getD (j - 1) dQ) = false) (fun k=>s.length - k) 0 ⟨by omega,fun j h1 h2=>by omega⟩ (by rfl) (by rfl) (fun k hk=>?_)
  obtain ⟨hk1,hk2⟩:=hk
  (refine sy1 ?_;try exact tTI)
  (refine go0 ?_;try exact tTI)
  refine W_condD (by rfl) (fun h7=>?_) (fun h7=>?_)
  ·have e1 : ((k : Int) + 1).toNat = k + 1:=by omega
   have e2 : ((k : Int) + 1 - 1).toNat = k:=by omega
   have ee : eqP (s.getD (k + 1) dQ) (s.getD (k + 1 - 1) dQ) = ((s.getD (k + 1) dQ).x == (s.getD k dQ).x && (s.getD (k + 1) dQ).y == (s.getD k dQ).y):=rfl
   (refine gof (ad2 e1 e2) ?_;try exact tTI)
   rw [← ee]
   refine W_cond (by rfl) (fun h8=>?_) (fun h8=>?_)
   ·have hlt : k + 1 < s.length:=by omega
    have hini : mkS s (k + 2) = s:=by
     rw [(mkS_eq s (n:=k + 1) (by omega) h8).1]
     unfold mkS
     rw [cpt_take s (k + 1) (by omega) (fun j h1 h2=>hk2 j h1 h2),List.length_take,Nat.min_eq_left (by omega),List.take_append_drop]
    have hcl : (cpt s (k + 2)).length = k + 1:=by
     rw [(mkS_eq s (n:=k + 1) (by omega) h8).2,cpt_take s (k + 1) (by omega) (fun j h1 h2=>hk2 j h1 h2),List.length_take];omega
    (refine gof e1 ?_;try exact tTI)
    rw [show rQ 1 s = .row 1 92 2 dQ cPt (mkS s (k + 2)) by rw [hini]]
    refine W_loopU (fun d : Nat=>[(3,iv ((cpt s (k + 2 + d)).length : Int)),(5,iv ((d : Int) + 1))]) (fun d=>[(6,.row 1 92 2 dQ cPt (mkS s (k + 2 + d)))]) (fun d=>k + 2 + d ≤ s.length) (fun d=>s.length - d) 0 (by omega) (by rfl) (by rw [hcl];rfl) (fun d hd=>?_)
    have hml:=mkS_len s hd
    have hdp:=cpt_dup s (k:=k + 1) (by omega) hlt h8 d (by omega)
    (refine sy1 ?_;try exact tTI)
    (refine gof hml ?_;try exact tTI)
    have hbd : (cpt s (k + 2 + d)).length ≤ k + 1 + d:=by rw [show k + 1 + 1 + d = k + 2 + d by omega] at hdp;omega
    refine W_condD (by rfl) (fun h9=>?_) (fun h9=>?_)
    ·have hn : k + 2 + d < s.length:=by omega
     have e3 : ((d : Int) + 1).toNat = d + 1:=by omega
     have e4 : ((d : Int) + 1 - 1).toNat = d:=by omega
     have g1:=mkS_get s (n:=k + 2 + d) (p:=k + 1 + (d + 1)) (by omega)
     have g2:=mkS_get s (n:=k + 2 + d) (p:=k + 1 + d) hbd
     have e5 : k + 2 + d - 1 = k + 1 + d:=by omega
     have e6 : k + 1 + (d + 1) = k + 2 + d:=by omega
     rw [e6] at g1
     have ef : eqP (s.getD (k + 2 + d) dQ) (s.getD (k + 2 + d - 1) dQ) = ((s.getD (k + 2 + d) dQ).x == (s.getD (k + 1 + d) dQ).x && (s.getD (k + 2 + d) dQ).y == (s.getD (k + 1 + d) dQ).y):=by rw [e5];rfl
     (refine gof (ad6 hml e3 e4 e6 g1 g2) ?_;try exact tTI)
     rw [← ef]
     have e7 : k + 2 + (d + 1) = k + 2 + d + 1:=by omega
     by_cases q : eqP (s.getD (k + 2 + d) dQ) (s.getD (k + 2 + d - 1) dQ) = true
     ·obtain ⟨u1,u2⟩:=mkS_eq s (n:=k + 2 + d) (by omega) q
      rw [q]
      refine W_cond (by rfl) (fun h=>by cases h) (fun _=>?_)
      (refine go0 ?_;try exact tTI)
      refine ⟨d + 1,by omega,by omega,by rfl,?_⟩
      rw [e7,u1,u2]
      (refine syE ?_;try exact tTI)
      try rfl
     ·obtain ⟨u1,u2⟩:=mkS_ne s (n:=k + 2 + d) (by omega) hn q
      rw [Bool.not_eq_true] at q
      rw [q]
      refine W_cond (by rfl) (fun _=>?_) (fun h=>by cases h)
      (refine gof (ad4 hml e3 e6 g1) ?_;try exact tTI)
      refine ⟨rfl,⟨Nat.le_of_ble_eq_true rfl,rfl⟩,by omega,s.getD (k + 2 + d) dQ,rfl,rfl,?_⟩
      rw [u1]
      (refine sy1 ?_;try exact tTI)
      (refine go0 ?_;try exact tTI)
      refine ⟨d + 1,by omega,by omega,by rfl,?_⟩
      rw [e7,u2]
      (refine syE ?_;try exact tTI)
      try rfl
    ·have e1 : k + 2 + d = s.length:=by omega
     have hms : mkS s (k + 2 + d) = CS ++ s.drop CS.length:=by unfold mkS;rw [e1,← hCS]
     have hcl2 : (cpt s (k + 2 + d)).length = CS.length:=by rw [e1,← hCS]
     have hcl3 : CS.length < s.length:=by omega
     rw [hms,hcl2]
     rw [hms] at hml
     (refine gof hml ?_;try exact tTI)
     refine ⟨⟨hcl3,rfl⟩,?_⟩
     have hl2 : (List.take CS.length (CS ++ List.drop CS.length s) ++ List.replicate (s.length - CS.length) dQ).length = s.length:=by
      rw [List.length_append,List.length_take,List.length_replicate,hml];omega
     have ht2 : (List.take CS.length (CS ++ List.drop CS.length s) ++ List.replicate (s.length - CS.length) dQ).take CS.length = CS:=by
      rw [List.take_left']
      ·rw [List.take_append_of_le_length (Nat.le_refl _),List.take_length]
      ·rw [List.length_take,hml];omega
     generalize (List.take CS.length (CS ++ List.drop CS.length s) ++ List.replicate (s.length - CS.length) dQ) = X at *
     (refine gof (ad2 hl2 ht2) ?_;try exact tTI)
     refine W_ret ⟨[_],_,⟨rfl,rfl⟩,rfl,?_⟩
     (refine syP ?_;try exact tTI)
     exact W_le (le_to [3] [6] 45 (by rfl) rfl) (rest 2)
   ·(refine go0 ?_;try exact tTI)
    refine ⟨k + 1,⟨by omega,fun j h1 h2=>?_⟩,by omega,by rfl,?_⟩
    ·by_cases q : j = k + 1
     ·rw [q];exact h8
     ·exact hk2 j h1 (by omega)
    (refine syE ?_;try exact tTI)
    try rfl
  ·have e1 : CS = s:=by
    rw [hCS,cpt_take s _ (Nat.le_refl _) (fun j h1 h2=>hk2 j h1 (by omega)),List.take_length]
   have r:=rest 1
   rw [e1] at r ⊢
   (refine go0 ?_;try exact tTI)
   refine W_ret ⟨[_],_,⟨rfl,rfl⟩,rfl,?_⟩
   (refine syP ?_;try exact tTI)
   exact W_le (le_to [3] [6] 45 (by rfl) rfl) r
 intro st
 have hcs : 0 < CS.length:=by rw [hCS];exact cpt_ne s _ hl0 (Nat.le_refl _)
 have hcl : CS.length ≤ 12:=by have:=cpt_len s s.length (Nat.le_refl _);rw [← hCS] at this;omega
 have hcm : ∀ x ∈ CS,bd x:=fun x hx=>hsm x (cpt_mem s _ (Nat.le_refl _) (hCS ▸ hx))
 refine W_le (le_move 3 7 0 6 st 92 2 [] [] 45 dQ cPt CS rfl rfl rfl rfl rfl rfl rfl (by omega)) ?_
 (refine sy1 ?_;try exact tTI)
 (refine go0 ?_;try exact tTI)
 refine W_condD (by rfl) (fun h6=>?_) (fun h6=>?_)
 ·rw [if_pos (by omega)]
  (refine go0 ?_;try exact tTI)
  exact W_ret ⟨[_],⟨rfl,rfl⟩,rfl⟩
 rw [if_neg (by omega)]
 have c1:=fn191 CS hcm (by omega)
 have c2:=fn191 CS.reverse (fun x hx=>hcm x (List.mem_reverse.1 hx)) (by rw [List.length_reverse];omega)
 (refine go0 ?_;try exact tTI)
 refine CallC.inl (Inl_of_W mixed Xt192 rfl (fun vs=>?_))
 (refine sy1 ?_;try exact tTI)
 (refine go0 ?_;try exact tTI)
 refine W_ret ⟨[_],_,⟨rfl,rfl⟩,rfl,?_⟩
 (refine syP ?_;try exact tTI)
 refine CallC.inl (Inl_of_FnO c1 (by rfl) ?_)
 (refine sy1 ?_;try exact tTI)
 (refine go0 ?_;try exact tTI)
 refine CallC.inl (Inl_row mixed Xt193 rfl (l:=CS) (l':=CS.reverse) (by rfl) ?_ (fun M nx h1 h2=>w193 CS (by omega) h1 h2) ?_)
 ·intro j hj
  have hj : 61 ≤ j:=hj
  simp only [lm]
  rw [if_neg (by omega),if_neg (by omega)]
 (refine sy1 ?_;try exact tTI)
 (refine go0 ?_;try exact tTI)
 refine CallC.inl (Inl_of_W mixed Xt192 rfl (fun vs=>?_))
 (refine sy1 ?_;try exact tTI)
 (refine go0 ?_;try exact tTI)
 refine W_ret ⟨[_],_,⟨rfl,rfl⟩,rfl,?_⟩
 (refine syP ?_;try exact tTI)
 refine CallC.inl (Inl_of_FnO c2 (by rfl) ?_)
 have hA : 0 < (stk CS).length ∧ (stk CS).length ≤ 12:=by
  have:=stkR_len CS CS.length (Nat.le_refl _)
  unfold stk
  rw [List.length_reverse];omega
 have hB : 0 < (stk CS.reverse).length ∧ (stk CS.reverse).length ≤ 12:=by
  have:=stkR_len CS.reverse CS.reverse.length (Nat.le_refl _)
  rw [List.length_reverse] at this
  unfold stk
  rw [List.length_reverse,List.length_reverse];omega
 generalize stk CS = A at *
 generalize stk CS.reverse = B at *
 have tA : A.take ((A.length : Int) - 1).toNat = A.dropLast:=by rw [List.dropLast_eq_take];congr 1;omega
 have tB : B.take ((B.length : Int) - 1).toNat = B.dropLast:=by rw [List.dropLast_eq_take];congr 1;omega
 (refine sy1 ?_;try exact tTI)
 (refine gof (ad2 tA tB) ?_;try exact tTI)
 have lA : A.dropLast.length = A.length - 1:=List.length_dropLast
 have lB : B.dropLast.length = B.length - 1:=List.length_dropLast
 generalize A.dropLast = A' at *
 generalize B.dropLast = B' at *
 refine ⟨rfl,⟨Nat.le_of_ble_eq_true rfl,rfl⟩,trivial,B',rfl,by first | omega | (simp;done) | (simp;omega),by first | omega | (simp;done) | (simp;omega),?_⟩
 (refine sy1 ?_;try exact tTI)
 exact W_ret ⟨[_],⟨rfl,rfl⟩,rfl⟩
abbrev Dr:=Int × Int
def dD : Dr:=(0,0)
abbrev cD (d : Dr) : List AV:=[iv d.1,iv d.2,iv 0]
abbrev aD (l : List Dr) : AV:=.sl 3 dD cD l
def dot (d : Dr) (p : Pt) : Int:=d.1 * p.x + d.2 * p.y
def spn (d : Dr) (h : List Pt) (n : Nat) : Int × Int:=((h.drop 1).take n).foldl (fun s p=>(min s.1 (dot d p),max s.2 (dot d p))) (dot d (h.getD 0 dQ),dot d (h.getD 0 dQ))
def loS (d : Dr) (h : List Pt) : Int:=(spn d h (h.length - 1)).1
def hiS (d : Dr) (h : List Pt) : Int:=(spn d h (h.length - 1)).2
theorem spn_succ (d : Dr) (h : List Pt) {n : Nat} (hn : n < h.length - 1) : spn d h (n + 1) = (min (spn d h n).1 (dot d ((h.drop 1).getD n dQ)),max (spn d h n).2 (dot d ((h.drop 1).getD n dQ))):=by
 have hn2 : n < (h.drop 1).length:=by rw [List.length_drop];exact hn
 unfold spn
 rw [List.take_succ_eq_append_getElem hn2,List.foldl_append]
 simp [List.getD,hn]
def bdD (d : Dr) : Prop:=(-268435456 ≤ d.1 ∧ d.1 ≤ 268435456) ∧ -268435456 ≤ d.2 ∧ d.2 ≤ 268435456
theorem dot_rng {d : Dr} {p : Pt} (h1 : bdD d) (h2 : bd p) : (-18014398509481984 ≤ d.1 * p.x ∧ d.1 * p.x ≤ 18014398509481984) ∧ (-18014398509481984 ≤ d.2 * p.y ∧ d.2 * p.y ≤ 18014398509481984):=by
 unfold bdD at h1
 unfold bd at h2
 have m1:=abs_mul (show -268435456 ≤ d.1 ∧ d.1 ≤ 268435456 by omega) (show -67108864 ≤ p.x ∧ p.x ≤ 67108864 by omega)
 have m2:=abs_mul (show -268435456 ≤ d.2 ∧ d.2 ≤ 268435456 by omega) (show -67108864 ≤ p.y ∧ p.y ≤ 67108864 by omega)
 omega
theorem getQ_mem {l : List Pt} {i : Nat} (h : i < l.length) : l.getD i dQ ∈ l:=by
 simp only [List.getD,List.getElem?_eq_getElem h,Option.getD_some];exact List.getElem_mem h
theorem fn240 (d : Dr) (k : Int) (h : List Pt) (hd : bdD d) (hq : ∀ p ∈ h,bd p) (hl : 0 < h.length ∧ h.length ≤ 1000000) : Sy.Fn Tryz.prog 240 [.agg [iv d.1,iv d.2,iv k],aQ h] (.tup [iv (loS d h),iv (hiS d h)]):=by
 refine Fn_of_W mixed Xt240 rfl ?_
 have h0:=dot_rng hd (hq _ (getQ_mem hl.1))
 have es : spn d h 0 = (d.1 * (h.getD 0 dQ).x + d.2 * (h.getD 0 dQ).y,d.1 * (h.getD 0 dQ).x + d.2 * (h.getD 0 dQ).y):=rfl
 have hsu:=fun n hn=>spn_succ d h (n:=n) hn
 have hm : ∀ p ∈ h.drop 1,bd p:=fun p hp=>hq p (List.mem_of_mem_drop hp)
 have hdl : (h.drop 1).length = h.length - 1:=List.length_drop
 obtain ⟨T,hT⟩ : ∃ T,T = h.drop 1:=⟨_,rfl⟩
 rw [← hT] at hm hdl
 have hdr : h.drop (1 : Int).toNat = T:=hT.symm
 have hdr2 : h.drop 1 = T:=hT.symm
 simp only [← hT,← hdl] at hsu
 unfold loS hiS
 rw [← hdl]
 (refine gof (ad2 hdr hdr2) ?_;try exact tTI)
 refine W_loopU (fun n : Nat=>[(44,iv n),(6,iv (spn d h n).1),(7,iv (spn d h n).2)]) (fun n=>[]) (fun n=>n ≤ T.length) (fun n=>T.length - n) 0 (Nat.zero_le _) (by rfl) (by rfl) (fun n hn=>?_)
 (refine sy1 ?_;try exact tTI)
 (refine go0 ?_;try exact tTI)
 refine W_condD (by rfl) (fun h5=>?_) (fun h5=>?_)
 ·have hlt : n < T.length:=by omega
  have hs:=hsu n hlt
  have hp:=dot_rng hd (hm _ (getQ_mem hlt))
  unfold dot at hs
  generalize spn d h n = A at *
  generalize hp0 : T.getD n dQ = p at *
  (refine gof hp0 ?_;try exact tTI)
  refine ⟨n + 1,by omega,by omega,by rfl,?_⟩
  rw [hs]
  (refine syE ?_;try exact tTI)
 ·obtain rfl : n = T.length:=by omega
  (refine go0 ?_;try exact tTI)
  exact W_ret ⟨[_,_],⟨rfl,rfl,rfl⟩,rfl⟩
def fdD (a b : List Pt) (ds : List Dr) : Option Dr:=ds.find? fun d=>decide (hiS d a < loS d b)
def tvL (a : List Pt) : Option Dr → List AV
 |some d=>[iv d.1,iv d.2,iv (hiS d a)]
 |none=>[iv 0,iv 0,iv 0]
theorem fdD_at {a b : List Pt} {ds : List Dr} {n : Nat} (hn : n < ds.length) (h0 : ∀ j,j < n → ¬ hiS (ds.getD j dD) a < loS (ds.getD j dD) b) (h1 : hiS (ds.getD n dD) a < loS (ds.getD n dD) b) : fdD a b ds = some (ds.getD n dD):=by
 unfold fdD
 rw [List.find?_eq_some_iff_getElem]
 refine ⟨decide_eq_true h1,n,hn,by simp [List.getD,hn],fun j hj=>?_⟩
 have:=h0 j hj
 have hj2 : j < ds.length:=by omega
 simp only [List.getD,List.getElem?_eq_getElem hj2,Option.getD_some] at this
 simpa using this
theorem fdD_no {a b : List Pt} {ds : List Dr} (h0 : ∀ j,j < ds.length → ¬ hiS (ds.getD j dD) a < loS (ds.getD j dD) b) : fdD a b ds = none:=by
 unfold fdD
 rw [List.find?_eq_none]
 intro x hx
 obtain ⟨j,hj,rfl⟩:=List.getElem_of_mem hx
 have:=h0 j hj
 simp only [List.getD,List.getElem?_eq_getElem hj,Option.getD_some] at this
 simpa using this
theorem fn219 (a b : List Pt) (ds : List Dr) (hds : ∀ d ∈ ds,bdD d) (ha : ∀ p ∈ a,bd p) (hb : ∀ p ∈ b,bd p) (la : 0 < a.length ∧ a.length ≤ 1000000) (lb : 0 < b.length ∧ b.length ≤ 1000000) (ld : ds.length ≤ 1000000) :
  Sy.Fn Tryz.prog 219 [aQ a,aQ b,aD ds] (.tup [.agg (tvL a (fdD a b ds)),bv (fdD a b ds).isSome]):=by
 refine Fn_of_W mixed Xt219 rfl ?_
 (refine go0 ?_;try exact tTI)
 refine W_loopU (fun n : Nat=>[(16,iv n)]) (fun n=>[]) (fun n=>n ≤ ds.length ∧ ∀ j,j < n → ¬ hiS (ds.getD j dD) a < loS (ds.getD j dD) b) (fun n=>ds.length - n) 0 ⟨Nat.zero_le _,fun j hj=>by omega⟩ (by rfl) (by rfl) (fun n hn=>?_)
 obtain ⟨hn,hall⟩:=hn
 (refine sy1 ?_;try exact tTI)
 (refine go0 ?_;try exact tTI)
 refine W_condD (by rfl) (fun h5=>?_) (fun h5=>?_)
 ·have hlt : n < ds.length:=by omega
  have hat:=fdD_at (a:=a) (b:=b) hlt hall
  have hd:=hds (ds.getD n dD) (by simp only [List.getD,List.getElem?_eq_getElem hlt,Option.getD_some];exact List.getElem_mem hlt)
  generalize hdd : ds.getD n dD = d at *
  have c1:=fn240 d 0 a hd ha la
  have c2:=fn240 d 0 b hd hb lb
  (refine gofcc hdd c1 c2 ?_;try exact tTI)
  refine W_condD (by rfl) (fun h6=>?_) (fun h6=>?_)
  ·rw [hat h6]
   (refine go0 ?_;try exact tTI)
   exact W_ret ⟨[_,_],⟨⟨by simp,rfl⟩,rfl,rfl⟩,rfl⟩
  (refine go0 ?_;try exact tTI)
  refine ⟨n + 1,⟨by omega,fun j hj=>?_⟩,by omega,by rfl,?_⟩
  ·by_cases q : j = n
   ·rw [q,hdd];exact h6
   ·exact hall j (by omega)
  (refine syE ?_;try exact tTI)
 ·rw [fdD_no (fun j hj=>hall j (by omega))]
  (refine go0 ?_;try exact tTI)
  exact W_ret ⟨[_,_],⟨⟨by simp,rfl⟩,rfl,rfl⟩,rfl⟩
def dd (p q : Pt) : List Dr:=[(q.y - p.y,0 - (q.x - p.x)),(0 - (q.y - p.y),q.x - p.x),(q.x - p.x,q.y - p.y),(0 - (q.x - p.x),0 - (q.y - p.y))]
def sdN (h : List Pt) (n : Nat) : List Dr:=(List.range n).flatMap fun i=>dd (h.getD i dQ) (h.getD ((i + 1) % h.length) dQ)
def sdL (h : List Pt) : List Dr:=sdN h h.length
theorem sdN_succ (h : List Pt) (n : Nat) : sdN h (n + 1) = sdN h n ++ dd (h.getD n dQ) (h.getD ((n + 1) % h.length) dQ):=by
 unfold sdN
 rw [List.range_succ,List.flatMap_append]
 simp
def d0 (a b : List Pt) : Dr:=((b.getD 0 dQ).x - (a.getD 0 dQ).x,(b.getD 0 dQ).y - (a.getD 0 dQ).y)
def drL (a b : List Pt) : List Dr:=d0 a b :: (sdL a ++ sdL b)
theorem fdD_app (a b : List Pt) (l m : List Dr) : fdD a b (l ++ m) = (fdD a b l).or (fdD a b m):=by
 unfold fdD
 rw [List.find?_append]
def apB (a b : List Pt) : Bool:=(fdD a b (drL a b)).isSome
theorem bd_dif {p q : Pt} (h1 : bd p) (h2 : bd q) : (-134217728 ≤ q.x - p.x ∧ q.x - p.x ≤ 134217728) ∧ -134217728 ≤ q.y - p.y ∧ q.y - p.y ≤ 134217728:=by
 unfold bd at h1 h2;omega
theorem dd_bd {p q : Pt} (h1 : bd p) (h2 : bd q) : ∀ d ∈ dd p q,bdD d:=by
 have:=bd_dif h1 h2
 intro d hd
 unfold dd at hd
 simp only [List.mem_cons,List.not_mem_nil,or_false] at hd
 rcases hd with rfl | rfl | rfl | rfl <;> (unfold bdD;dsimp only;omega)
theorem fn220 (h : List Pt) : Sy.Fn Tryz.prog 220 [aQ h] (.clo 241 [] [.fp [aQ h] 0]):=by
 refine Fn_of_W mixed Xt220 rfl ?_
 (refine go0 ?_;try exact tTI)
 exact W_ret ⟨[_],⟨rfl,rfl⟩,rfl⟩
theorem fdD_pre {a b : List Pt} {l m : List Dr} {d : Dr} (h : fdD a b l = none) (h2 : fdD a b m = some d) (r : List Dr) : fdD a b (l ++ m ++ r) = some d:=by
 rw [fdD_app,fdD_app,h,h2];rfl
def hl2 (a b : List Pt) (j : Nat) : List Pt:=if j = 0 then a else b
def sdR (h : List Pt) (n : Nat) : List Dr:=(List.range' n (h.length - n)).flatMap fun i=>dd (h.getD i dQ) (h.getD ((i + 1) % h.length) dQ)
theorem sdL_cut (h : List Pt) {i : Nat} (hi : i < h.length) {p q : Pt} (hp : h.getD i dQ = p) (hq : h.getD ((i + 1) % h.length) dQ = q) : sdL h = sdN h i ++ dd p q ++ sdR h (i + 1):=by
 have e : sdN h i ++ dd p q = sdN h (i + 1):=by rw [sdN_succ,hp,hq]
 rw [e]
 unfold sdL sdN sdR
 rw [← List.flatMap_append]
 congr 1
 rw [List.range_eq_range',List.range_eq_range']
 have h2:=List.range'_append_1 (s:=0) (m:=i + 1) (n:=h.length - (i + 1))
 rw [Nat.zero_add] at h2
 rw [h2]
 congr 1
 omega
theorem fn197 (a b : List Pt) (ha : ∀ p ∈ a,bd p) (hb : ∀ p ∈ b,bd p) (la : 0 < a.length ∧ a.length ≤ 1000000) (lb : 0 < b.length ∧ b.length ≤ 1000000) :
  Sy.Fn Tryz.prog 197 [aQ a,aQ b] (.tup [.agg (tvL a (fdD a b (drL a b))),bv (apB a b)]):=by
 refine Fn_of_W mixed Xt197 rfl ?_
 have hdf:=bd_dif (ha _ (getQ_mem la.1)) (hb _ (getQ_mem lb.1))
 have c1:=fn219 a b [d0 a b] (by
  intro d hd
  rw [List.mem_singleton] at hd
  subst hd
  unfold bdD d0;dsimp only;omega) ha hb la lb (by show 1 ≤ _;omega)
 have cc:=fun (p q : Pt) (hp : bd p) (hq : bd q)=>fn219 a b (dd p q) (dd_bd hp hq) ha hb la lb (by show 4 ≤ _;omega)
 have er : apB a b = (fdD a b (drL a b)).isSome:=rfl
 have ed : fdD a b (drL a b) = (fdD a b [d0 a b]).or ((fdD a b (sdL a)).or (fdD a b (sdL b))):=by
  show fdD a b ([d0 a b] ++ (sdL a ++ sdL b)) = _
  rw [fdD_app,fdD_app]
 generalize fdD a b (drL a b) = F at *
 have e0 : ((b.getD 0 dQ).x - (a.getD 0 dQ).x,(b.getD 0 dQ).y - (a.getD 0 dQ).y) = d0 a b:=rfl
 rw [er]
 (refine go0 ?_;try exact tTI)
 refine ⟨rfl,trivial,Dr,dD,cD,[d0 a b],rfl,by omega,fun x _=>⟨rfl,rfl⟩,rfl,?_⟩
 (refine sy1 ?_;try exact tTI)
 cases hfd : fdD a b [d0 a b] with
 |some d=>
  rw [hfd] at c1 ed
  obtain rfl : F = some d:=ed
  have c1 : Sy.Fn Tryz.prog 219 [aQ a,aQ b,aD [d0 a b]] (.tup [.agg [iv d.1,iv d.2,iv (hiS d a)],bv true]):=c1
  (refine go_g c1 ?_;try exact tTI)
  refine W_cond (by rfl) (fun _=>?_) (fun h=>by cases h)
  (refine go0 ?_;try exact tTI)
  exact W_ret ⟨[_,_],⟨⟨by simp,rfl⟩,⟨by simp,rfl⟩,rfl⟩,rfl⟩
 |none=>
  rw [hfd,Option.none_or] at ed
  rw [hfd] at c1
  have c1 : Sy.Fn Tryz.prog 219 [aQ a,aQ b,aD [d0 a b]] (.tup [.agg [iv 0,iv 0,iv 0],bv false]):=c1
  (refine go_g c1 ?_;try exact tTI)
  refine W_cond (by rfl) (fun h=>by cases h) (fun _=>?_)
  (refine go0 ?_;try exact tTI)
  refine W_loopU (fun j : Nat=>[(47,iv j)]) (fun j=>[]) (fun j=>j ≤ 2 ∧ (1 ≤ j → fdD a b (sdL a) = none) ∧ (2 ≤ j → fdD a b (sdL b) = none)) (fun j=>2 - j) 0 ⟨by omega,fun h=>by omega,fun h=>by omega⟩ (by rfl) (by rfl) (fun j hj=>?_)
  obtain ⟨hj,hp1,hp2⟩:=hj
  (refine sy1 ?_;try exact tTI)
  (refine go0 ?_;try exact tTI)
  refine W_condD (by rfl) (fun h5=>?_) (fun h5=>?_)
  ·obtain ⟨h,hh⟩ : ∃ h,h = hl2 a b j:=⟨_,rfl⟩
   have hq : ∀ p ∈ h,bd p:=by rw [hh];unfold hl2;split <;> assumption
   have lh : 0 < h.length ∧ h.length ≤ 1000000:=by rw [hh];unfold hl2;split <;> assumption
   have en : nth [aQ a,aQ b] j = aQ h:=by
    rw [hh];unfold hl2
    rcases (show j = 0 ∨ j = 1 by omega) with rfl | rfl <;> rfl
   have hup : fdD a b (sdL h) = none → (1 ≤ j + 1 → fdD a b (sdL a) = none) ∧ (2 ≤ j + 1 → fdD a b (sdL b) = none):=by
    rw [hh];unfold hl2
    rcases (show j = 0 ∨ j = 1 by omega) with rfl | rfl
    ·exact fun q=>⟨fun _=>q,fun h=>by omega⟩
    ·exact fun q=>⟨fun _=>hp1 (by omega),fun _=>q⟩
   have hit : ∀ d,fdD a b (sdL h) = some d → F = some d:=by
    rw [hh,ed];unfold hl2
    rcases (show j = 0 ∨ j = 1 by omega) with rfl | rfl
    ·intro d q;simp only [if_true] at q;rw [q];rfl
    ·intro d q
     rw [if_neg (by omega)] at q
     rw [hp1 (by omega),q];rfl
   (refine gofc (ad2 Nat.mul_one en) (fn220 h) ?_;try exact tTI)
   refine W_rfn (.inl rfl) (fun lp R hR=>Inl_of_W mixed Xt241 rfl (fun vs=>?_))
   (refine sy1 ?_;try exact tTI)
   (refine go0 ?_;try exact tTI)
   refine W_loopU (fun i : Nat=>[(7,iv i)]) (fun i=>[]) (fun i=>i ≤ h.length ∧ fdD a b (sdN h i) = none) (fun i=>h.length - i) 0 ⟨Nat.zero_le _,rfl⟩ (by rfl) (by rfl) (fun i hi=>?_)
   obtain ⟨hi,hpi⟩:=hi
   (refine sy1 ?_;try exact tTI)
   (refine go0 ?_;try exact tTI)
   refine W_condD (by rfl) (fun h6=>?_) (fun h6=>?_)
   ·have hlt : i < h.length:=by omega
    have em : ((i : Int) + 1).tmod (h.length : Int) = (((i + 1) % h.length : Nat) : Int):=(Int.ofNat_tmod (i + 1) h.length).symm
    have hml : (i + 1) % h.length < h.length:=Nat.mod_lt _ (by omega)
    obtain ⟨p,hp⟩ : ∃ p,h.getD i dQ = p:=⟨_,rfl⟩
    obtain ⟨q,hq2⟩ : ∃ q,h.getD ((i + 1) % h.length) dQ = q:=⟨_,rfl⟩
    have bp : bd p:=by rw [← hp];exact hq _ (getQ_mem hlt)
    have bq : bd q:=by rw [← hq2];exact hq _ (getQ_mem hml)
    have hsu:=sdN_succ h i
    rw [hp,hq2] at hsu
    have hcut:=sdL_cut h hlt hp hq2
    have c2:=cc p q bp bq
    have hdq:=bd_dif bp bq
    generalize (i + 1) % h.length = m at *
    repeat (first | refine WK_go ?_ | refine W_seqL ?_ | refine W_seq ?_ | refine W_block ?_)
    refine W_skip ?_
    (refine sy1 ?_;try exact tTI)
    repeat (first | refine WK_go ?_ | refine W_seqL ?_ | refine W_seq ?_ | refine W_block ?_)
    refine W_regL ?_
    (refine syf hp ?_;try exact tTI)
    refine ⟨by omega,?_⟩
    have hne1 : ¬ ((h.length : Int) = 0):=by omega
    have hne2 : ¬ (h.length = 0):=by omega
    have hne3 : ¬ (h = []):=fun e=>by rw [e] at lh;simp at lh
    repeat' (first | refine w1g ?_ | refine w1l ?_ | refine w1q ?_ | refine w1b ?_ | refine w1p ?_ | ((first | refine W_regS 10 (by decide) (by decide) ?_ | refine w1r ?_ | refine w1k ?_ | refine w1e ?_);(refine syf (ad2 em hq2) ?_;try exact tTI)) | refine an2 ?_ | fail)
    refine StopC.yld (fun hpc=>⟨trivial,Yl_of_W (k:=43) mixed hR rfl rfl rfl (fun vs2=>?_)⟩) (fun hpc=>absurd (by simp [Sy.pc]) hpc)
    (refine sy1 ?_;try exact tTI)
    (refine go0 ?_;try exact tTI)
    refine ⟨_,rfl,?_⟩
    (refine sy1 ?_;try exact tTI)
    (refine go0 ?_;try exact tTI)
    refine ⟨rfl,trivial,Dr,dD,cD,dd p q,rfl,by omega,fun x _=>⟨rfl,rfl⟩,rfl,?_⟩
    (refine sy1 ?_;try exact tTI)
    cases hfe : fdD a b (dd p q) with
    |some d=>
     obtain rfl : F = some d:=hit d (by
      have e1:=hcut
      rw [e1]
      exact fdD_pre hpi hfe _)
     rw [hfe] at c2
     have c2 : Sy.Fn Tryz.prog 219 [aQ a,aQ b,aD (dd p q)] (.tup [.agg [iv d.1,iv d.2,iv (hiS d a)],bv true]):=c2
     (refine go_g c2 ?_;try exact tTI)
     refine W_cond (by rfl) (fun _=>?_) (fun h=>by cases h)
     (refine go0 ?_;try exact tTI)
     refine W_ret ?_
     (refine sy1 ?_;try exact tTI)
     refine ⟨_,_,rfl,rfl,?_⟩
     (refine sy1 ?_;try exact tTI)
     (refine go0 ?_;try exact tTI)
     refine W_cond (by rfl) (fun _=>?_) (fun h=>by cases h)
     (refine go0 ?_;try exact tTI)
     refine W_ret ?_
     refine ⟨_,_,rfl,rfl,⟨_,_,rfl,by simp [doneL],?_⟩⟩
     simp (maxSteps:=400000) (disch:=omega) only [push_cast,↓reduceIte,reduceCtorEq,Nat.reduceAdd,Nat.reduceSub,Nat.reduceEqDiff,Nat.reduceLeDiff,Nat.reduceLT,Nat.reduceBEq,Nat.reduceDiv,Nat.reduceMod,Nat.reducePow,Nat.reduceMul,Int.reduceToNat,Int.reduceLT,Int.reduceLE,doneL,EndP]
     exact ⟨[_,_],⟨⟨by simp,rfl⟩,⟨by simp,rfl⟩,rfl⟩,rfl⟩
    |none=>
     rw [hfe] at c2
     have c2 : Sy.Fn Tryz.prog 219 [aQ a,aQ b,aD (dd p q)] (.tup [.agg [iv 0,iv 0,iv 0],bv false]):=c2
     (refine go_g c2 ?_;try exact tTI)
     refine W_cond (by rfl) (fun h=>by cases h) (fun _=>?_)
     (refine go0 ?_;try exact tTI)
     refine ⟨_,_,rfl,rfl,?_⟩
     (refine sy1 ?_;try exact tTI)
     (refine go0 ?_;try exact tTI)
     refine W_cond (by rfl) (fun h=>by cases h) (fun _=>?_)
     (refine go0 ?_;try exact tTI)
     refine ⟨i + 1,⟨by omega,?_⟩,by omega,by rfl,?_⟩
     ·rw [hsu,fdD_app,hpi,hfe];rfl
     (refine syE ?_;try exact tTI)
   ·obtain rfl : i = h.length:=by omega
    obtain ⟨u1,u2⟩:=hup hpi
    (refine go0 ?_;try exact tTI)
    refine ⟨_,_,rfl,rfl,⟨_,_,rfl,by rw [hR.st];simp,?_⟩⟩
    rw [hR.pe]
    (refine syN ?_;try exact tTI)
    (refine go0 ?_;try exact tTI)
    refine ⟨j + 1,⟨by omega,u1,u2⟩,by omega,by rfl,?_⟩
    (refine syE ?_;try exact tTI)
  ·have e2 : j = 2:=by omega
   subst e2
   obtain rfl : F = none:=by rw [ed,hp1 (by omega),hp2 (by omega)];rfl
   (refine go0 ?_;try exact tTI)
   exact W_ret ⟨[_,_],⟨⟨by simp,rfl⟩,⟨by simp,rfl⟩,rfl⟩,rfl⟩
theorem tvL_lit (a : List Pt) (o : Option Dr) : ∃ x y k,tvL a o = [iv x,iv y,iv k]:=by cases o <;> exact ⟨_,_,_,rfl⟩
theorem fn158 (a b : List Pt) (ha : ∀ p ∈ a,bd p) (hb : ∀ p ∈ b,bd p) (la : 0 < a.length ∧ a.length ≤ 1000000) (lb : 0 < b.length ∧ b.length ≤ 1000000) :
  Sy.Fn Tryz.prog 158 [aQ a,aQ b] (bv (apB a b)):=by
 refine Fn_of_W mixed Xt158 rfl ?_
 have c:=fn197 a b ha hb la lb
 obtain ⟨x,y,k,e⟩:=tvL_lit a (fdD a b (drL a b))
 rw [e] at c
 generalize apB a b = B at *
 (refine go_c c ?_;try exact tTI)
 exact W_ret ⟨[_],⟨rfl,rfl⟩,rfl⟩
def gr4 (t : Int) (p : Pt) : List Pt:=[⟨p.x + (0 - t),p.y + (0 - t)⟩,⟨p.x + (0 - t),p.y + t⟩,⟨p.x + t,p.y + (0 - t)⟩,⟨p.x + t,p.y + t⟩]
abbrev gr4d (t : Int) : List AV:=[iv (0 - t),iv (0 - t),iv (0 - t),iv t,iv t,iv (0 - t),iv t,iv t]
def grL (t : Int) (h : List Pt) : List Pt:=h.flatMap (gr4 t)
def grN (t : Int) (h : List Pt) (n : Nat) : List Pt:=(h.take n).flatMap (gr4 t)
theorem grN_succ (t : Int) (h : List Pt) {n : Nat} (hn : n < h.length) : grN t h (n + 1) = grN t h n ++ gr4 t (h.getD n dQ):=by
 unfold grN
 rw [List.take_succ_eq_append_getElem hn,List.flatMap_append]
 simp [List.getD,hn]
theorem grN_len (t : Int) (h : List Pt) : ∀ n,(grN t h n).length ≤ 4 * n
 |0=>by simp [grN]
 |n + 1=>by
  by_cases hn : n < h.length
  ·rw [grN_succ t h hn,List.length_append]
   have:=grN_len t h n
   show _ + 4 ≤ _;omega
  ·have e : grN t h (n + 1) = grN t h n:=by unfold grN;rw [List.take_of_length_le (by omega),List.take_of_length_le (by omega)]
   rw [e]
   have:=grN_len t h n
   omega
theorem grL_len (t : Int) (h : List Pt) : (grL t h).length = 4 * h.length:=by
 unfold grL
 induction h with
 |nil=>rfl
 |cons p r ih=>rw [List.flatMap_cons,List.length_append,ih,List.length_cons];show 4 + _ = _;omega
theorem grL_bd {t : Int} {h : List Pt} (ht : 0 ≤ t ∧ t ≤ 33554432) (hh : ∀ p ∈ h,okQ p = true) : ∀ p ∈ grL t h,bd p:=by
 intro p hp
 unfold grL at hp
 rw [List.mem_flatMap] at hp
 obtain ⟨q,hq,hp⟩:=hp
 have:=okQ_iff.1 (hh q hq)
 unfold gr4 at hp
 simp only [List.mem_cons,List.not_mem_nil,or_false] at hp
 rcases hp with rfl | rfl | rfl | rfl <;> (unfold bd;dsimp only;omega)
theorem fn159 (h : List Pt) (t : Int) (hh : ∀ p ∈ h,okQ p = true) (hl : 0 < h.length ∧ h.length ≤ 3) (ht : 0 ≤ t ∧ t ≤ 33554432) :
  Sy.Fn Tryz.prog 159 [aQ h,iv t] (aQ (crn (grL t h))):=by
 refine Fn_of_W mixed Xt159 rfl ?_
 have c156:=fn156 (grL t h) (grL_bd ht hh) (by rw [grL_len];omega)
 (refine go0 ?_;try exact tTI)
 refine W_le (le_adopt 5 92 2 dQ cPt (by omega) rfl) ?_
 (refine sy1 ?_;try exact tTI)
 refine W_loopU (fun i : Nat=>[(12,iv i),(5,.row 5 (grN t h i).length)]) (fun i=>[(5,.row (grN t h i).length 92 2 dQ cPt (grN t h i))]) (fun i=>i ≤ h.length) (fun i=>h.length - i) 0 (Nat.zero_le _) (by rfl) (by rfl) (fun i hi=>?_)
 have hgl:=grN_len t h i
 (refine sy1 ?_;try exact tTI)
 (refine go0 ?_;try exact tTI)
 refine W_condD (by rfl) (fun h5=>?_) (fun h5=>?_)
 ·have hlt : i < h.length:=by omega
  have hsu:=grN_succ t h hlt
  have hp:=okQ_iff.1 (hh _ (getQ_mem hlt))
  generalize hpp : h.getD i dQ = p at *
  generalize grN t h i = L at *
  (refine gof hpp ?_;try exact tTI)
  refine W_loopU (fun k : Nat=>[(33,iv k),(5,.row 5 (L ++ (gr4 t p).take k).length)]) (fun k=>[(5,.row (L ++ (gr4 t p).take k).length 92 2 dQ cPt (L ++ (gr4 t p).take k))]) (fun k=>k ≤ 4) (fun k=>4 - k) 0 (Nat.zero_le _) (by rfl) (by rw [List.take_zero,List.append_nil];rfl) (fun k hk=>?_)
  have hkl : (L ++ (gr4 t p).take k).length ≤ 100:=by
   rw [List.length_append,List.length_take]
   show L.length + min k 4 ≤ _;omega
  (refine sy1 ?_;try exact tTI)
  (refine go0 ?_;try exact tTI)
  refine W_condD (by rfl) (fun h6=>?_) (fun h6=>?_)
  ·have hs : L ++ (gr4 t p).take (k + 1) = (L ++ (gr4 t p).take k) ++ [(gr4 t p).getD k dQ]:=by
    rcases (show k = 0 ∨ k = 1 ∨ k = 2 ∨ k = 3 by omega) with rfl | rfl | rfl | rfl <;> (rw [List.append_assoc];rfl)
   obtain ⟨dx,dy,e1,e3,hdx⟩ : ∃ dx dy,List.take 2 (List.drop (k * 2) (gr4d t)) = [iv dx,iv dy] ∧ (gr4 t p).getD k dQ = ⟨p.x + dx,p.y + dy⟩ ∧ (-33554432 ≤ dx ∧ dx ≤ 33554432 ∧ -33554432 ≤ dy ∧ dy ≤ 33554432):=by
    rcases (show k = 0 ∨ k = 1 ∨ k = 2 ∨ k = 3 by omega) with rfl | rfl | rfl | rfl <;> exact ⟨_,_,rfl,rfl,by omega⟩
   rw [e3] at hs
   generalize L ++ (gr4 t p).take k = M at *
   (refine gof e1 ?_;try exact tTI)
   refine ⟨rfl,trivial,Pt,dQ,cPt,[⟨p.x + dx,p.y + dy⟩],rfl,by omega,fun x _=>⟨rfl,rfl⟩,rfl,?_⟩
   (refine sy1 ?_;try exact tTI)
   refine ⟨rfl,⟨Nat.le_of_ble_eq_true rfl,rfl⟩,trivial,[(⟨p.x + dx,p.y + dy⟩ : Pt)],rfl,by first | omega | (simp;omega),by first | omega | (simp;omega),?_⟩
   (refine sy1 ?_;try exact tTI)
   (refine go0 ?_;try exact tTI)
   refine ⟨k + 1,by omega,by omega,by rfl,?_⟩
   rw [hs,List.length_append]
   (refine syE ?_;try exact tTI)
  ·have e4 : k = 4:=by omega
   subst e4
   have hs : L ++ (gr4 t p).take 4 = L ++ gr4 t p:=rfl
   rw [hs,← hsu]
   (refine go0 ?_;try exact tTI)
   refine ⟨i + 1,by omega,by omega,by rfl,?_⟩
   (refine syE ?_;try exact tTI)
 ·have e4 : i = h.length:=by omega
  subst e4
  have hs : grN t h h.length = grL t h:=by unfold grN grL;rw [List.take_length]
  rw [hs]
  refine w1e ?_
  (refine sy1 ?_;try exact tTI)
  refine w1g ?_
  refine W_le (le_frzR 5 [] [] 8 5 (grL t h).length 92 2 dQ cPt (grL t h) rfl rfl rfl rfl) ?_
  (refine sy1 ?_;try exact tTI)
  (refine go_c c156 ?_;try exact tTI)
  exact W_ret ⟨[_],⟨rfl,rfl⟩,rfl⟩
theorem fn218 (a : List Pt) (la : a.length ≤ 1000000) : Sy.Fn Tryz.prog 218 [aQ a,aQ a] (bv true):=by
 refine Fn_of_W mixed Xt218 rfl ?_
 (refine go0 ?_;try exact tTI)
 refine W_cond (by rfl) (fun h=>absurd h (by simp)) (fun _=>?_)
 (refine go0 ?_;try exact tTI)
 refine W_loopU (fun i : Nat=>[(13,iv i)]) (fun i=>[]) (fun i=>i ≤ a.length) (fun i=>a.length - i) 0 (Nat.zero_le _) (by rfl) (by rfl) (fun i hi=>?_)
 (refine sy1 ?_;try exact tTI)
 (refine go0 ?_;try exact tTI)
 refine W_condD (by rfl) (fun h5=>?_) (fun h5=>?_)
 ·have hlt : i < a.length:=by omega
  generalize hpp : a.getD i dQ = p at *
  (refine gof hpp ?_;try exact tTI)
  refine W_cond (by rfl) (fun h=>absurd h (by simp)) (fun _=>?_)
  (refine go0 ?_;try exact tTI)
  refine ⟨i + 1,by omega,by omega,by rfl,?_⟩
  (refine syE ?_;try exact tTI)
 ·(refine go0 ?_;try exact tTI)
  exact W_ret ⟨[_],⟨rfl,rfl⟩,rfl⟩
structure Hul (l : List Pt) : Prop where
 ok : l.all okQ = true
 n : 0 < l.length ∧ l.length ≤ 12
 eq : crn l = l
theorem okQ_bd {p : Pt} (h : okQ p = true) : bd p:=by
 have:=okQ_iff.1 h
 unfold bd;omega
theorem Hul.mem {l : List Pt} (h : Hul l) {p : Pt} (hp : p ∈ l) : okQ p = true:=List.all_eq_true.1 h.ok p hp
theorem fn196 (l : List Pt) (h : Hul l) : Sy.Fn Tryz.prog 196 [aQ l] (bv true):=by
 refine Fn_of_W mixed Xt196 rfl ?_
 obtain ⟨h1,h2,h3⟩:=h
 have c153:=fn153 [l] (by simp) (fun i hi=>by
  obtain rfl : i = 0:=by simpa using hi
  exact ⟨by show l.length ≤ 256;omega,h1⟩)
 have c156:=fn156 l (fun x hx=>okQ_bd (List.all_eq_true.1 h1 x hx)) h2
 rw [h3] at c156
 have c218:=fn218 l (by omega)
 have hp : decide ((0 : Int) < (l.length : Int)) = true:=decide_eq_true (by omega)
 repeat (first | refine WK_go ?_ | refine W_seqL ?_ | refine W_seq ?_ | refine W_block ?_)
 refine W_regL ?_
 (refine sy1 ?_;try exact tTI)
 repeat (first | refine WK_go ?_ | refine W_seqL ?_ | refine W_seq ?_ | refine W_block ?_)
 refine W_regG [5] ?_
 simp (maxSteps:=400000) (disch:=omega) only [push_cast,↓reduceIte,reduceCtorEq,Nat.reduceAdd,Nat.reduceSub,Nat.reduceEqDiff,Nat.reduceLeDiff,Nat.reduceLT,Nat.reduceBEq,Nat.reduceDiv,Nat.reduceMod,Nat.reducePow,Nat.reduceMul,Int.reduceToNat,Int.reduceLT,Int.reduceLE,hp,chainG,List.take_succ_cons,List.take_zero,List.drop_succ_cons,List.drop_zero]
 refine SpG_go rfl (by simp [underAll,under,covers,findL,R.uops,R.opds,ev,lk]) rfl ?_
 simp (maxSteps:=400000) (disch:=omega) only [push_cast,↓reduceIte,reduceCtorEq,Nat.reduceAdd,Nat.reduceSub,Nat.reduceEqDiff,Nat.reduceLeDiff,Nat.reduceLT,Nat.reduceBEq,Nat.reduceDiv,Nat.reduceMod,Nat.reducePow,Nat.reduceMul,Int.reduceToNat,Int.reduceLT,Int.reduceLE,chainG]
 refine ⟨rfl,trivial,(List Pt),[],cQ1,[l],rfl,by omega,fun x _=>⟨rfl,rfl⟩,rfl,?_⟩
 (refine sy1 ?_;try exact tTI)
 repeat' (first | refine w1g ?_ | refine w1l ?_ | refine w1q ?_ | refine w1b ?_ | refine w1p ?_ | ((first | refine w1r ?_ | refine w1k ?_ | refine w1e ?_ | refine CallC.go _ (fun _=>⟨trivial,c153⟩) rfl ?_ | refine CallC.go _ (fun _=>⟨trivial,c156⟩) rfl ?_ | refine CallC.go _ (fun _=>⟨trivial,c218⟩) rfl ?_);(refine sy1 ?_;try exact tTI)) | refine an2 ?_ | fail)
 exact W_ret ⟨[_],⟨rfl,rfl⟩,rfl⟩
theorem fn195 (l : List Pt) (h : Hul l) : Sy.Fn Tryz.prog 195 [aQ l] (bv false):=by
 refine Fn_of_W mixed Xt195 rfl ?_
 (refine go_c (fn196 l h) ?_;try exact tTI)
 exact W_ret ⟨[_],⟨rfl,rfl⟩,rfl⟩
theorem fn217 (ll : List (List Pt)) (hl : ll.length ≤ 1000000) (h : ∀ l ∈ ll,Hul l) : Sy.Fn Tryz.prog 217 [.sl 1 [] cQ1 ll,.clo 195 [] []] (iv (-1)):=by
 refine Fn_of_W mixed Xt217 rfl ?_
 (refine go0 ?_;try exact tTI)
 refine W_loopU (fun i : Nat=>[(8,iv i)]) (fun i=>[]) (fun i=>i ≤ ll.length) (fun i=>ll.length - i) 0 (Nat.zero_le _) (by rfl) (by rfl) (fun i hi=>?_)
 (refine sy1 ?_;try exact tTI)
 (refine go0 ?_;try exact tTI)
 refine W_condD (by rfl) (fun h5=>?_) (fun h5=>?_)
 ·have hlt : i < ll.length:=by omega
  have hm : ll.getD i [] ∈ ll:=by simp only [List.getD,List.getElem?_eq_getElem hlt,Option.getD_some];exact List.getElem_mem hlt
  have c:=fn195 _ (h _ hm)
  generalize hpp : ll.getD i [] = p at *
  (refine gofc hpp c ?_;try exact tTI)
  refine W_cond (by rfl) (fun h=>by cases h) (fun _=>?_)
  (refine go0 ?_;try exact tTI)
  refine ⟨i + 1,by omega,by omega,by rfl,?_⟩
  (refine syE ?_;try exact tTI)
 ·(refine go0 ?_;try exact tTI)
  exact W_ret ⟨[_],⟨rfl,rfl⟩,rfl⟩
theorem fn194 (ll : List (List Pt)) (hl : ll.length ≤ 1000000) (h : ∀ l ∈ ll,Hul l) : Sy.Fn Tryz.prog 194 [.sl 1 [] cQ1 ll,.clo 195 [] []] (bv false):=by
 refine Fn_of_W mixed Xt194 rfl ?_
 (refine go_c (fn217 ll hl h) ?_;try exact tTI)
 exact W_ret ⟨[_],⟨rfl,rfl⟩,rfl⟩
theorem fn157 (ll : List (List Pt)) (hl : ll.length ≤ 1000000) (h : ∀ l ∈ ll,Hul l) : Sy.Fn Tryz.prog 157 [.sl 1 [] cQ1 ll] (iv 0):=by
 refine Fn_of_W mixed Xt157 rfl ?_
 have c153:=fn153 ll hl (fun i hi=>by
  have hm : ll.getD i [] ∈ ll:=by simp only [List.getD,List.getElem?_eq_getElem hi,Option.getD_some];exact List.getElem_mem hi
  have:=(h _ hm).n
  exact ⟨by omega,(h _ hm).ok⟩)
 have c194:=fn194 ll hl h
 (refine go_c c153 ?_;try exact tTI)
 refine W_cond (by rfl) (fun h=>by cases h) (fun _=>?_)
 (refine go_c c194 ?_;try exact tTI)
 refine W_cond (by rfl) (fun h=>by cases h) (fun _=>?_)
 (refine go0 ?_;try exact tTI)
 exact W_ret ⟨[_],⟨rfl,rfl⟩,rfl⟩
theorem rS_up (n : Int) : ∀ k,k ≤ 31 → (rS n k).2 + 2 ^ (64 - 2 * k) ≤ 2 ^ (64 - k)
 |0,_=>by show (0 : Int) + _ ≤ _;decide
 |k + 1,hk=>by
  have ih:=rS_up n k (by omega)
  have e1 : (2 : Int) ^ (64 - k) = 2 * 2 ^ (64 - (k + 1)):=by
   rw [show 64 - k = (64 - (k + 1)) + 1 by omega,Int.pow_succ];omega
  have e2 : (2 : Int) ^ (64 - 2 * k) = 4 * 2 ^ (62 - 2 * k):=by
   rw [show 64 - 2 * k = (62 - 2 * k) + 1 + 1 by omega,Int.pow_succ,Int.pow_succ];omega
  have e3 : 64 - 2 * (k + 1) = 62 - 2 * k:=by omega
  rw [e1,e2] at ih
  have hb : rB k = 2 ^ (62 - 2 * k):=rfl
  have h0:=rB_rng k
  rw [hb] at h0
  rw [rS_succ,e3]
  generalize rS n k = A at *
  rw [hb]
  generalize (2 : Int) ^ (62 - 2 * k) = b at *
  generalize (2 : Int) ^ (64 - (k + 1)) = a at *
  split
  ·dsimp only;omega
  ·dsimp only;omega
theorem rt_up (n : Int) (hn : 0 ≤ n) : 0 ≤ rt n ∧ rt n ≤ 4294967296:=by
 refine ⟨(rt_rng hn).1,?_⟩
 have h:=rS_up n 31 (by omega)
 have hb : rB 31 = 1:=by decide
 have e : rS n 32 = _:=rS_succ n 31
 have e2 : (2 : Int) ^ (64 - 31) = 8589934592:=by decide
 have e3 : (2 : Int) ^ (64 - 2 * 31) = 4:=by decide
 rw [e2,e3] at h
 unfold rt
 rw [e,hb]
 generalize rS n 31 = q at *
 split
 ·dsimp only;omega
 ·dsimp only;omega
def chkE (l : List Pt) : Int:=if 256 < l.length then 6 else if l.all okQ = true then 0 else 2
theorem fn114g (l : List Pt) (hl : l.length ≤ 140737488355328) : Sy.Fn Tryz.prog 153 [.sl 1 [] cQ1 [l]] (iv (chkE l)):=by
 refine Fn_of_W mixed Xt153 rfl ?_
 have hc : chkE l = if 256 < l.length then 6 else if l.all okQ = true then 0 else 2:=rfl
 (refine go0 ?_;try exact tTI)
 refine W_loopU (fun i : Nat=>[(9,iv i)]) (fun i=>[]) (fun i=>i ≤ 1 ∧ (1 ≤ i → ¬ 256 < l.length)) (fun i=>1 - i) 0 ⟨by omega,fun h=>by omega⟩ (by rfl) (by rfl) (fun i hi=>?_)
 obtain ⟨hi,hi2⟩:=hi
 (refine sy1 ?_;try exact tTI)
 (refine go0 ?_;try exact tTI)
 refine W_condD (by rfl) (fun h5=>?_) (fun h5=>?_)
 ·obtain rfl : i = 0:=by omega
  have hg0 : [l].getD 0 [] = l:=rfl
  (refine gof hg0 ?_;try exact tTI)
  refine W_condD (by rfl) (fun h6=>?_) (fun h6=>?_)
  ·rw [hc,if_pos (by omega)]
   (refine go0 ?_;try exact tTI)
   exact W_ret ⟨[_],⟨rfl,rfl⟩,rfl⟩
  (refine go0 ?_;try exact tTI)
  refine ⟨1,⟨Nat.le_refl _,fun _=>by omega⟩,by omega,by rfl,?_⟩
  (refine syE ?_;try exact tTI)
 have hlt:=hi2 (by omega)
 rw [if_neg hlt] at hc
 have c126:=fn126 l (by omega)
 (refine go0 ?_;try exact tTI)
 refine W_loopU (fun i : Nat=>[(19,iv i)]) (fun i=>[]) (fun i=>i ≤ 1 ∧ (1 ≤ i → l.all okQ = true)) (fun i=>1 - i) 0 ⟨by omega,fun h=>by omega⟩ (by rfl) (by rfl) (fun i hi=>?_)
 obtain ⟨hi,hi2⟩:=hi
 (refine sy1 ?_;try exact tTI)
 (refine go0 ?_;try exact tTI)
 refine W_condD (by rfl) (fun h6=>?_) (fun h6=>?_)
 ·obtain rfl : i = 0:=by omega
  have hg0 : [l].getD 0 [] = l:=rfl
  cases ho : l.all okQ
  ·rw [ho] at c126
   rw [hc,if_neg (by rw [ho];decide)]
   (refine gofc hg0 c126 ?_;try exact tTI)
   refine W_cond (by rfl) (fun _=>?_) (fun h=>by cases h)
   (refine go0 ?_;try exact tTI)
   exact W_ret ⟨[_],⟨rfl,rfl⟩,rfl⟩
  ·rw [ho] at c126
   (refine gofc hg0 c126 ?_;try exact tTI)
   refine W_cond (by rfl) (fun h=>by cases h) (fun _=>?_)
   (refine go0 ?_;try exact tTI)
   refine ⟨1,Nat.le_refl _,by omega,by rfl,?_⟩
   (refine syE ?_;try exact tTI)
 rw [hc,if_pos (hi2 (by omega))]
 (refine go0 ?_;try exact tTI)
 exact W_ret ⟨[_],⟨rfl,rfl⟩,rfl⟩
def farP (a b : Pt) : Int:=rt ((b.x - a.x) * (b.x - a.x) + (b.y - a.y) * (b.y - a.y))
theorem sq_rng {x : Int} (h : -33554432 ≤ x ∧ x ≤ 33554432) : 0 ≤ x * x ∧ x * x ≤ 1125899906842624:=by
 have:=abs_mul h h
 have h2 : 0 ≤ x * x:=by
  rcases Int.le_total 0 x with q | q
  ·exact Int.mul_nonneg q q
  ·exact Int.mul_nonneg_of_nonpos_of_nonpos q q
 omega
theorem far_rng {a b : Pt} (ha : okQ a = true) (hb : okQ b = true) : 0 ≤ farP a b ∧ farP a b ≤ 4294967296:=by
 have h1:=okQ_iff.1 ha
 have h2:=okQ_iff.1 hb
 have m1:=sq_rng (x:=b.x - a.x) (by omega)
 have m2:=sq_rng (x:=b.y - a.y) (by omega)
 exact rt_up _ (by omega)
theorem fn154 (a b : Pt) (ha : okQ a = true) (hb : okQ b = true) : Sy.Fn Tryz.prog 154 [.agg (cPt a),.agg (cPt b)] (iv (farP a b)):=by
 refine Fn_of_W mixed Xt154 rfl ?_
 have h1:=okQ_iff.1 ha
 have h2:=okQ_iff.1 hb
 have m1:=sq_rng (x:=b.x - a.x) (by omega)
 have m2:=sq_rng (x:=b.y - a.y) (by omega)
 have c:=fn184 ((b.x - a.x) * (b.x - a.x) + (b.y - a.y) * (b.y - a.y)) (by omega)
 have e : farP a b = rt ((b.x - a.x) * (b.x - a.x) + (b.y - a.y) * (b.y - a.y)):=rfl
 rw [e]
 (refine go_c c ?_;try exact tTI)
 exact W_ret ⟨[_],⟨rfl,rfl⟩,rfl⟩
def lnN (l : List Pt) : Nat → Int
 |0=>0
 |n + 1=>lnN l n + farP (l.getD n dQ) (l.getD (n + 1) dQ)
theorem ok_at {l : List Pt} (h : l.all okQ = true) {i : Nat} (hi : i < l.length) : okQ (l.getD i dQ) = true:=List.all_eq_true.1 h _ (getQ_mem hi)
theorem lnN_rng {l : List Pt} (h : l.all okQ = true) : ∀ n,n + 1 ≤ l.length → 0 ≤ lnN l n ∧ lnN l n ≤ 4294967296 * n
 |0,_=>by unfold lnN;omega
 |n + 1,hn=>by
  have ih:=lnN_rng h n (by omega)
  have:=far_rng (ok_at h (show n < l.length by omega)) (ok_at h (show n + 1 < l.length by omega))
  unfold lnN;omega
def lnE (l : List Pt) : Int:=if chkE l = 0 then (if l.length = 0 then 5 else 0) else chkE l
def lnV (l : List Pt) : Int:=if lnE l = 0 then lnN l (l.length - 1) else 0
theorem chkE_ok {l : List Pt} : chkE l = 0 ↔ l.length ≤ 256 ∧ l.all okQ = true:=by
 unfold chkE
 split
 ·omega
 ·split
  ·rename_i h1 h2;exact ⟨fun _=>⟨by omega,h2⟩,fun _=>rfl⟩
  ·rename_i h1 h2;exact ⟨fun h=>by omega,fun h=>absurd h.2 h2⟩
theorem fn125 (l : List Pt) (hl : l.length ≤ 140737488355328) : Sy.Fn Tryz.prog 125 [aQ l] (.tup [iv (lnV l),iv (lnE l)]):=by
 refine Fn_of_W mixed Xt125 rfl ?_
 have c153:=fn114g l hl
 by_cases h0 : chkE l = 0
 rotate_left
 ·have e : lnE l = chkE l:=by unfold lnE;rw [if_neg h0]
  have e2 : lnV l = 0:=by unfold lnV;rw [e,if_neg h0]
  rw [e,e2]
  generalize chkE l = E at *
  (refine go0 ?_;try exact tTI)
  refine ⟨rfl,trivial,(List Pt),[],cQ1,[l],rfl,by omega,fun x _=>⟨rfl,rfl⟩,rfl,?_⟩
  (refine sy1 ?_;try exact tTI)
  (refine go_g c153 ?_;try exact tTI)
  refine W_cond (by rfl) (fun _=>?_) (fun h=>absurd (by simpa using h) h0)
  (refine go0 ?_;try exact tTI)
  exact W_ret ⟨[_,_],⟨rfl,rfl,rfl⟩,rfl⟩
 obtain ⟨hn,hok⟩:=chkE_ok.1 h0
 rw [h0] at c153
 (refine go0 ?_;try exact tTI)
 refine ⟨rfl,trivial,(List Pt),[],cQ1,[l],rfl,by omega,fun x _=>⟨rfl,rfl⟩,rfl,?_⟩
 (refine sy1 ?_;try exact tTI)
 (refine go_g c153 ?_;try exact tTI)
 refine W_cond (by rfl) (fun h=>by cases h) (fun _=>?_)
 by_cases h1 : l.length = 0
 ·have e : lnE l = 5:=by unfold lnE;rw [if_pos h0,if_pos h1]
  have e2 : lnV l = 0:=by unfold lnV;rw [e];rfl
  rw [e,e2]
  have q : ((l.length : Int) == 0) = true:=by simp [h1]
  (refine gof q ?_;try exact tTI)
  refine W_cond (by rfl) (fun _=>?_) (fun h=>by cases h)
  (refine go0 ?_;try exact tTI)
  exact W_ret ⟨[_,_],⟨rfl,rfl,rfl⟩,rfl⟩
 have e : lnE l = 0:=by unfold lnE;rw [if_pos h0,if_neg h1]
 have e2 : lnV l = lnN l (l.length - 1):=by unfold lnV;rw [e];rfl
 rw [e,e2]
 have q : ((l.length : Int) == 0) = false:=by simpa using h1
 (refine gof q ?_;try exact tTI)
 refine W_cond (by rfl) (fun h=>by cases h) (fun _=>?_)
 have hdl : (l.drop 1).length = l.length - 1:=List.length_drop
 have hdg : ∀ i,(l.drop 1).getD i dQ = l.getD (i + 1) dQ:=fun i=>by simp [List.getD,Nat.add_comm 1 i]
 obtain ⟨T,hT⟩ : ∃ T,T = l.drop 1:=⟨_,rfl⟩
 rw [← hT] at hdl hdg
 have hdr : l.drop (1 : Int).toNat = T:=hT.symm
 have hdr2 : l.drop 1 = T:=hT.symm
 have hlen : l.length = T.length + 1:=by omega
 rw [← hdl]
 (refine gof (ad2 hdr hdr2) ?_;try exact tTI)
 refine W_loopU (fun n : Nat=>[(20,iv n),(5,iv (lnN l n))]) (fun n=>[]) (fun n=>n ≤ T.length) (fun n=>T.length - n) 0 (Nat.zero_le _) (by rfl) (by rfl) (fun n hn=>?_)
 have hrg:=lnN_rng hok n (by omega)
 (refine sy1 ?_;try exact tTI)
 (refine go0 ?_;try exact tTI)
 refine W_condD (by rfl) (fun h5=>?_) (fun h5=>?_)
 ·have hlt : n < T.length:=by omega
  have hsu : lnN l (n + 1) = lnN l n + farP (l.getD n dQ) (l.getD (n + 1) dQ):=rfl
  have ha:=ok_at hok (show n < l.length by omega)
  have hb:=ok_at hok (show n + 1 < l.length by omega)
  have c:=fn154 _ _ ha hb
  have hfr:=far_rng ha hb
  have hg:=hdg n
  generalize hpp : l.getD n dQ = p at *
  generalize l.getD (n + 1) dQ = r at *
  generalize farP p r = F at *
  generalize lnN l n = A at *
  (refine gofc (ad2 hpp hg) c ?_;try exact tTI)
  refine ⟨n + 1,by omega,by omega,by rfl,?_⟩
  rw [hsu]
  (refine syE ?_;try exact tTI)
 ·obtain rfl : n = T.length:=by omega
  (refine go0 ?_;try exact tTI)
  exact W_ret ⟨[_,_],⟨rfl,rfl,rfl⟩,rfl⟩
def gdE (l : List Pt) : Int:=if lnE l = 0 then (if l.length < 2 then 6 else 0) else lnE l
theorem fn73 (l : List Pt) (hl : l.length ≤ 140737488355328) : Sy.Fn Tryz.prog 73 [aQ l] (iv (gdE l)):=by
 refine Fn_of_W mixed Xt73 rfl ?_
 have c:=fn125 l hl
 have e : gdE l = if lnE l = 0 then (if l.length < 2 then 6 else 0) else lnE l:=rfl
 generalize lnE l = E at *
 generalize lnV l = V at *
 rw [e]
 (refine go_c c ?_;try exact tTI)
 by_cases h : E = 0
 ·subst h
  rw [if_pos rfl]
  refine W_cond (by rfl) (fun h=>by cases h) (fun _=>?_)
  (refine go0 ?_;try exact tTI)
  refine W_condD (by rfl) (fun h6=>?_) (fun h6=>?_)
  ·rw [if_pos (by omega)]
   (refine go0 ?_;try exact tTI)
   exact W_ret ⟨[_],⟨rfl,rfl⟩,rfl⟩
  ·rw [if_neg (by omega)]
   (refine go0 ?_;try exact tTI)
   exact W_ret ⟨[_],⟨rfl,rfl⟩,rfl⟩
 ·rw [if_neg h]
  refine W_cond (by rfl) (fun _=>?_) (fun h2=>absurd (by simpa using h2) h)
  (refine go0 ?_;try exact tTI)
  exact W_ret ⟨[_],⟨rfl,rfl⟩,rfl⟩
theorem crn2_lt {a b : Pt} (h : ltP a b = true) : crn [a,b] = [a,b]:=by
 have h2 : ltP b a = false:=sw_ltP.asym h
 have h3 : eqP b a = false:=by
  cases q : eqP b a
  ·rfl
  ·rw [eqP_iff] at q;subst q;rw [h] at h2;cases h2
 have e1 : isort ltP [a,b] = [a,b]:=by
  show (if ltP b a = true then [b,a] else [a,b]) = _
  rw [h2];rfl
 have e2 : cpt [a,b] 2 = [a,b]:=by
  show (if eqP b a = true then [a] else [a] ++ [b]) = _
  rw [h3];rfl
 unfold crn
 rw [e1]
 show (if (cpt [a,b] 2).length < 2 then cpt [a,b] 2 else (stk (cpt [a,b] 2)).dropLast ++ (stk (cpt [a,b] 2).reverse).dropLast) = _
 rw [e2];rfl
theorem crn2_gt {a b : Pt} (h : ltP b a = true) : crn [a,b] = [b,a]:=by
 have e1 : isort ltP [a,b] = [b,a]:=by
  show (if ltP b a = true then [b,a] else [a,b]) = _
  rw [h];rfl
 have e3 : isort ltP [b,a] = [b,a]:=by
  show (if ltP a b = true then [a,b] else [b,a]) = _
  rw [sw_ltP.asym h];rfl
 have:=crn2_lt h
 unfold crn at this ⊢
 rw [e1]
 rw [e3] at this
 exact this
theorem crn2_eq (a : Pt) : crn [a,a] = [a]:=by
 have h2 : ltP a a = false:=by
  cases q : ltP a a
  ·rfl
  ·exact q.symm.trans (sw_ltP.asym q)
 have h3 : eqP a a = true:=eqP_iff.2 rfl
 have e1 : isort ltP [a,a] = [a,a]:=by
  show (if ltP a a = true then [a,a] else [a,a]) = _
  rw [h2];rfl
 have e2 : cpt [a,a] 2 = [a]:=by
  show (if eqP a a = true then [a] else [a] ++ [a]) = _
  rw [h3];rfl
 unfold crn
 rw [e1]
 show (if (cpt [a,a] 2).length < 2 then cpt [a,a] 2 else (stk (cpt [a,a] 2)).dropLast ++ (stk (cpt [a,a] 2).reverse).dropLast) = _
 rw [e2];rfl
theorem ltP_tri (a b : Pt) : ltP a b = true ∨ ltP b a = true ∨ a = b:=by
 unfold ltP
 rw [decide_eq_true_eq,decide_eq_true_eq,cmpP_lt,cmpP_lt]
 by_cases h : a = b
 ·exact .inr (.inr h)
 ·have : ¬ (a.x = b.x ∧ a.y = b.y):=fun q=>h (by cases a;cases b;simp_all)
  omega
theorem sg_cases (a b : Pt) : (crn [a,b] = [a,b] ∧ ltP a b = true) ∨ (crn [a,b] = [b,a] ∧ ltP b a = true) ∨ (a = b ∧ crn [a,b] = [a]):=by
 rcases ltP_tri a b with h | h | h
 ·exact .inl ⟨crn2_lt h,h⟩
 ·exact .inr (.inl ⟨crn2_gt h,h⟩)
 ·subst h;exact .inr (.inr ⟨rfl,crn2_eq a⟩)
theorem hul2 {a b : Pt} (ha : okQ a = true) (hb : okQ b = true) : Hul (crn [a,b]) ∧ (crn [a,b]).length ≤ 2:=by
 rcases sg_cases a b with ⟨e,h⟩ | ⟨e,h⟩ | ⟨h,e⟩
 ·rw [e]
  exact ⟨⟨by simp [ha,hb],by simp,crn2_lt h⟩,by simp⟩
 ·rw [e]
  exact ⟨⟨by simp [ha,hb],by simp,crn2_lt h⟩,by simp⟩
 ·rw [e]
  exact ⟨⟨by simp [ha],by simp,rfl⟩,by simp⟩
theorem hul1 {a : Pt} (ha : okQ a = true) : Hul [a]:=⟨by simp [ha],by simp,rfl⟩
theorem fn127 (l : List Pt) (h : l.all okQ = true) (hl : 0 < l.length ∧ l.length ≤ 12) : Sy.Fn Tryz.prog 127 [aQ l] (.tup [aQ (crn l),iv 0]):=by
 refine Fn_of_W mixed Xt127 rfl ?_
 have c153:=fn114g l (by omega)
 have c156:=fn156 l (fun x hx=>okQ_bd (List.all_eq_true.1 h x hx)) hl
 rw [chkE_ok.2 ⟨by omega,h⟩] at c153
 have hq : ((l.length : Int) == 0) = false:=by
  rw [beq_eq_false_iff_ne];omega
 generalize crn l = C at *
 (refine go0 ?_;try exact tTI)
 refine ⟨rfl,trivial,(List Pt),[],cQ1,[l],rfl,by omega,fun x _=>⟨rfl,rfl⟩,rfl,?_⟩
 (refine sy1 ?_;try exact tTI)
 (refine go_g c153 ?_;try exact tTI)
 refine W_cond (by rfl) (fun h=>by cases h) (fun _=>?_)
 (refine gof hq ?_;try exact tTI)
 refine W_cond (by rfl) (fun h=>by cases h) (fun _=>?_)
 (refine go_c c156 ?_;try exact tTI)
 exact W_ret ⟨[_,_],⟨rfl,rfl,rfl⟩,rfl⟩
theorem stkR_two (l : List Pt) {n : Nat} (h : 2 ≤ n) (hn : n ≤ l.length) : 2 ≤ (stkR l n).length:=by
 obtain ⟨m,rfl⟩ : ∃ m,n = m + 1:=⟨n - 1,by omega⟩
 have h1:=(stkR_len l m (by omega)).2 (by omega)
 have h2:=popR_ne (l.getD m dQ) (stkR l m) (fun e=>by rw [e] at h1;simp at h1)
 rw [stkR_succ l (by omega),List.length_cons]
 have:=List.length_pos_iff.2 h2
 omega
theorem crn_rng (l : List Pt) (hl : 0 < l.length) : (0 < (crn l).length ∧ (crn l).length ≤ 2 * l.length) ∧ ∀ p ∈ crn l,p ∈ l:=by
 have hs:=isort_len (lt:=ltP) l
 have hm : ∀ p,p ∈ isort ltP l → p ∈ l:=fun p hp=>(isort_mem l).1 hp
 have e : crn l = if (cpt (isort ltP l) (isort ltP l).length).length < 2 then cpt (isort ltP l) (isort ltP l).length else (stk (cpt (isort ltP l) (isort ltP l).length)).dropLast ++ (stk (cpt (isort ltP l) (isort ltP l).length).reverse).dropLast:=by rw [hs];rfl
 rw [e]
 generalize isort ltP l = s at *
 have h1:=cpt_len s s.length (Nat.le_refl _)
 have h2:=cpt_ne s s.length (by omega) (Nat.le_refl _)
 have h3 : ∀ p,p ∈ cpt s s.length → p ∈ l:=fun p hp=>hm p (cpt_mem s _ (Nat.le_refl _) hp)
 generalize cpt s s.length = C at *
 have hst : ∀ D : List Pt,D.length = C.length → (∀ p,p ∈ D → p ∈ l) → 2 ≤ D.length → (1 ≤ (stk D).dropLast.length ∧ (stk D).dropLast.length ≤ D.length) ∧ ∀ p,p ∈ (stk D).dropLast → p ∈ l:=fun D hD hDm h=>by
  have a1:=stkR_len D D.length (Nat.le_refl _)
  have a2:=stkR_two D h (Nat.le_refl _)
  refine ⟨?_,fun p hp=>hDm p ?_⟩
  ·unfold stk;rw [List.length_dropLast,List.length_reverse];omega
  ·have hp:=List.dropLast_subset _ hp
   unfold stk at hp
   exact stkR_mem D _ (Nat.le_refl _) (List.mem_reverse.1 hp)
 split
 ·exact ⟨by omega,h3⟩
 ·obtain ⟨b1,b2⟩:=hst C rfl h3 (by omega)
  obtain ⟨b3,b4⟩:=hst C.reverse (by rw [List.length_reverse]) (fun p hp=>h3 p (List.mem_reverse.1 hp)) (by rw [List.length_reverse];omega)
  rw [List.length_reverse] at b3
  rw [List.length_append]
  refine ⟨by omega,fun p hp=>?_⟩
  rcases List.mem_append.1 hp with q | q
  ·exact b2 p q
  ·exact b4 p q
def bis (f : Int → Bool) : Nat → Int → Int → Int
 |0,lo,_=>lo
 |n + 1,lo,hi=>if lo < hi then (if f ((lo + hi) / 2) = true then bis f n ((lo + hi) / 2 + 1) hi else bis f n lo ((lo + hi) / 2)) else lo
theorem bis_end (f : Int → Bool) (n : Nat) {lo hi : Int} (h : ¬ lo < hi) : bis f n lo hi = lo:=by
 cases n with
 |zero=>rfl
 |succ n=>unfold bis;rw [if_neg h]
def gpF (a b : List Pt) (t : Int) : Bool:=apB (crn (grL t a)) b
def gpV (a b : List Pt) : Int:=bis (gpF a b) 26 0 33554432
theorem fn128 (a b : List Pt) (ha : Hul a) (hb : Hul b) (la : a.length ≤ 3) : Sy.Fn Tryz.prog 128 [aQ a,aQ b] (.tup [iv (gpV a b),iv 0]):=by
 refine Fn_of_W mixed Xt128 rfl ?_
 have c157:=fn157 [a,b] (by simp) (fun l hl=>by
  rcases List.mem_cons.1 hl with rfl | hl
  ·exact ha
  ·rw [List.mem_singleton] at hl;rw [hl];exact hb)
 have eg : gpV a b = bis (gpF a b) 26 0 33554432:=rfl
 have cg:=fun (t : Int) (ht : 0 ≤ t ∧ t ≤ 33554432)=>fn159 a t (fun p hp=>ha.mem hp) ⟨ha.n.1,la⟩ ht
 have hcl:=fun (t : Int)=>crn_rng (grL t a) (by rw [grL_len];have:=ha.n;omega)
 have cp:=fun (t : Int) (ht : 0 ≤ t ∧ t ≤ 33554432)=>fn158 (crn (grL t a)) b (fun p hp=>grL_bd ht (fun p hp=>ha.mem hp) p ((hcl t).2 p hp)) (fun p hp=>okQ_bd (hb.mem hp)) ⟨(hcl t).1.1,by have:=(hcl t).1;rw [grL_len] at this;omega⟩ ⟨hb.n.1,by have:=hb.n;omega⟩
 have hf : ∀ t,apB (crn (grL t a)) b = gpF a b t:=fun _=>rfl
 simp only [hf] at cp
 generalize gpF a b = F at *
 generalize gpV a b = V at *
 clear hf hcl
 (refine go0 ?_;try exact tTI)
 refine ⟨rfl,trivial,(List Pt),[],cQ1,[a,b],rfl,by omega,fun x _=>⟨rfl,rfl⟩,rfl,?_⟩
 (refine sy1 ?_;try exact tTI)
 (refine go_g c157 ?_;try exact tTI)
 refine W_cond (by rfl) (fun h=>by cases h) (fun _=>?_)
 (refine go0 ?_;try exact tTI)
 refine W_loopU (fun q : Nat × Int × Int=>[(7,iv q.2.1),(8,iv q.2.2)]) (fun q=>[]) (fun q=>(0 ≤ q.2.1 ∧ q.2.1 ≤ 33554432 ∧ 0 ≤ q.2.2 ∧ q.2.2 ≤ 33554432) ∧ q.2.2 - q.2.1 < 2 ^ q.1 ∧ V = bis F q.1 q.2.1 q.2.2) (fun q=>q.1) (26,0,33554432) ⟨by decide,by decide,eg⟩ (by rfl) (by rfl) (fun q hq=>?_)
 obtain ⟨n,lo,hi⟩:=q
 obtain ⟨hr,hpw,hV⟩:=hq
 have hr : 0 ≤ lo ∧ lo ≤ 33554432 ∧ 0 ≤ hi ∧ hi ≤ 33554432:=hr
 have hpw : hi - lo < 2 ^ n:=hpw
 have hV : V = bis F n lo hi:=hV
 (refine sy1 ?_;try exact tTI)
 (refine go0 ?_;try exact tTI)
 refine W_condD (by rfl) (fun h5=>?_) (fun h5=>?_)
 ·have h5 : lo < hi:=by omega
  obtain ⟨m,rfl⟩ : ∃ m,n = m + 1:=by
   cases n with
   |zero=>simp at hpw;omega
   |succ m=>exact ⟨m,rfl⟩
  have em : (lo + hi).tdiv 2 = (lo + hi) / 2:=Int.tdiv_eq_ediv_of_nonneg (by omega)
  have e2 : (2 : Int) ^ (m + 1) = 2 * 2 ^ m:=by rw [Int.pow_succ];omega
  rw [e2] at hpw
  rw [bis,if_pos h5] at hV
  have hmid : lo ≤ (lo + hi) / 2 ∧ (lo + hi) / 2 < hi:=by omega
  have c1:=cg ((lo + hi) / 2) (by omega)
  have c2:=cp ((lo + hi) / 2) (by omega)
  have hp1 : hi - ((lo + hi) / 2 + 1) < 2 ^ m:=by omega
  have hp2 : (lo + hi) / 2 - lo < 2 ^ m:=by omega
  have r1 : 0 ≤ lo ∧ lo ≤ 33554432 ∧ 0 ≤ (lo + hi) / 2 ∧ (lo + hi) / 2 ≤ 33554432:=by omega
  have r2 : 0 ≤ (lo + hi) / 2 + 1 ∧ (lo + hi) / 2 + 1 ≤ 33554432 ∧ 0 ≤ hi ∧ hi ≤ 33554432:=by omega
  clear cg cp
  generalize (lo + hi) / 2 = mid at *
  generalize crn (grL mid a) = X at *
  cases hF : F mid
  ·rw [hF] at c2 hV
   (refine gofcc em c1 c2 ?_;try exact tTI)
   refine W_cond (by rfl) (fun h=>by cases h) (fun _=>?_)
   (refine go0 ?_;try exact tTI)
   refine ⟨(m,lo,mid),⟨r1,hp2,hV⟩,Nat.lt_succ_self m,by rfl,?_⟩
   (refine syE ?_;try exact tTI)
  ·rw [hF] at c2 hV
   (refine gofcc em c1 c2 ?_;try exact tTI)
   refine W_cond (by rfl) (fun _=>?_) (fun h=>by cases h)
   (refine go0 ?_;try exact tTI)
   refine ⟨(m,mid + 1,hi),⟨r2,hp1,hV⟩,Nat.lt_succ_self m,by rfl,?_⟩
   (refine syE ?_;try exact tTI)
 ·rw [hV,bis_end F n (show ¬ lo < hi by omega)]
  (refine go0 ?_;try exact tTI)
  exact W_ret ⟨[_,_],⟨rfl,rfl,rfl⟩,rfl⟩
def gpP (g : List Pt) (p : Pt) (i : Nat) : Int:=gpV (crn [g.getD i dQ,g.getD (i + 1) dQ]) [p]
def offN (g : List Pt) (p : Pt) : Nat → Int × Int
 |0=>(-1,0)
 |n + 1=>if (offN g p n).1 < 0 ∨ gpP g p n < (offN g p n).1 then (gpP g p n,n) else offN g p n
def offV (g : List Pt) (p : Pt) : Int × Int:=offN g p (g.length - 1)
theorem take2 {g : List Pt} {i : Nat} (h : i + 1 < g.length) : (g.take ((i : Int) + 2).toNat).drop i = [g.getD i dQ,g.getD (i + 1) dQ]:=by
 rw [show ((i : Int) + 2).toNat = i + 2 by omega]
 apply List.ext_getElem
 ·rw [List.length_drop,List.length_take];show _ = 2;omega
 ·intro k h1 h2
  have h2 : k < 2:=h2
  rcases (show k = 0 ∨ k = 1 by omega) with rfl | rfl <;> simp [List.getD,h,show i < g.length by omega]
theorem fn76 (g : List Pt) (p : Pt) (hg : g.all okQ = true) (hl : 2 ≤ g.length ∧ g.length ≤ 256) (hp : okQ p = true) : Sy.Fn Tryz.prog 76 [aQ g,.agg (cPt p)] (.tup [iv (offV g p).1,iv (offV g p).2]):=by
 refine Fn_of_W mixed Xt76 rfl ?_
 have hgl : (g.length : Int) - 1 = ((g.length - 1 : Nat) : Int):=by omega
 (refine gof hgl ?_;try exact tTI)
 refine W_loopU (fun n : Nat=>[(16,iv n),(6,iv (offN g p n).1),(7,iv (offN g p n).2)]) (fun n=>[]) (fun n=>n ≤ g.length - 1) (fun n=>g.length - 1 - n) 0 (Nat.zero_le _) (by rfl) (by rfl) (fun n hn=>?_)
 (refine sy1 ?_;try exact tTI)
 (refine go0 ?_;try exact tTI)
 refine W_condD (by rfl) (fun h5=>?_) (fun h5=>?_)
 ·have hlt : n + 1 < g.length:=by omega
  have hsu : offN g p (n + 1) = if (offN g p n).1 < 0 ∨ gpP g p n < (offN g p n).1 then (gpP g p n,(n : Int)) else offN g p n:=rfl
  have ha:=ok_at hg (show n < g.length by omega)
  have hb:=ok_at hg hlt
  have e1 : gpP g p n = gpV (crn [g.getD n dQ,g.getD (n + 1) dQ]) [p]:=rfl
  have ht:=take2 hlt
  generalize g.getD n dQ = a at *
  generalize g.getD (n + 1) dQ = b at *
  have c127:=fn127 [a,b] (by simp [ha,hb]) (by simp)
  obtain ⟨u1,u2⟩:=hul2 ha hb
  have c128:=fn128 (crn [a,b]) [p] u1 (hul1 hp) (by omega)
  rw [← e1] at c128
  generalize gpP g p n = V at *
  generalize crn [a,b] = C at *
  generalize offN g p n = O at *
  (refine gofc ht c127 ?_;try exact tTI)
  refine ⟨rfl,trivial,Pt,dQ,cPt,[p],rfl,by omega,fun x _=>⟨rfl,rfl⟩,rfl,?_⟩
  (refine sy1 ?_;try exact tTI)
  (refine go_g c128 ?_;try exact tTI)
  by_cases hc : (decide (O.1 < 0) || decide (V < O.1)) = true
  ·refine W_cond (by rfl) (fun _=>?_) (fun h=>by rw [hc] at h;cases h)
   rw [Bool.or_eq_true,decide_eq_true_eq,decide_eq_true_eq] at hc
   rw [if_pos hc] at hsu
   (refine go0 ?_;try exact tTI)
   refine ⟨n + 1,by omega,by omega,by rfl,?_⟩
   rw [hsu]
   (refine syE ?_;try exact tTI)
  ·refine W_cond (by rfl) (fun h=>absurd h hc) (fun _=>?_)
   rw [Bool.or_eq_true,decide_eq_true_eq,decide_eq_true_eq] at hc
   rw [if_neg hc] at hsu
   (refine go0 ?_;try exact tTI)
   refine ⟨n + 1,by omega,by omega,by rfl,?_⟩
   rw [hsu]
   (refine syE ?_;try exact tTI)
 ·obtain rfl : n = g.length - 1:=by omega
  unfold offV
  (refine go0 ?_;try exact tTI)
  exact W_ret ⟨[_,_],⟨rfl,rfl,rfl⟩,rfl⟩
theorem gdE_ok {l : List Pt} : gdE l = 0 ↔ (2 ≤ l.length ∧ l.length ≤ 256) ∧ l.all okQ = true:=by
 unfold gdE
 by_cases h : lnE l = 0
 ·rw [if_pos h]
  unfold lnE at h
  by_cases h2 : chkE l = 0
  ·have:=chkE_ok.1 h2
   split
   ·omega
   ·exact ⟨fun _=>⟨by omega,this.2⟩,fun _=>rfl⟩
  ·rw [if_neg h2] at h;exact absurd h h2
 ·rw [if_neg h]
  refine ⟨fun h2=>absurd h2 h,fun h2=>?_⟩
  exfalso;apply h
  unfold lnE
  rw [if_pos (chkE_ok.2 ⟨h2.1.2,h2.2⟩),if_neg (by omega)]
end Go.Proofs.YtmekmmgiamjfoaaGreat.U
namespace Go.Proofs.YtmekmmgiamjfoaaGreat.U
set_option linter.unusedVariables false
theorem pos_nn {b x : Int} (hb : 0 < b) (h : 0 ≤ b * x) : 0 ≤ x:=by
 apply Classical.byContradiction
 intro q
 have:=Int.mul_neg_of_pos_of_neg hb (show x < 0 by omega)
 omega
def LxN (u v : Int) : Prop:=0 < u ∨ (u = 0 ∧ 0 ≤ v)
def LxP (u v : Int) : Prop:=0 < u ∨ (u = 0 ∧ 0 < v)
theorem LxP.n {u v : Int} (h : LxP u v) : LxN u v:=by unfold LxP at h;unfold LxN;omega
theorem crx_trans {a b c d e f : Int} (hA : LxN a b) (hB : LxP c d) (hC : LxN e f) (h1 : 0 ≤ a * d - b * c) (h2 : 0 ≤ c * f - d * e) : 0 ≤ a * f - b * e:=by
 have hid : c * (a * f - b * e) = e * (a * d - b * c) + a * (c * f - d * e):=by grind
 have ha : 0 ≤ a:=by unfold LxN at hA;omega
 have he : 0 ≤ e:=by unfold LxN at hC;omega
 rcases hB with hc | ⟨rfl,hd⟩
 ·apply pos_nn hc
  rw [hid]
  exact Int.add_nonneg (Int.mul_nonneg he h1) (Int.mul_nonneg ha h2)
 ·have h3 : e = 0:=by
   apply Classical.byContradiction
   intro q
   have:=Int.mul_pos hd (show 0 < e by omega)
   omega
  subst h3
  have hf : 0 ≤ f:=by unfold LxN at hC;omega
  have:=Int.mul_nonneg ha hf
  omega
theorem ltP_lx {a b : Pt} : ltP a b = true ↔ LxP (b.x - a.x) (b.y - a.y):=by
 unfold ltP LxP
 rw [decide_eq_true_eq,cmpP_lt]
 omega
theorem ltP_trans {a b c : Pt} (h1 : ltP a b = true) (h2 : ltP b c = true) : ltP a c = true:=by
 rw [ltP_lx] at *
 unfold LxP at *
 omega
theorem ltP_ne {a b : Pt} (h : ltP a b = true) : a ≠ b:=fun e=>by
 subst e
 rw [ltP_lx] at h
 unfold LxP at h
 omega
theorem crs_up {a b x p : Pt} (hab : ltP a b = true) (hbx : ltP b x = true) (hp : p = a ∨ ltP a p = true) (h1 : crs a b x ≤ 0) (h2 : 0 ≤ crs a b p) : 0 ≤ crs a x p:=by
 have hax:=ltP_trans hab hbx
 rw [ltP_lx] at hab hax
 have hN : LxN (p.x - a.x) (p.y - a.y):=by
  rcases hp with rfl | hp
  ·unfold LxN;omega
  ·exact (ltP_lx.1 hp).n
 unfold crs at *
 have h3 : 0 ≤ (x.x - a.x) * (b.y - a.y) - (x.y - a.y) * (b.x - a.x):=by
  rw [Int.mul_comm (x.x - a.x),Int.mul_comm (x.y - a.y)];omega
 have:=crx_trans hax.n hab hN h3 h2
 omega
theorem crs_dn {u a x p : Pt} (hua : ltP u a = true) (hax : ltP a x = true) (hp : ltP p a = true) (h1 : 0 ≤ crs u a x) (h2 : 0 ≤ crs u a p) : 0 ≤ crs a x p:=by
 rw [ltP_lx] at hua hax hp
 have e1 : crs u a x = (a.x - u.x) * (x.y - a.y) - (a.y - u.y) * (x.x - a.x):=by unfold crs;grind
 have e2 : crs u a p = (a.x - p.x) * (a.y - u.y) - (a.y - p.y) * (a.x - u.x):=by unfold crs;grind
 have e3 : crs a x p = (a.x - p.x) * (x.y - a.y) - (a.y - p.y) * (x.x - a.x):=by unfold crs;grind
 rw [e1] at h1
 rw [e2] at h2
 rw [e3]
 exact crx_trans hp.n hua hax.n h2 h1
theorem crs_far {w u a x : Pt} (hwu : ltP w u = true) (hua : ltP u a = true) (hax : ltP a x = true) (h1 : 0 ≤ crs w u a) (h2 : 0 ≤ crs u a x) : 0 ≤ crs w u x:=by
 rw [ltP_lx] at hwu hua hax
 have e1 : crs w u a = (u.x - w.x) * (a.y - u.y) - (u.y - w.y) * (a.x - u.x):=by unfold crs;grind
 have e2 : crs u a x = (a.x - u.x) * (x.y - a.y) - (a.y - u.y) * (x.x - a.x):=by unfold crs;grind
 have e3 : crs w u x = ((u.x - w.x) * (a.y - u.y) - (u.y - w.y) * (a.x - u.x)) + ((u.x - w.x) * (x.y - a.y) - (u.y - w.y) * (x.x - a.x)):=by unfold crs;grind
 rw [e1] at h1
 rw [e2] at h2
 have:=crx_trans hwu.n hua hax.n h1 h2
 omega
def ChS (S : List Pt) : List Pt → Prop
 |b :: a :: r=>(ltP a b = true ∧ (∀ p ∈ S,0 ≤ crs a b p) ∧ (∀ u,r.head? = some u → 0 < crs u a b)) ∧ ChS S (a :: r)
 |_=>True
theorem crs_self (a b : Pt) : crs a b b = 0 ∧ crs a b a = 0:=by unfold crs;constructor <;> grind
theorem chs_ext {S : List Pt} {x : Pt} : ∀ {r : List Pt} {t u : Pt},ChS S (t :: u :: r) → 0 ≤ crs u t x → ltP t x = true → ChS (S ++ [x]) (t :: u :: r)
 |[],t,u,⟨⟨h1,h2,h3⟩,_⟩,h,hx=>⟨⟨h1,fun p hp=>by
   rcases List.mem_append.1 hp with q | q
   ·exact h2 p q
   ·rw [List.mem_singleton] at q;rw [q];exact h,fun v hv=>by cases hv⟩,trivial⟩
 |w :: r,t,u,⟨⟨h1,h2,h3⟩,h4⟩,h,hx=>⟨⟨h1,fun p hp=>by
   rcases List.mem_append.1 hp with q | q
   ·exact h2 p q
   ·rw [List.mem_singleton] at q;rw [q];exact h,h3⟩,chs_ext h4 (by
    have h5:=h4.1.1
    exact crs_far h5 h1 hx (Int.le_of_lt (h3 w rfl)) h) (ltP_trans h1 hx)⟩
theorem chs_push {S : List Pt} {x : Pt} (hx : ∀ p ∈ S,ltP p x = true) : ∀ {r : List Pt} {t : Pt},ChS S (t :: r) → (∀ q ∈ t :: r,q ∈ S) →
  (∀ p ∈ S,p = t ∨ ltP t p = true → 0 ≤ crs t x p) → (∀ p ∈ S,p = (t :: r).getLast (by simp) ∨ ltP ((t :: r).getLast (by simp)) p = true) →
  ChS (S ++ [x]) (x :: popR x (t :: r)) ∧ (∀ q ∈ popR x (t :: r),q ∈ S) ∧ (∀ h,(popR x (t :: r)).getLast h = (t :: r).getLast (by simp))
 |[],t,_,hs,hp,hb=>by
  refine ⟨⟨⟨hx t (hs t List.mem_cons_self),fun p h=>?_,fun u hu=>by cases hu⟩,trivial⟩,hs,fun h=>rfl⟩
  rcases List.mem_append.1 h with q | q
  ·exact hp p q (hb p q)
  ·rw [List.mem_singleton] at q;rw [q];exact Int.le_of_eq (crs_self t x).1.symm
 |u :: r,t,hc,hs,hp,hb=>by
  have htx:=hx t (hs t List.mem_cons_self)
  by_cases q : crs u t x ≤ 0
  ·have e : popR x (t :: u :: r) = popR x (u :: r):=by show (if crs u t x ≤ 0 then _ else _) = _;rw [if_pos q]
   rw [e]
   have ih:=chs_push hx (r:=r) (t:=u) hc.2 (fun z hz=>hs z (List.mem_cons_of_mem _ hz)) (fun p h1 h2=>crs_up hc.1.1 htx h2 q (hc.1.2.1 p h1)) hb
   exact ih
  ·have e : popR x (t :: u :: r) = t :: u :: r:=by show (if crs u t x ≤ 0 then _ else _) = _;rw [if_neg q]
   rw [e]
   refine ⟨⟨⟨htx,fun p h=>?_,fun v hv=>by cases hv;omega⟩,chs_ext hc (by omega) htx⟩,hs,fun h=>rfl⟩
   rcases List.mem_append.1 h with k | k
   ·rcases ltP_tri t p with z | z | z
    ·exact hp p k (.inr z)
    ·exact crs_dn hc.1.1 htx z (by omega) (hc.1.2.1 p k)
    ·exact hp p k (.inl z.symm)
   ·rw [List.mem_singleton] at k;rw [k];exact Int.le_of_eq (crs_self t x).1.symm
def Asc (l : List Pt) : Prop:=l.Pairwise fun a b=>ltP a b = true
structure StI (S r : List Pt) (t f : Pt) : Prop where
 ch : ChS S r
 sub : ∀ q ∈ r,q ∈ S
 top : r.head? = some t
 last : r.getLast? = some f
theorem sti (C : List Pt) (hC : Asc C) : ∀ n,0 < n → n ≤ C.length → StI (C.take n) (stkR C n) (C.getD (n - 1) dQ) (C.getD 0 dQ)
 |0,h,_=>absurd h (by omega)
 |1,_,hl=>by
  have e : stkR C 1 = [C.getD 0 dQ]:=by rw [stkR_succ C (by omega)];rfl
  rw [e]
  have e2 : C.take 1 = [C.getD 0 dQ]:=by
   cases C with
   |nil=>simp at hl
   |cons a r=>rfl
  rw [e2]
  exact ⟨trivial,fun q h=>h,rfl,rfl⟩
 |n + 2,_,hl=>by
  obtain ⟨ih1,ih2,ih3,ih4⟩:=sti C hC (n + 1) (by omega) (by omega)
  have hx : n + 1 < C.length:=by omega
  have et : C.take (n + 2) = C.take (n + 1) ++ [C.getD (n + 1) dQ]:=by
   rw [List.take_succ_eq_append_getElem hx];simp [List.getD,hx]
  have hord : ∀ i j,i < j → j < C.length → ltP (C.getD i dQ) (C.getD j dQ) = true:=fun i j h1 h2=>by
   have:=List.pairwise_iff_getElem.1 hC i j (by omega) h2 h1
   simpa [List.getD,show i < C.length by omega,h2] using this
  have hmem : ∀ p,p ∈ C.take (n + 1) → ∃ i,i < n + 1 ∧ p = C.getD i dQ:=fun p hp=>by
   obtain ⟨i,hi,rfl⟩:=List.getElem_of_mem hp
   rw [List.length_take] at hi
   exact ⟨i,by omega,by simp [List.getD,show i < C.length by omega]⟩
  rw [stkR_succ C hx,et]
  generalize hxx : C.getD (n + 1) dQ = x at *
  cases hr : stkR C (n + 1) with
  |nil=>rw [hr] at ih3;cases ih3
  |cons t r=>
   rw [hr] at ih1 ih2 ih3 ih4
   have ht : t = C.getD n dQ:=by simpa using ih3
   have hlast : (t :: r).getLast (by simp) = C.getD 0 dQ:=by
    rw [List.getLast?_eq_some_getLast (by simp)] at ih4
    simpa using ih4
   obtain ⟨h1,h2,h3⟩:=chs_push (S:=C.take (n + 1)) (x:=x) (fun p hp=>by
    obtain ⟨i,hi,rfl⟩:=hmem p hp
    rw [← hxx];exact hord i (n + 1) (by omega) hx) ih1 ih2 (fun p hp hpt=>by
    obtain ⟨i,hi,rfl⟩:=hmem p hp
    by_cases q : i = n
    ·rw [q,← ht];exact Int.le_of_eq (crs_self t x).2.symm
    ·have:=hord i n (by omega) (by omega)
     rw [← ht] at this
     rcases hpt with e | e
     ·exact absurd e (ltP_ne this)
     ·exact absurd e (by rw [sw_ltP.asym this];decide)) (fun p hp=>by
    obtain ⟨i,hi,rfl⟩:=hmem p hp
    rw [hlast]
    by_cases q : i = 0
    ·rw [q];exact .inl rfl
    ·exact .inr (hord 0 i (by omega) (by omega)))
   have hne:=popR_ne x (t :: r) (by simp)
   refine ⟨h1,fun q hq=>?_,by rw [show n + 2 - 1 = n + 1 by omega,hxx];rfl,?_⟩
   ·rcases List.mem_cons.1 hq with e | e
    ·rw [e];exact List.mem_append.2 (.inr (List.mem_singleton.2 rfl))
    ·exact List.mem_append.2 (.inl (h2 q e))
   ·rw [List.getLast?_cons,List.getLast?_eq_some_getLast hne,h3 hne,hlast];rfl
structure Wy (C h : List Pt) (s t : Pt) (lt : Pt → Pt → Prop) : Prop where
 sub : ∀ q ∈ h,q ∈ C
 hd : h.head? = some s
 la : h.getLast? = some t
 adj : ∀ A u v B,h = A ++ u :: v :: B → lt u v ∧ ∀ p ∈ C,0 ≤ crs u v p
 tri : ∀ A w u v B,h = A ++ w :: u :: v :: B → 0 < crs w u v
theorem chs_tail {S : List Pt} : ∀ (B : List Pt) {r : List Pt},ChS S (B ++ r) → ChS S r
 |[],_,h=>h
 |[b],r,h=>by
  cases r with
  |nil=>trivial
  |cons a r=>exact h.2
 |b :: a :: B,r,h=>chs_tail (a :: B) (by exact h.2)
theorem wy_of {C r : List Pt} {t f : Pt} (h : StI C r t f) : Wy C r.reverse f t (fun u v=>ltP u v = true):=by
 obtain ⟨h1,h2,h3,h4⟩:=h
 refine ⟨fun q hq=>h2 q (List.mem_reverse.1 hq),by rw [List.head?_reverse];exact h4,by rw [List.getLast?_reverse];exact h3,fun A u v B e=>?_,fun A w u v B e=>?_⟩
 ·have e2 : r = B.reverse ++ v :: u :: A.reverse:=by
   have:=congrArg List.reverse e
   simpa using this
  rw [e2] at h1
  have:=chs_tail _ h1
  exact ⟨this.1.1,this.1.2.1⟩
 ·have e2 : r = B.reverse ++ v :: u :: w :: A.reverse:=by
   have:=congrArg List.reverse e
   simpa using this
  rw [e2] at h1
  have:=chs_tail _ h1
  exact this.1.2.2 w rfl
def ng (p : Pt) : Pt:=⟨-p.x,-p.y⟩
theorem ng_ng (p : Pt) : ng (ng p) = p:=by cases p;simp [ng]
theorem ng_inj {p q : Pt} (h : ng p = ng q) : p = q:=by have:=congrArg ng h;rwa [ng_ng,ng_ng] at this
theorem crs_ng (a b c : Pt) : crs (ng a) (ng b) (ng c) = crs a b c:=by unfold crs ng;grind
theorem ltP_ng (a b : Pt) : ltP (ng a) (ng b) = ltP b a:=by
 rw [Bool.eq_iff_iff,ltP_lx,ltP_lx]
 unfold LxP ng
 dsimp only
 omega
theorem popR_ng (x : Pt) : ∀ l,popR (ng x) (l.map ng) = (popR x l).map ng
 |[]=>rfl
 |[b]=>rfl
 |b :: a :: r=>by
  show (if crs (ng a) (ng b) (ng x) ≤ 0 then popR (ng x) ((a :: r).map ng) else _) = _
  rw [crs_ng,popR_ng x (a :: r)]
  show _ = (if crs a b x ≤ 0 then popR x (a :: r) else b :: a :: r).map ng
  split <;> rfl
theorem getD_ng (l : List Pt) {i : Nat} (h : i < l.length) : (l.map ng).getD i dQ = ng (l.getD i dQ):=by
 simp [List.getD,h]
theorem stkR_ng (l : List Pt) : ∀ n,n ≤ l.length → stkR (l.map ng) n = (stkR l n).map ng
 |0,_=>by simp [stkR]
 |n + 1,h=>by
  rw [stkR_succ _ (by rw [List.length_map];omega),stkR_succ l (by omega),stkR_ng l n (by omega),getD_ng l (by omega),popR_ng]
  rfl
theorem asc_ng {C : List Pt} (h : Asc C) : Asc (C.reverse.map ng):=by
 unfold Asc at *
 rw [List.pairwise_map,List.pairwise_reverse]
 exact h.imp fun q=>by rw [ltP_ng];exact q
theorem wy_lo {C : List Pt} (hC : Asc C) (h0 : 0 < C.length) : Wy C (stk C) (C.getD 0 dQ) (C.getD (C.length - 1) dQ) (fun u v=>ltP u v = true):=by
 have:=sti C hC C.length h0 (Nat.le_refl _)
 rw [List.take_length] at this
 exact wy_of this
theorem wy_hi {C : List Pt} (hC : Asc C) (h0 : 0 < C.length) : Wy C (stk C.reverse) (C.getD (C.length - 1) dQ) (C.getD 0 dQ) (fun u v=>ltP v u = true):=by
 have hl : (C.reverse.map ng).length = C.length:=by rw [List.length_map,List.length_reverse]
 have h:=sti (C.reverse.map ng) (asc_ng hC) C.length h0 (by omega)
 have e1 : (C.reverse.map ng).take C.length = C.reverse.map ng:=by rw [← hl,List.take_length]
 have e2 : stkR (C.reverse.map ng) C.length = (stkR C.reverse C.length).map ng:=stkR_ng _ _ (by rw [List.length_reverse];omega)
 rw [e1,e2,getD_ng _ (by rw [List.length_reverse];omega),getD_ng _ (by rw [List.length_reverse];omega)] at h
 have w:=wy_of h
 have e3 : ((stkR C.reverse C.length).map ng).reverse = (stk C.reverse).map ng:=by
  unfold stk
  rw [List.length_reverse,List.map_reverse]
 rw [e3] at w
 obtain ⟨w1,w2,w3,w4,w5⟩:=w
 have g0 : C.reverse.getD 0 dQ = C.getD (C.length - 1) dQ:=by
  simp [List.getD,List.getElem?_reverse h0]
 have g1 : C.reverse.getD (C.length - 1) dQ = C.getD 0 dQ:=by
  simp [List.getD,List.getElem?_reverse (show C.length - 1 < C.length by omega),show C.length - 1 - (C.length - 1) = 0 by omega]
 rw [g0] at w2
 rw [g1] at w3
 refine ⟨fun q hq=>?_,?_,?_,fun A u v B e=>?_,fun A w u v B e=>?_⟩
 ·have:=w1 (ng q) (List.mem_map_of_mem hq)
  rw [List.mem_map] at this
  obtain ⟨z,hz,e⟩:=this
  rw [ng_inj e] at hz
  exact List.mem_reverse.1 hz
 ·rw [List.head?_map] at w2
  cases hh : (stk C.reverse).head? with
  |none=>rw [hh] at w2;cases w2
  |some z=>rw [hh] at w2;injection w2 with w2;rw [ng_inj w2]
 ·rw [List.getLast?_map] at w3
  cases hh : (stk C.reverse).getLast? with
  |none=>rw [hh] at w3;cases w3
  |some z=>rw [hh] at w3;injection w3 with w3;rw [ng_inj w3]
 ·have q:=w4 (A.map ng) (ng u) (ng v) (B.map ng) (by rw [e];simp)
  rw [ltP_ng] at q
  refine ⟨q.1,fun p hp=>?_⟩
  have:=q.2 (ng p) (List.mem_map_of_mem (List.mem_reverse.2 hp))
  rwa [crs_ng] at this
 ·have q:=w5 (A.map ng) (ng w) (ng u) (ng v) (B.map ng) (by rw [e];simp)
  rwa [crs_ng] at q
theorem neg_nn {b x : Int} (hb : 0 < b) (h : b * x ≤ 0) : x ≤ 0:=by
 apply Classical.byContradiction
 intro q
 have:=Int.mul_pos hb (show 0 < x by omega)
 omega
theorem cone {d : Dr} {u v w P : Pt} (h : 0 < crs u v w) (h1 : 0 ≤ crs v w P) (h2 : 0 ≤ crs u v P) (hu : dot d u ≤ dot d v) (hw : dot d w ≤ dot d v) : dot d P ≤ dot d v:=by
 have hid : crs u v w * (dot d P - dot d v) = crs u v P * (dot d w - dot d v) + crs v w P * (dot d u - dot d v):=by
  unfold crs dot;grind
 have h3 : crs u v P * (dot d w - dot d v) ≤ 0:=Int.mul_nonpos_of_nonneg_of_nonpos h2 (by omega)
 have h4 : crs v w P * (dot d u - dot d v) ≤ 0:=Int.mul_nonpos_of_nonneg_of_nonpos h1 (by omega)
 have:=neg_nn h (show crs u v w * (dot d P - dot d v) ≤ 0 by omega)
 omega
theorem exists_max (d : Dr) : ∀ (l : List Pt),l ≠ [] → ∃ v ∈ l,∀ q ∈ l,dot d q ≤ dot d v
 |[],h=>absurd rfl h
 |[a],_=>⟨a,by simp,fun q hq=>by rw [List.mem_singleton] at hq;rw [hq];exact Int.le_refl _⟩
 |a :: b :: r,_=>by
  obtain ⟨v,hv,hm⟩:=exists_max d (b :: r) (by simp)
  by_cases q : dot d v ≤ dot d a
  ·refine ⟨a,List.mem_cons_self,fun x hx=>?_⟩
   rcases List.mem_cons.1 hx with rfl | hx
   ·exact Int.le_refl _
   ·exact Int.le_trans (hm x hx) q
  ·refine ⟨v,List.mem_cons_of_mem _ hv,fun x hx=>?_⟩
   rcases List.mem_cons.1 hx with rfl | hx
   ·omega
   ·exact hm x hx
theorem mem_cut {l : List Pt} {v : Pt} (h : v ∈ l) : (∃ A w B,l = A ++ v :: w :: B) ∨ l.getLast? = some v:=by
 obtain ⟨A,B,rfl⟩:=List.append_of_mem h
 cases B with
 |nil=>right;simp
 |cons w B=>exact .inl ⟨A,w,B,rfl⟩
theorem last_cut {A : List Pt} {v : Pt} (h : A ≠ []) : ∃ A' u,A = A' ++ [u]:=⟨A.dropLast,A.getLast h,(List.dropLast_concat_getLast h).symm⟩
theorem col3 {v w a b c : Pt} (hvw : v ≠ w) (h1 : crs v w a = 0) (h2 : crs v w b = 0) (h3 : crs v w c = 0) : crs a b c = 0:=by
 have e1 : (w.x - v.x) * crs a b c = 0:=by
  have : (w.x - v.x) * crs a b c = (b.x - a.x) * (crs v w c - crs v w a) - (c.x - a.x) * (crs v w b - crs v w a):=by unfold crs;grind
  rw [this,h1,h2,h3];simp
 have e2 : (w.y - v.y) * crs a b c = 0:=by
  have : (w.y - v.y) * crs a b c = (b.y - a.y) * (crs v w c - crs v w a) - (c.y - a.y) * (crs v w b - crs v w a):=by unfold crs;grind
  rw [this,h1,h2,h3];simp
 rcases Int.mul_eq_zero.1 e1 with q | q
 ·rcases Int.mul_eq_zero.1 e2 with q2 | q2
  ·exfalso;apply hvw
   cases v;cases w
   dsimp only at q q2
   congr 1 <;> omega
  ·exact q2
 ·exact q
section
variable {C L H : List Pt} {s t : Pt}
theorem corner_lo (hL : Wy C L s t (fun u v=>ltP u v = true)) (hH : Wy C H t s (fun u v=>ltP v u = true)) (hs : ∀ p ∈ C,p = s ∨ ltP s p = true) {w u : Pt} {B A : List Pt} (e1 : L = s :: w :: B) (e2 : H = A ++ u :: s :: []) :
  0 < crs u s w ∨ ∀ p ∈ C,crs s w p = 0:=by
 have a1:=hL.adj [] s w B e1
 have a2:=hH.adj A u s [] e2
 have hu : u ∈ C:=hH.sub u (by rw [e2];simp)
 have h1:=a1.2 u hu
 have e3 : crs u s w = crs s w u:=by unfold crs;grind
 by_cases q : crs s w u = 0
 ·right
  intro p hp
  have p1:=a1.2 p hp
  have p2:=a2.2 p hp
  have lw:=ltP_lx.1 a1.1
  have lu:=ltP_lx.1 a2.1
  have lp : LxN (p.x - s.x) (p.y - s.y):=by
   rcases hs p hp with rfl | k
   ·unfold LxN;omega
   ·exact (ltP_lx.1 k).n
  have f1 : crs u s p = (p.x - s.x) * (u.y - s.y) - (p.y - s.y) * (u.x - s.x):=by unfold crs;grind
  have f2 : (u.x - s.x) * (w.y - s.y) - (u.y - s.y) * (w.x - s.x) = -crs s w u:=by unfold crs;grind
  have f3 : crs s w p = -((p.x - s.x) * (w.y - s.y) - (p.y - s.y) * (w.x - s.x)):=by unfold crs;grind
  rw [f1] at p2
  have:=crx_trans lp lu lw.n p2 (by rw [f2];omega)
  omega
 ·left;omega
theorem corner_hi (hL : Wy C L s t (fun u v=>ltP u v = true)) (hH : Wy C H t s (fun u v=>ltP v u = true)) (ht : ∀ p ∈ C,p = t ∨ ltP p t = true) {w u : Pt} {B A : List Pt} (e1 : H = t :: w :: B) (e2 : L = A ++ u :: t :: []) :
  0 < crs u t w ∨ ∀ p ∈ C,crs t w p = 0:=by
 have a1:=hH.adj [] t w B e1
 have a2:=hL.adj A u t [] e2
 have hu : u ∈ C:=hL.sub u (by rw [e2];simp)
 have h1:=a1.2 u hu
 have e3 : crs u t w = crs t w u:=by unfold crs;grind
 by_cases q : crs t w u = 0
 ·right
  intro p hp
  have p1:=a1.2 p hp
  have p2:=a2.2 p hp
  have lw:=ltP_lx.1 a1.1
  have lu:=ltP_lx.1 a2.1
  have lp : LxN (t.x - p.x) (t.y - p.y):=by
   rcases ht p hp with rfl | k
   ·unfold LxN;omega
   ·exact (ltP_lx.1 k).n
  have f1 : crs u t p = (t.x - p.x) * (t.y - u.y) - (t.y - p.y) * (t.x - u.x):=by unfold crs;grind
  have f2 : (t.x - u.x) * (t.y - w.y) - (t.y - u.y) * (t.x - w.x) = -crs t w u:=by unfold crs;grind
  have f3 : crs t w p = -((t.x - p.x) * (t.y - w.y) - (t.y - p.y) * (t.x - w.x)):=by unfold crs;grind
  rw [f1] at p2
  have:=crx_trans lp lu lw.n p2 (by rw [f2];omega)
  omega
 ·left;omega
theorem two_first {l : List Pt} (h1 : l.head? = some s) (h2 : l.getLast? = some t) (h : s ≠ t) : ∃ w B,l = s :: w :: B:=by
 cases l with
 |nil=>cases h1
 |cons a r=>
  injection h1 with h1
  subst h1
  cases r with
  |nil=>simp at h2;exact absurd h2 h
  |cons w B=>exact ⟨w,B,rfl⟩
theorem two_last {l : List Pt} (h1 : l.head? = some s) (h2 : l.getLast? = some t) (h : s ≠ t) : ∃ A u,l = A ++ u :: t :: []:=by
 obtain ⟨w,B,rfl⟩:=two_first h1 h2 h
 have hne : (s :: w :: B) ≠ []:=by simp
 have e:=List.dropLast_concat_getLast hne
 rw [List.getLast?_eq_some_getLast hne] at h2
 injection h2 with h2
 rw [h2] at e
 obtain ⟨A,u,e2⟩:=last_cut (A:=(s :: w :: B).dropLast) (v:=t) (by simp)
 rw [e2] at e
 exact ⟨A,u,by rw [← e];simp⟩
theorem one_way (hL : Wy C L s t (fun u v=>ltP u v = true)) (hH : Wy C H t s (fun u v=>ltP v u = true)) (hst : s ≠ t) (h : ∀ a ∈ C,∀ b ∈ C,∀ c ∈ C,crs a b c = 0) : L = [s,t] ∧ H = [t,s]:=by
 obtain ⟨w,B,e⟩:=two_first hL.hd hL.la hst
 obtain ⟨w2,B2,e2⟩:=two_first hH.hd hH.la (Ne.symm hst)
 constructor
 ·cases B with
  |nil=>
   have:=hL.la
   rw [e] at this ⊢
   simp at this
   rw [this]
  |cons x B=>
   have:=hL.tri [] s w x B e
   rw [h s (hL.sub _ (by rw [e];simp)) w (hL.sub _ (by rw [e];simp)) x (hL.sub _ (by rw [e];simp))] at this
   omega
 ·cases B2 with
  |nil=>
   have:=hH.la
   rw [e2] at this ⊢
   simp at this
   rw [this]
  |cons x B=>
   have:=hH.tri [] t w2 x B e2
   rw [h t (hH.sub _ (by rw [e2];simp)) w2 (hH.sub _ (by rw [e2];simp)) x (hH.sub _ (by rw [e2];simp))] at this
   omega
theorem sat (hL : Wy C L s t (fun u v=>ltP u v = true)) (hH : Wy C H t s (fun u v=>ltP v u = true)) (hst : s ≠ t) (hs : ∀ p ∈ C,p = s ∨ ltP s p = true) (ht : ∀ p ∈ C,p = t ∨ ltP p t = true)
  {P : Pt} (hPL : ∀ A u v B,L = A ++ u :: v :: B → 0 ≤ crs u v P) (hPH : ∀ A u v B,H = A ++ u :: v :: B → 0 ≤ crs u v P) (d : Dr) :
  (∃ v ∈ L ++ H,dot d P ≤ dot d v) ∨ (L = [s,t] ∧ H = [t,s]):=by
 obtain ⟨w0,B0,eL0⟩:=two_first hL.hd hL.la hst
 obtain ⟨w1,B1,eH0⟩:=two_first hH.hd hH.la (Ne.symm hst)
 obtain ⟨A2,u2,eL1⟩:=two_last hL.hd hL.la hst
 obtain ⟨A3,u3,eH1⟩:=two_last hH.hd hH.la (Ne.symm hst)
 have hcol : ∀ {a b : Pt},a ≠ b → (∀ p ∈ C,crs a b p = 0) → L = [s,t] ∧ H = [t,s]:=fun hab h=>one_way hL hH hst (fun x hx y hy z hz=>col3 hab (h x hx) (h y hy) (h z hz))
 obtain ⟨v,hv,hm⟩:=exists_max d (L ++ H) (by rw [eL0];simp)
 have hmL : ∀ q ∈ L,dot d q ≤ dot d v:=fun q hq=>hm q (List.mem_append.2 (.inl hq))
 have hmH : ∀ q ∈ H,dot d q ≤ dot d v:=fun q hq=>hm q (List.mem_append.2 (.inr hq))
 have atS : v = s → (∃ v ∈ L ++ H,dot d P ≤ dot d v) ∨ (L = [s,t] ∧ H = [t,s]):=fun e=>by
  subst e
  rcases corner_lo hL hH hs eL0 eH1 with k | k
  ·exact .inl ⟨v,hv,cone k (hPL [] v w0 B0 eL0) (hPH A3 u3 v [] eH1) (hmH u3 (by rw [eH1];simp)) (hmL w0 (by rw [eL0];simp))⟩
  ·exact .inr (hcol (ltP_ne (hL.adj [] v w0 B0 eL0).1) k)
 have atT : v = t → (∃ v ∈ L ++ H,dot d P ≤ dot d v) ∨ (L = [s,t] ∧ H = [t,s]):=fun e=>by
  subst e
  rcases corner_hi hL hH ht eH0 eL1 with k | k
  ·exact .inl ⟨v,hv,cone k (hPH [] v w1 B1 eH0) (hPL A2 u2 v [] eL1) (hmL u2 (by rw [eL1];simp)) (hmH w1 (by rw [eH0];simp))⟩
  ·exact .inr (hcol (Ne.symm (ltP_ne (hH.adj [] v w1 B1 eH0).1)) k)
 rcases List.mem_append.1 hv with hv' | hv'
 ·rcases mem_cut hv' with ⟨A,w,B,e⟩ | e
  ·cases A with
   |nil=>
    apply atS
    rw [eL0] at e
    injection e with e _
    exact e.symm
   |cons a A=>
    obtain ⟨A',u,e2⟩:=last_cut (A:=a :: A) (v:=v) (by simp)
    rw [e2] at e
    have e : L = A' ++ u :: v :: w :: B:=by rw [e];simp
    exact .inl ⟨v,hv,cone (hL.tri A' u v w B e) (hPL (A' ++ [u]) v w B (by rw [e];simp)) (hPL A' u v (w :: B) e) (hmL u (by rw [e];simp)) (hmL w (by rw [e];simp))⟩
  ·apply atT
   have:=hL.la
   rw [e] at this
   injection this
 ·rcases mem_cut hv' with ⟨A,w,B,e⟩ | e
  ·cases A with
   |nil=>
    apply atT
    rw [eH0] at e
    injection e with e _
    exact e.symm
   |cons a A=>
    obtain ⟨A',u,e2⟩:=last_cut (A:=a :: A) (v:=v) (by simp)
    rw [e2] at e
    have e : H = A' ++ u :: v :: w :: B:=by rw [e];simp
    exact .inl ⟨v,hv,cone (hH.tri A' u v w B e) (hPH (A' ++ [u]) v w B (by rw [e];simp)) (hPH A' u v (w :: B) e) (hmH u (by rw [e];simp)) (hmH w (by rw [e];simp))⟩
  ·apply atS
   have:=hH.la
   rw [e] at this
   injection this
end
theorem cpt_asc {l : List Pt} (hl : SrtL ltP l) : ∀ n,0 < n → n ≤ l.length → Asc (cpt l n) ∧ (cpt l n).getLast? = some (l.getD (n - 1) dQ) ∧ ∀ p ∈ l.take n,p ∈ cpt l n
 |0,h,_=>absurd h (by omega)
 |1,_,h=>by
  show Asc (l.take 1) ∧ (l.take 1).getLast? = _ ∧ _
  cases l with
  |nil=>simp at h
  |cons a r=>exact ⟨by simp [Asc],rfl,fun p hp=>hp⟩
 |n + 2,_,h=>by
  obtain ⟨h1,h2,h3⟩:=cpt_asc hl (n + 1) (by omega) (by omega)
  have hx : n + 1 < l.length:=by omega
  have et : l.take (n + 2) = l.take (n + 1) ++ [l.getD (n + 1) dQ]:=by
   rw [List.take_succ_eq_append_getElem hx];simp [List.getD,hx]
  rw [show n + 1 - 1 = n by omega] at h2
  rw [et]
  rw [show n + 2 - 1 = n + 1 by omega]
  by_cases q : eqP (l.getD (n + 1) dQ) (l.getD n dQ) = true
  ·have e : cpt l (n + 2) = cpt l (n + 1):=by rw [cpt_succ l (by omega),show n + 1 - 1 = n by omega,if_pos q]
   rw [e,eqP_iff.1 q]
   refine ⟨h1,h2,fun p hp=>?_⟩
   rcases List.mem_append.1 hp with k | k
   ·exact h3 p k
   ·rw [List.mem_singleton] at k
    rw [k]
    exact List.mem_of_getLast? h2
  ·have e : cpt l (n + 2) = cpt l (n + 1) ++ [l.getD (n + 1) dQ]:=by rw [cpt_succ l (by omega),show n + 1 - 1 = n by omega,if_neg q]
   rw [e]
   have hlt : ltP (l.getD n dQ) (l.getD (n + 1) dQ) = true:=by
    rcases ltP_tri (l.getD n dQ) (l.getD (n + 1) dQ) with k | k | k
    ·exact k
    ·have:=srt_get hl dQ (show n < n + 1 by omega) hx
     rw [k] at this;cases this
    ·exact absurd (eqP_iff.2 k.symm) q
   refine ⟨?_,by simp,fun p hp=>?_⟩
   ·unfold Asc
    rw [List.pairwise_append]
    refine ⟨h1,by simp,fun a ha b hb=>?_⟩
    rw [List.mem_singleton] at hb
    rw [hb]
    obtain ⟨A,e2⟩ : ∃ A,cpt l (n + 1) = A ++ [l.getD n dQ]:=by
     have hne : cpt l (n + 1) ≠ []:=fun e=>by rw [e] at h2;cases h2
     rw [List.getLast?_eq_some_getLast hne] at h2
     injection h2 with h2
     exact ⟨_,by rw [← h2];exact (List.dropLast_concat_getLast hne).symm⟩
    rw [e2] at ha h1
    rcases List.mem_append.1 ha with k | k
    ·unfold Asc at h1
     rw [List.pairwise_append] at h1
     exact ltP_trans (h1.2.2 a k _ (by simp)) hlt
    ·rw [List.mem_singleton] at k
     rw [k];exact hlt
   ·rcases List.mem_append.1 hp with k | k
    ·exact List.mem_append.2 (.inl (h3 p k))
    ·exact List.mem_append.2 (.inr k)
def srC (G : List Pt) : List Pt:=cpt (isort ltP G) G.length
theorem srC_ok {G : List Pt} (h : 0 < G.length) : Asc (srC G) ∧ 0 < (srC G).length ∧ ∀ p,p ∈ srC G ↔ p ∈ G:=by
 have hl:=isort_len (lt:=ltP) G
 obtain ⟨h1,h2,h3⟩:=cpt_asc (srt_isort sw_ltP G) G.length h (by omega)
 refine ⟨h1,?_,fun p=>⟨fun hp=>(isort_mem G).1 (cpt_mem _ _ (by omega) hp),fun hp=>?_⟩⟩
 ·exact cpt_ne _ _ h (by omega)
 ·apply h3
  rw [← hl,List.take_length]
  exact (isort_mem G).2 hp
theorem crn_eq (G : List Pt) : crn G = if (srC G).length < 2 then srC G else (stk (srC G)).dropLast ++ (stk (srC G).reverse).dropLast:=rfl
theorem foldm (d : Dr) : ∀ (l : List Pt) (a b : Int),(∀ q ∈ l,dot d q ≤ (l.foldl (fun s p=>(min s.1 (dot d p),max s.2 (dot d p))) (a,b)).2) ∧ b ≤ (l.foldl (fun s p=>(min s.1 (dot d p),max s.2 (dot d p))) (a,b)).2 ∧ ((l.foldl (fun s p=>(min s.1 (dot d p),max s.2 (dot d p))) (a,b)).2 = b ∨ ∃ q ∈ l,(l.foldl (fun s p=>(min s.1 (dot d p),max s.2 (dot d p))) (a,b)).2 = dot d q)
 |[],a,b=>⟨(fun q h=>by cases h),Int.le_refl _,.inl rfl⟩
 |p :: l,a,b=>by
  obtain ⟨h1,h2,h3⟩:=foldm d l (min a (dot d p)) (max b (dot d p))
  rw [List.foldl_cons]
  generalize (l.foldl (fun s p=>(min s.1 (dot d p),max s.2 (dot d p))) (min a (dot d p),max b (dot d p))).2 = M at *
  refine ⟨fun q hq=>?_,by omega,?_⟩
  ·rcases List.mem_cons.1 hq with rfl | hq
   ·omega
   ·exact h1 q hq
  ·rcases h3 with h3 | ⟨q,hq,h3⟩
   ·by_cases c : b ≤ dot d p
    ·exact .inr ⟨p,List.mem_cons_self,by omega⟩
    ·exact .inl (by omega)
   ·exact .inr ⟨q,List.mem_cons_of_mem _ hq,h3⟩
theorem hiS_iff (d : Dr) {h : List Pt} (h0 : h ≠ []) (x : Int) : x ≤ hiS d h ↔ ∃ q ∈ h,x ≤ dot d q:=by
 cases h with
 |nil=>exact absurd rfl h0
 |cons a r=>
  have e : hiS d (a :: r) = (r.foldl (fun s p=>(min s.1 (dot d p),max s.2 (dot d p))) (dot d a,dot d a)).2:=by
   unfold hiS spn
   have : (List.drop 1 (a :: r)).take ((a :: r).length - 1) = r:=by
    show r.take (r.length + 1 - 1) = r
    rw [Nat.add_sub_cancel,List.take_length]
   rw [this];rfl
  obtain ⟨h1,h2,h3⟩:=foldm d r (dot d a) (dot d a)
  rw [e]
  generalize (r.foldl (fun s p=>(min s.1 (dot d p),max s.2 (dot d p))) (dot d a,dot d a)).2 = M at *
  constructor
  ·intro hx
   rcases h3 with h3 | ⟨q,hq,h3⟩
   ·exact ⟨a,List.mem_cons_self,by omega⟩
   ·exact ⟨q,List.mem_cons_of_mem _ hq,by omega⟩
  ·rintro ⟨q,hq,hx⟩
   rcases List.mem_cons.1 hq with rfl | hq
   ·omega
   ·have:=h1 q hq;omega
theorem loS_one (d : Dr) (P : Pt) : loS d [P] = dot d P:=rfl
theorem apB_no {H : List Pt} {P : Pt} (h0 : H ≠ []) : apB H [P] = false ↔ ∀ d ∈ drL H [P],∃ q ∈ H,dot d P ≤ dot d q:=by
 unfold apB
 rw [Option.isSome_eq_false_iff,Option.isNone_iff_eq_none]
 unfold fdD
 rw [List.find?_eq_none]
 constructor
 ·intro h d hd
  have:=h d hd
  rw [decide_eq_true_eq,loS_one] at this
  exact (hiS_iff d h0 _).1 (by omega)
 ·intro h d hd
  have:=(hiS_iff d h0 _).2 (h d hd)
  rw [decide_eq_true_eq,loS_one]
  omega
theorem dd_at {H : List Pt} {i : Nat} (hi : i < H.length) : ∀ d ∈ dd (H.getD i dQ) (H.getD ((i + 1) % H.length) dQ),d ∈ sdL H:=fun d hd=>by
 unfold sdL sdN
 rw [List.mem_flatMap]
 exact ⟨i,List.mem_range.2 hi,hd⟩
theorem getD_mid {A R : List Pt} {u : Pt} : (A ++ u :: R).getD A.length dQ = u:=by simp [List.getD]
theorem dd_in {H A R : List Pt} {u v : Pt} (h : H = A ++ u :: v :: R) : ∀ d ∈ dd u v,d ∈ sdL H:=fun d hd=>by
 have e1 : H.getD A.length dQ = u:=by rw [h];exact getD_mid
 have hl : H.length = A.length + R.length + 2:=by rw [h];simp;omega
 have e2 : H.getD (A.length + 1) dQ = v:=by
  rw [h,show A ++ u :: v :: R = (A ++ [u]) ++ v :: R by simp,show A.length + 1 = (A ++ [u]).length by simp]
  exact getD_mid
 have:=dd_at (H:=H) (i:=A.length) (by omega) d
 rw [Nat.mod_eq_of_lt (by omega),e1,e2] at this
 exact this hd
theorem dd_wrap {H A : List Pt} {u v : Pt} (h : H = A ++ [u]) (hv : H.head? = some v) : ∀ d ∈ dd u v,d ∈ sdL H:=fun d hd=>by
 have e1 : H.getD A.length dQ = u:=by rw [h];exact getD_mid
 have hl : H.length = A.length + 1:=by rw [h];simp
 have e2 : H.getD 0 dQ = v:=by
  cases H with
  |nil=>cases hv
  |cons a r=>injection hv
 have:=dd_at (H:=H) (i:=A.length) (by omega) d
 rw [hl,Nat.mod_self,e1,e2] at this
 exact this hd
theorem crs_dot (u v q : Pt) : crs u v q = dot (v.y - u.y,0 - (v.x - u.x)) u - dot (v.y - u.y,0 - (v.x - u.x)) q:=by
 unfold crs dot;grind
theorem sq_nn (x : Int) : 0 ≤ x * x:=by
 rcases Int.le_total 0 x with h | h
 ·exact Int.mul_nonneg h h
 ·exact Int.mul_nonneg_of_nonpos_of_nonpos h h
theorem sq_sum0 {x y : Int} (h : x * x + y * y ≤ 0) : x = 0 ∧ y = 0:=by
 have h1:=sq_nn x
 have h2:=sq_nn y
 constructor
 ·rcases Int.mul_eq_zero.1 (show x * x = 0 by omega) with q | q <;> exact q
 ·rcases Int.mul_eq_zero.1 (show y * y = 0 by omega) with q | q <;> exact q
theorem seg {d : Dr} {s t P : Pt} (hst : s ≠ t) (h0 : crs s t P = 0) (h1 : dot (t.x - s.x,t.y - s.y) s ≤ dot (t.x - s.x,t.y - s.y) P) (h2 : dot (t.x - s.x,t.y - s.y) P ≤ dot (t.x - s.x,t.y - s.y) t) : dot d P ≤ dot d s ∨ dot d P ≤ dot d t:=by
 have hU : 0 < (t.x - s.x) * (t.x - s.x) + (t.y - s.y) * (t.y - s.y):=by
  apply Classical.byContradiction
  intro q
  obtain ⟨a,b⟩:=sq_sum0 (show (t.x - s.x) * (t.x - s.x) + (t.y - s.y) * (t.y - s.y) ≤ 0 by omega)
  apply hst
  cases s;cases t
  dsimp only at a b
  congr 1 <;> omega
 have hid : ((t.x - s.x) * (t.x - s.x) + (t.y - s.y) * (t.y - s.y)) * (dot d P - dot d s) = (dot (t.x - s.x,t.y - s.y) P - dot (t.x - s.x,t.y - s.y) s) * (dot d t - dot d s) + crs s t P * ((t.x - s.x) * d.2 - (t.y - s.y) * d.1):=by
  unfold crs dot;grind
 rw [h0,Int.zero_mul,Int.add_zero] at hid
 have hUe : dot (t.x - s.x,t.y - s.y) t - dot (t.x - s.x,t.y - s.y) s = (t.x - s.x) * (t.x - s.x) + (t.y - s.y) * (t.y - s.y):=by
  unfold dot;grind
 have hm1 : 0 ≤ dot (t.x - s.x,t.y - s.y) P - dot (t.x - s.x,t.y - s.y) s:=by omega
 have hm2 : dot (t.x - s.x,t.y - s.y) P - dot (t.x - s.x,t.y - s.y) s ≤ (t.x - s.x) * (t.x - s.x) + (t.y - s.y) * (t.y - s.y):=by omega
 generalize dot (t.x - s.x,t.y - s.y) P - dot (t.x - s.x,t.y - s.y) s = m at *
 by_cases q : dot d t ≤ dot d s
 ·left
  have h3 : m * (dot d t - dot d s) ≤ 0:=Int.mul_nonpos_of_nonneg_of_nonpos hm1 (by omega)
  have:=neg_nn hU (show _ ≤ 0 by rw [hid];exact h3)
  omega
 ·right
  have h3 : m * (dot d t - dot d s) ≤ ((t.x - s.x) * (t.x - s.x) + (t.y - s.y) * (t.y - s.y)) * (dot d t - dot d s):=Int.mul_le_mul_of_nonneg_right hm2 (by omega)
  have h4 : ((t.x - s.x) * (t.x - s.x) + (t.y - s.y) * (t.y - s.y)) * (dot d P - dot d t) ≤ 0:=by
   have : ((t.x - s.x) * (t.x - s.x) + (t.y - s.y) * (t.y - s.y)) * (dot d P - dot d t) = ((t.x - s.x) * (t.x - s.x) + (t.y - s.y) * (t.y - s.y)) * (dot d P - dot d s) - ((t.x - s.x) * (t.x - s.x) + (t.y - s.y) * (t.y - s.y)) * (dot d t - dot d s):=by grind
   rw [this,hid];omega
  have:=neg_nn hU h4
  omega
structure Rnd (G L K : List Pt) (s t : Pt) : Prop where
 st : s ≠ t
 lo : Wy (srC G) L s t (fun u v=>ltP u v = true)
 hi : Wy (srC G) K t s (fun u v=>ltP v u = true)
 fs : ∀ p ∈ srC G,p = s ∨ ltP s p = true
 ls : ∀ p ∈ srC G,p = t ∨ ltP p t = true
 eq : crn G = L.dropLast ++ K.dropLast
theorem crn_cases {G : List Pt} (h : 0 < G.length) : (∃ a,srC G = [a] ∧ crn G = [a]) ∨ ∃ L K s t,Rnd G L K s t:=by
 obtain ⟨h1,h2,h3⟩:=srC_ok h
 by_cases q : (srC G).length < 2
 ·left
  have e : crn G = srC G:=by rw [crn_eq,if_pos q]
  rw [e]
  generalize srC G = C at *
  match C,h2,q with
  |[a],_,_=>exact ⟨a,rfl,rfl⟩
 ·right
  have hord : ∀ i j,i < j → j < (srC G).length → ltP ((srC G).getD i dQ) ((srC G).getD j dQ) = true:=fun i j a1 a2=>by
   have:=List.pairwise_iff_getElem.1 h1 i j (by omega) a2 a1
   simpa [List.getD,show i < (srC G).length by omega,a2] using this
  have hmem : ∀ p,p ∈ srC G → ∃ i,i < (srC G).length ∧ p = (srC G).getD i dQ:=fun p hp=>by
   obtain ⟨i,hi,rfl⟩:=List.getElem_of_mem hp
   exact ⟨i,hi,by simp [List.getD,hi]⟩
  refine ⟨_,_,_,_,⟨ltP_ne (hord 0 ((srC G).length - 1) (by omega) (by omega)),wy_lo h1 h2,wy_hi h1 h2,fun p hp=>?_,fun p hp=>?_,by rw [crn_eq,if_neg q]⟩⟩
  ·obtain ⟨i,hi,rfl⟩:=hmem p hp
   by_cases k : i = 0
   ·rw [k];exact .inl rfl
   ·exact .inr (hord 0 i (by omega) hi)
  ·obtain ⟨i,hi,rfl⟩:=hmem p hp
   by_cases k : i = (srC G).length - 1
   ·rw [k];exact .inl rfl
   ·exact .inr (hord i _ (by omega) (by omega))
section
variable {G L K : List Pt} {s t : Pt}
theorem Rnd.mem (h : Rnd G L K s t) {v : Pt} (hv : v ∈ L ++ K) : v ∈ crn G:=by
 obtain ⟨w0,B0,eL0⟩:=two_first h.lo.hd h.lo.la h.st
 obtain ⟨w1,B1,eH0⟩:=two_first h.hi.hd h.hi.la (Ne.symm h.st)
 have hs : s ∈ L.dropLast:=by rw [eL0];simp
 have ht : t ∈ K.dropLast:=by rw [eH0];simp
 rw [h.eq]
 rcases List.mem_append.1 hv with k | k
 ·rcases mem_cut k with ⟨A,w,B,e⟩ | e
  ·apply List.mem_append.2;left
   rw [e,show A ++ v :: w :: B = (A ++ [v]) ++ (w :: B) by simp,List.dropLast_append_of_ne_nil (by simp)]
   simp
  ·have:=h.lo.la
   rw [e] at this;injection this with this
   rw [this];exact List.mem_append.2 (.inr ht)
 ·rcases mem_cut k with ⟨A,w,B,e⟩ | e
  ·apply List.mem_append.2;right
   rw [e,show A ++ v :: w :: B = (A ++ [v]) ++ (w :: B) by simp,List.dropLast_append_of_ne_nil (by simp)]
   simp
  ·have:=h.hi.la
   rw [e] at this;injection this with this
   rw [this];exact List.mem_append.2 (.inl hs)
theorem Rnd.dd_lo (h : Rnd G L K s t) {A B : List Pt} {u v : Pt} (e : L = A ++ u :: v :: B) : ∀ d ∈ dd u v,d ∈ sdL (crn G):=by
 obtain ⟨w1,B1,eH0⟩:=two_first h.hi.hd h.hi.la (Ne.symm h.st)
 rw [h.eq]
 cases B with
 |nil=>
  have hv : v = t:=by have:=h.lo.la;rw [e] at this;simpa using this
  subst hv
  refine dd_in (A:=A) (R:=(w1 :: B1).dropLast) ?_
  rw [e,eH0,show A ++ [u,v] = (A ++ [u]) ++ [v] by simp,List.dropLast_concat]
  simp
 |cons x B=>
  refine dd_in (A:=A) (R:=(x :: B).dropLast ++ K.dropLast) ?_
  rw [e,show A ++ u :: v :: x :: B = (A ++ [u,v]) ++ (x :: B) by simp,List.dropLast_append_of_ne_nil (by simp)]
  simp
theorem Rnd.dd_hi (h : Rnd G L K s t) {A B : List Pt} {u v : Pt} (e : K = A ++ u :: v :: B) : ∀ d ∈ dd u v,d ∈ sdL (crn G):=by
 obtain ⟨w0,B0,eL0⟩:=two_first h.lo.hd h.lo.la h.st
 rw [h.eq]
 cases B with
 |nil=>
  have hv : v = s:=by have:=h.hi.la;rw [e] at this;simpa using this
  subst hv
  refine dd_wrap (A:=L.dropLast ++ A) ?_ ?_
  ·rw [e,show A ++ [u,v] = (A ++ [u]) ++ [v] by simp,List.dropLast_concat]
   simp
  ·rw [eL0];simp
 |cons x B=>
  refine dd_in (A:=L.dropLast ++ A) (R:=(x :: B).dropLast) ?_
  rw [e,show A ++ u :: v :: x :: B = (A ++ [u,v]) ++ (x :: B) by simp,List.dropLast_append_of_ne_nil (by simp)]
  simp
theorem Rnd.crnC (h : Rnd G L K s t) {q : Pt} (hq : q ∈ crn G) : q ∈ srC G:=by
 rw [h.eq] at hq
 rcases List.mem_append.1 hq with k | k
 ·exact h.lo.sub q (List.dropLast_subset _ k)
 ·exact h.hi.sub q (List.dropLast_subset _ k)
theorem Rnd.two (h : Rnd G L K s t) (e1 : L = [s,t]) (e2 : K = [t,s]) : crn G = [s,t]:=by rw [h.eq,e1,e2];rfl
end
theorem apB_iff {G : List Pt} {P : Pt} (h : 0 < G.length) : apB (crn G) [P] = false ↔ ∀ d : Dr,∃ g ∈ G,dot d P ≤ dot d g:=by
 obtain ⟨q1,q2,q3⟩:=srC_ok h
 have hne : crn G ≠ []:=fun e=>by have:=(crn_rng G h).1.1;rw [e] at this;simp at this
 rw [apB_no hne]
 rcases crn_cases h with ⟨a,e1,e2⟩ | ⟨L,K,s,t,R⟩
 ·have haG : a ∈ G:=(q3 a).1 (by rw [e1];simp)
  have hG : ∀ g ∈ G,g = a:=fun g hg=>by have:=(q3 g).2 hg;rw [e1] at this;simpa using this
  rw [e2]
  constructor
  ·intro hd d
   obtain ⟨q,hq,hle⟩:=hd (d0 [a] [P]) (List.mem_cons_self)
   rw [List.mem_singleton] at hq
   subst hq
   have : dot (d0 [q] [P]) P - dot (d0 [q] [P]) q = (P.x - q.x) * (P.x - q.x) + (P.y - q.y) * (P.y - q.y):=by
    show dot (P.x - q.x,P.y - q.y) P - dot (P.x - q.x,P.y - q.y) q = _
    unfold dot;grind
   obtain ⟨u1,u2⟩:=sq_sum0 (show (P.x - q.x) * (P.x - q.x) + (P.y - q.y) * (P.y - q.y) ≤ 0 by omega)
   have : P = q:=by
    cases P;cases q
    dsimp only at u1 u2
    congr 1 <;> omega
   exact ⟨q,haG,by rw [this];exact Int.le_refl _⟩
  ·intro hd d _
   obtain ⟨g,hg,hle⟩:=hd d
   exact ⟨a,by simp,by rw [hG g hg] at hle;exact hle⟩
 ·have hL : ∀ A u v B,L = A ++ u :: v :: B → ltP u v = true ∧ ∀ p ∈ srC G,0 ≤ crs u v p:=R.lo.adj
  have hK : ∀ A u v B,K = A ++ u :: v :: B → ltP v u = true ∧ ∀ p ∈ srC G,0 ≤ crs u v p:=R.hi.adj
  constructor
  ·intro hd d
   have hdr : ∀ x ∈ sdL (crn G),∃ q ∈ crn G,dot x P ≤ dot x q:=fun x hx=>hd x (List.mem_cons_of_mem _ (List.mem_append.2 (.inl hx)))
   have hedge : ∀ u v,(∀ x ∈ dd u v,x ∈ sdL (crn G)) → (∀ p ∈ srC G,0 ≤ crs u v p) → 0 ≤ crs u v P:=fun u v h1 h2=>by
    obtain ⟨q,hq,hle⟩:=hdr (v.y - u.y,0 - (v.x - u.x)) (h1 _ (by simp [dd]))
    have:=h2 q (R.crnC hq)
    rw [crs_dot] at this ⊢
    omega
   have hPL : ∀ A u v B,L = A ++ u :: v :: B → 0 ≤ crs u v P:=fun A u v B e=>hedge u v (R.dd_lo e) (hL A u v B e).2
   have hPK : ∀ A u v B,K = A ++ u :: v :: B → 0 ≤ crs u v P:=fun A u v B e=>hedge u v (R.dd_hi e) (hK A u v B e).2
   rcases sat R.lo R.hi R.st R.fs R.ls hPL hPK d with ⟨v,hv,hle⟩ | ⟨e1,e2⟩
   ·exact ⟨v,(q3 v).1 (R.crnC (R.mem hv)),hle⟩
   ·have ec:=R.two e1 e2
    have c1:=hPL [] s t [] e1
    have c2:=hPK [] t s [] e2
    have c3 : crs t s P = -crs s t P:=by unfold crs;grind
    have m1:=R.dd_lo (A:=[]) (B:=[]) e1
    obtain ⟨x1,y1,z1⟩:=hdr (t.x - s.x,t.y - s.y) (m1 _ (by simp [dd]))
    obtain ⟨x2,y2,z2⟩:=hdr (0 - (t.x - s.x),0 - (t.y - s.y)) (m1 _ (by simp [dd]))
    have hsq : dot (t.x - s.x,t.y - s.y) s ≤ dot (t.x - s.x,t.y - s.y) t:=by
     have : dot (t.x - s.x,t.y - s.y) t - dot (t.x - s.x,t.y - s.y) s = (t.x - s.x) * (t.x - s.x) + (t.y - s.y) * (t.y - s.y):=by unfold dot;grind
     have:=sq_nn (t.x - s.x)
     have:=sq_nn (t.y - s.y)
     omega
    have hng : ∀ p : Pt,dot (0 - (t.x - s.x),0 - (t.y - s.y)) p = -dot (t.x - s.x,t.y - s.y) p:=fun p=>by unfold dot;grind
    rw [hng,hng] at z2
    rw [ec] at y1 y2
    have b1 : dot (t.x - s.x,t.y - s.y) P ≤ dot (t.x - s.x,t.y - s.y) t:=by
     simp only [List.mem_cons,List.not_mem_nil,or_false] at y1
     rcases y1 with rfl | rfl <;> omega
    have b2 : dot (t.x - s.x,t.y - s.y) s ≤ dot (t.x - s.x,t.y - s.y) P:=by
     simp only [List.mem_cons,List.not_mem_nil,or_false] at y2
     rcases y2 with rfl | rfl <;> omega
    have hsG : s ∈ G:=(q3 s).1 (R.crnC (by rw [ec];simp))
    have htG : t ∈ G:=(q3 t).1 (R.crnC (by rw [ec];simp))
    rcases seg (d:=d) R.st (by omega) b2 b1 with k | k
    ·exact ⟨s,hsG,k⟩
    ·exact ⟨t,htG,k⟩
  ·intro hd d _
   obtain ⟨g,hg,hle⟩:=hd d
   have hgC:=(q3 g).2 hg
   suffices ∃ q ∈ crn G,dot d g ≤ dot d q by
    obtain ⟨q,hq,h2⟩:=this
    exact ⟨q,hq,by omega⟩
   rcases sat R.lo R.hi R.st R.fs R.ls (P:=g) (fun A u v B e=>(hL A u v B e).2 g hgC) (fun A u v B e=>(hK A u v B e).2 g hgC) d with ⟨v,hv,hle⟩ | ⟨e1,e2⟩
   ·exact ⟨v,R.mem hv,hle⟩
   ·have ec:=R.two e1 e2
    have c1:=(hL [] s t [] e1).2 g hgC
    have c2:=(hK [] t s [] e2).2 g hgC
    have c3 : crs t s g = -crs s t g:=by unfold crs;grind
    have c0 : crs s t g = 0:=by omega
    have lst:=ltP_lx.1 (hL [] s t [] e1).1
    have l1 : LxN (g.x - s.x) (g.y - s.y):=by
     rcases R.fs g hgC with rfl | k
     ·unfold LxN;omega
     ·exact (ltP_lx.1 k).n
    have l2 : LxN (t.x - g.x) (t.y - g.y):=by
     rcases R.ls g hgC with rfl | k
     ·unfold LxN;omega
     ·exact (ltP_lx.1 k).n
    have hw : ∀ (a b : Int),LxN a b → (t.x - s.x) * b = (t.y - s.y) * a → 0 ≤ (t.x - s.x) * a + (t.y - s.y) * b:=fun a b hl he=>by
     rcases lst with k | ⟨k1,k2⟩
     ·apply pos_nn k
      have : (t.x - s.x) * ((t.x - s.x) * a + (t.y - s.y) * b) = a * ((t.x - s.x) * (t.x - s.x) + (t.y - s.y) * (t.y - s.y)):=by grind
      rw [this]
      have:=sq_nn (t.x - s.x)
      have:=sq_nn (t.y - s.y)
      exact Int.mul_nonneg (by unfold LxN at hl;omega) (by omega)
     ·rw [k1,Int.zero_mul] at he ⊢
      have ha : a = 0:=by
       rcases Int.mul_eq_zero.1 he.symm with q | q
       ·omega
       ·exact q
      have hb : 0 ≤ b:=by unfold LxN at hl;omega
      have:=Int.mul_nonneg (Int.le_of_lt k2) hb
      omega
    have w1:=hw _ _ l1 (by unfold crs at c0;omega)
    have w2:=hw _ _ l2 (by unfold crs at c0;grind)
    have v1 : dot (t.x - s.x,t.y - s.y) s ≤ dot (t.x - s.x,t.y - s.y) g:=by
     have : dot (t.x - s.x,t.y - s.y) g - dot (t.x - s.x,t.y - s.y) s = (t.x - s.x) * (g.x - s.x) + (t.y - s.y) * (g.y - s.y):=by unfold dot;grind
     omega
    have v2 : dot (t.x - s.x,t.y - s.y) g ≤ dot (t.x - s.x,t.y - s.y) t:=by
     have : dot (t.x - s.x,t.y - s.y) t - dot (t.x - s.x,t.y - s.y) g = (t.x - s.x) * (t.x - g.x) + (t.y - s.y) * (t.y - g.y):=by unfold dot;grind
     omega
    rw [ec]
    rcases seg (d:=d) R.st c0 v1 v2 with k | k
    ·exact ⟨s,by simp,k⟩
    ·exact ⟨t,by simp,k⟩
def l1 (d : Dr) : Int:=max d.1 (-d.1) + max d.2 (-d.2)
theorem l1_nn (d : Dr) : 0 ≤ l1 d:=by unfold l1;omega
def NrH (h : List Pt) (P : Pt) (t : Int) : Prop:=∀ d : Dr,∃ z ∈ h,dot d P ≤ dot d z + t * l1 d
theorem NrH.mono {h : List Pt} {P : Pt} {t t' : Int} (q : NrH h P t) (ht : t ≤ t') : NrH h P t':=fun d=>by
 obtain ⟨z,hz,hle⟩:=q d
 have:=Int.mul_le_mul_of_nonneg_right ht (l1_nn d)
 exact ⟨z,hz,by omega⟩
theorem gr4_le {d : Dr} {t : Int} (ht : 0 ≤ t) {z g : Pt} (hg : g ∈ gr4 t z) : dot d g ≤ dot d z + t * l1 d:=by
 have e : t * l1 d = t * max d.1 (-d.1) + t * max d.2 (-d.2):=by unfold l1;rw [Int.mul_add]
 have a1:=Int.mul_le_mul_of_nonneg_left (show d.1 ≤ max d.1 (-d.1) by omega) ht
 have a2:=Int.mul_le_mul_of_nonneg_left (show -d.1 ≤ max d.1 (-d.1) by omega) ht
 have a3:=Int.mul_le_mul_of_nonneg_left (show d.2 ≤ max d.2 (-d.2) by omega) ht
 have a4:=Int.mul_le_mul_of_nonneg_left (show -d.2 ≤ max d.2 (-d.2) by omega) ht
 rw [e]
 generalize t * max d.1 (-d.1) = M at *
 generalize t * max d.2 (-d.2) = N at *
 rw [Int.mul_neg] at a2 a4
 unfold gr4 at hg
 simp only [List.mem_cons,List.not_mem_nil,or_false] at hg
 unfold dot
 rcases hg with rfl | rfl | rfl | rfl
 ·have : d.1 * (z.x + (0 - t)) + d.2 * (z.y + (0 - t)) = d.1 * z.x + d.2 * z.y - t * d.1 - t * d.2:=by grind
  show d.1 * (z.x + (0 - t)) + d.2 * (z.y + (0 - t)) ≤ _
  omega
 ·have : d.1 * (z.x + (0 - t)) + d.2 * (z.y + t) = d.1 * z.x + d.2 * z.y - t * d.1 + t * d.2:=by grind
  show d.1 * (z.x + (0 - t)) + d.2 * (z.y + t) ≤ _
  omega
 ·have : d.1 * (z.x + t) + d.2 * (z.y + (0 - t)) = d.1 * z.x + d.2 * z.y + t * d.1 - t * d.2:=by grind
  show d.1 * (z.x + t) + d.2 * (z.y + (0 - t)) ≤ _
  omega
 ·have : d.1 * (z.x + t) + d.2 * (z.y + t) = d.1 * z.x + d.2 * z.y + t * d.1 + t * d.2:=by grind
  show d.1 * (z.x + t) + d.2 * (z.y + t) ≤ _
  omega
theorem gr4_hit (d : Dr) (t : Int) (z : Pt) : ∃ g ∈ gr4 t z,dot d g = dot d z + t * l1 d:=by
 have e : t * l1 d = t * max d.1 (-d.1) + t * max d.2 (-d.2):=by unfold l1;rw [Int.mul_add]
 rw [e]
 unfold dot gr4
 by_cases h1 : 0 ≤ d.1 <;> by_cases h2 : 0 ≤ d.2
 ·rw [show max d.1 (-d.1) = d.1 by omega,show max d.2 (-d.2) = d.2 by omega]
  exact ⟨_,by simp only [List.mem_cons];exact .inr (.inr (.inr (.inl rfl))),by dsimp only;grind⟩
 ·rw [show max d.1 (-d.1) = d.1 by omega,show max d.2 (-d.2) = -d.2 by omega]
  exact ⟨_,by simp only [List.mem_cons];exact .inr (.inr (.inl rfl)),by dsimp only;grind⟩
 ·rw [show max d.1 (-d.1) = -d.1 by omega,show max d.2 (-d.2) = d.2 by omega]
  exact ⟨_,by simp only [List.mem_cons];exact .inr (.inl rfl),by dsimp only;grind⟩
 ·rw [show max d.1 (-d.1) = -d.1 by omega,show max d.2 (-d.2) = -d.2 by omega]
  exact ⟨_,by simp only [List.mem_cons];exact .inl rfl,by dsimp only;grind⟩
theorem gpF_iff {h : List Pt} {P : Pt} {t : Int} (h0 : 0 < h.length) (ht : 0 ≤ t) : gpF h [P] t = false ↔ NrH h P t:=by
 unfold gpF
 rw [apB_iff (by rw [grL_len];omega)]
 constructor
 ·intro q d
  obtain ⟨g,hg,hle⟩:=q d
  unfold grL at hg
  rw [List.mem_flatMap] at hg
  obtain ⟨z,hz,hg⟩:=hg
  have:=gr4_le (d:=d) ht hg
  exact ⟨z,hz,by omega⟩
 ·intro q d
  obtain ⟨z,hz,hle⟩:=q d
  obtain ⟨g,hg,e⟩:=gr4_hit d t z
  exact ⟨g,by unfold grL;rw [List.mem_flatMap];exact ⟨z,hz,hg⟩,by omega⟩
theorem bis_spec (f : Int → Bool) : ∀ (n : Nat) (lo hi : Int),lo ≤ hi → hi - lo < 2 ^ n → (lo ≤ bis f n lo hi ∧ bis f n lo hi ≤ hi) ∧ (bis f n lo hi = lo ∨ f (bis f n lo hi - 1) = true) ∧ (bis f n lo hi = hi ∨ f (bis f n lo hi) = false)
 |0,lo,hi,h,hp=>by
  have hp : hi - lo < 1:=hp
  have e : bis f 0 lo hi = lo:=rfl
  rw [e]
  exact ⟨⟨Int.le_refl _,h⟩,.inl rfl,.inl (by omega)⟩
 |n + 1,lo,hi,h,hp=>by
  have e2 : (2 : Int) ^ (n + 1) = 2 * 2 ^ n:=by rw [Int.pow_succ];omega
  rw [e2] at hp
  by_cases hlt : lo < hi
  ·by_cases c : f ((lo + hi) / 2) = true
   ·have e : bis f (n + 1) lo hi = bis f n ((lo + hi) / 2 + 1) hi:=by rw [bis,if_pos hlt,if_pos c]
    obtain ⟨h1,h2,h3⟩:=bis_spec f n ((lo + hi) / 2 + 1) hi (by omega) (by omega)
    rw [e]
    generalize bis f n ((lo + hi) / 2 + 1) hi = r at *
    refine ⟨by omega,?_,h3⟩
    rcases h2 with q | q
    ·right;rw [q,Int.add_sub_cancel];exact c
    ·exact .inr q
   ·have e : bis f (n + 1) lo hi = bis f n lo ((lo + hi) / 2):=by rw [bis,if_pos hlt,if_neg c]
    obtain ⟨h1,h2,h3⟩:=bis_spec f n lo ((lo + hi) / 2) (by omega) (by omega)
    rw [e]
    generalize bis f n lo ((lo + hi) / 2) = r at *
    refine ⟨by omega,h2,?_⟩
    rcases h3 with q | q
    ·right;rw [q];simpa using c
    ·exact .inr q
  ·rw [bis_end f (n + 1) hlt]
   exact ⟨⟨Int.le_refl _,h⟩,.inl rfl,.inl (by omega)⟩
theorem gpV_rng (h b : List Pt) : 0 ≤ gpV h b ∧ gpV h b ≤ 33554432:=(bis_spec (gpF h b) 26 0 33554432 (by decide) (by decide)).1
theorem gp_le {h : List Pt} {P : Pt} {t : Int} (h0 : 0 < h.length) (ht : 0 ≤ t ∧ t < 33554432) : gpV h [P] ≤ t ↔ NrH h P t:=by
 obtain ⟨h1,h2,h3⟩:=bis_spec (gpF h [P]) 26 0 33554432 (by decide) (by decide)
 have e : gpV h [P] = bis (gpF h [P]) 26 0 33554432:=rfl
 rw [e]
 generalize bis (gpF h [P]) 26 0 33554432 = r at *
 constructor
 ·intro q
  rcases h3 with k | k
  ·omega
  ·exact ((gpF_iff h0 h1.1).1 k).mono q
 ·intro q
  apply Classical.byContradiction
  intro k
  rcases h2 with k2 | k2
  ·omega
  ·rw [(gpF_iff h0 (show 0 ≤ r - 1 by omega)).2 (q.mono (by omega))] at k2
   cases k2
def NrS (a b P : Pt) (t : Int) : Prop:=∀ d : Dr,dot d P ≤ max (dot d a) (dot d b) + t * l1 d
theorem nrS_iff {a b P : Pt} {t : Int} : NrH (crn [a,b]) P t ↔ NrS a b P t:=by
 have hm : ∀ z,z ∈ crn [a,b] ↔ z = a ∨ z = b:=fun z=>by
  rcases sg_cases a b with ⟨e,_⟩ | ⟨e,_⟩ | ⟨e1,e⟩
  ·rw [e];simp
  ·rw [e];simp;exact or_comm
  ·rw [e];subst e1;simp
 unfold NrH NrS
 constructor
 ·intro q d
  obtain ⟨z,hz,hle⟩:=q d
  rcases (hm z).1 hz with rfl | rfl <;> omega
 ·intro q d
  have:=q d
  by_cases c : dot d a ≤ dot d b
  ·exact ⟨b,(hm b).2 (.inr rfl),by omega⟩
  ·exact ⟨a,(hm a).2 (.inl rfl),by omega⟩
theorem gpP_le {g : List Pt} {P : Pt} {i : Nat} {t : Int} (ht : 0 ≤ t ∧ t < 33554432) : gpP g P i ≤ t ↔ NrS (g.getD i dQ) (g.getD (i + 1) dQ) P t:=by
 have e : gpP g P i = gpV (crn [g.getD i dQ,g.getD (i + 1) dQ]) [P]:=rfl
 rw [e,gp_le (crn_rng _ (by simp)).1.1 ht,nrS_iff]
theorem gpP_rng (g : List Pt) (P : Pt) (i : Nat) : 0 ≤ gpP g P i ∧ gpP g P i ≤ 33554432:=gpV_rng _ _
theorem off_spec (g : List Pt) (p : Pt) : ∀ n,0 < n → ∃ i,i < n ∧ offN g p n = (gpP g p i,(i : Int)) ∧ ∀ j,j < n → gpP g p i ≤ gpP g p j
 |0,h=>absurd h (by omega)
 |n + 1,_=>by
  have hs : offN g p (n + 1) = if (offN g p n).1 < 0 ∨ gpP g p n < (offN g p n).1 then (gpP g p n,(n : Int)) else offN g p n:=rfl
  by_cases h0 : n = 0
  ·subst h0
   refine ⟨0,by omega,?_,fun j hj=>by rw [show j = 0 by omega];exact Int.le_refl _⟩
   rw [hs,if_pos (.inl (by show (-1 : Int) < 0;decide))]
  ·obtain ⟨i,hi,e,hm⟩:=off_spec g p n (by omega)
   have h1:=gpP_rng g p i
   rw [hs,e]
   by_cases c : gpP g p n < gpP g p i
   ·rw [if_pos (.inr c)]
    refine ⟨n,by omega,rfl,fun j hj=>?_⟩
    by_cases q : j = n
    ·rw [q];exact Int.le_refl _
    ·have:=hm j (by omega);omega
   ·rw [if_neg (by dsimp only;omega)]
    refine ⟨i,by omega,rfl,fun j hj=>?_⟩
    by_cases q : j = n
    ·rw [q];omega
    ·exact hm j (by omega)
theorem NrS.mono {a b P : Pt} {t t' : Int} (q : NrS a b P t) (ht : t ≤ t') : NrS a b P t':=fun d=>by
 have:=q d
 have:=Int.mul_le_mul_of_nonneg_right ht (l1_nn d)
 omega
def trG (g : List Pt) (m : Int) (l : List (Int × Pt)) : Nat → Nat → Int → Int × Int
 |0,_,_=>(l.length,0)
 |k + 1,i,last=>
  if okQ (l.getD i (0,dQ)).2 = true ∧ inR (l.getD i (0,dQ)).1 0 1099511627776 = true then
   if 0 < i ∧ (l.getD i (0,dQ)).1 < (l.getD (i - 1) (0,dQ)).1 then (i,13)
   else if m < (offV g (l.getD i (0,dQ)).2).1 then (i,14)
   else if (offV g (l.getD i (0,dQ)).2).2 < last then (i,10)
   else trG g m l k (i + 1) (offV g (l.getD i (0,dQ)).2).2
  else (i,2)
end Go.Proofs.YtmekmmgiamjfoaaGreat.U
namespace Go.Proofs.YtmekmmgiamjfoaaGreat.U
open Go Sy
set_option maxRecDepth 100000
set_option maxHeartbeats 8000000
set_option linter.unusedVariables false
set_option linter.unusedSimpArgs false
theorem fn74 (x lo hi : Int) : Sy.Fn Tryz.prog 74 [iv x,iv lo,iv hi] (bv (inR x lo hi)):=by
 refine Fn_of_W mixed Xt74 rfl ?_
 (refine go0 ?_;try exact tTI)
 exact W_ret ⟨[_],⟨rfl,rfl⟩,rfl⟩
abbrev Fx:=Int × Pt
def dFx : Fx:=(0,dQ)
def cFx (f : Fx) : List AV:=[iv f.1,iv f.2.x,iv f.2.y]
theorem nFx0 (x : Fx) : nth (cFx x) 0 = iv x.1:=rfl
theorem nFx1 (x : Fx) : nth (cFx x) 1 = iv x.2.x:=rfl
theorem nFx2 (x : Fx) : nth (cFx x) 2 = iv x.2.y:=rfl
theorem lFx (x : Fx) : (cFx x).length = 3:=rfl
theorem frFx (x : Fx) : frzAll (cFx x) = true:=rfl
theorem tFx (x : Fx) : List.take 3 (List.drop 0 (cFx x)) = cFx x:=rfl
theorem tFx2 (x : Fx) : List.take 3 (cFx x) = cFx x:=rfl
theorem tFx3 (x : Fx) : List.take 2 (List.drop 1 (cFx x)) = cPt x.2:=rfl
theorem iFx {m : Nat → Option Blk} {n : Nat} (c : Fx) : List.flatMap (ids m n) (cFx c) = []:=flat_frz n _ (frFx c)
theorem vFx {m : Nat → Option Blk} {n : Nat} (c : Fx) : List.map (view m n) (cFx c) = cFx c:=viewL_frz n _ (frFx c)
attribute [push_cast] nFx0 nFx1 nFx2 lFx frFx tFx tFx2 tFx3 iFx vFx
abbrev aFx (l : List Fx) : AV:=.sl 3 dFx cFx l
def tkE (g : List Pt) (m : Int) (l : List Fx) : Int × Int:=if gdE g = 0 then (if inR m 0 16777216 = true then (if 256 < l.length then (0,6) else trG g m l l.length 0 0) else (0,3)) else (0,gdE g)
theorem fn36 (g : List Pt) (m : Int) (l : List Fx) (hg : g.length ≤ 140737488355328) (hl : l.length ≤ 140737488355328) : Sy.Fn Tryz.prog 36 [aQ g,iv m,aFx l] (.tup [iv (tkE g m l).1,iv (tkE g m l).2]):=by
 refine Fn_of_W mixed Xt36 rfl ?_
 have c73:=fn73 g hg
 have et : tkE g m l = if gdE g = 0 then (if inR m 0 16777216 = true then (if 256 < l.length then (0,6) else trG g m l l.length 0 0) else (0,3)) else (0,gdE g):=rfl
 rw [et]
 by_cases h0 : gdE g = 0
 rotate_left
 ·rw [if_neg h0]
  generalize gdE g = E at *
  (refine go_c c73 ?_;try exact tTI)
  refine W_cond (by rfl) (fun _=>?_) (fun h=>absurd (by simpa using h) h0)
  (refine go0 ?_;try exact tTI)
  exact W_ret ⟨[_,_],⟨rfl,rfl,rfl⟩,rfl⟩
 rw [if_pos h0]
 rw [h0] at c73
 obtain ⟨hgl,hok⟩:=gdE_ok.1 h0
 have c74:=fn74 m 0 16777216
 cases h1 : inR m 0 16777216
 ·rw [h1] at c74
  (refine go_c c73 ?_;try exact tTI)
  refine W_cond (by rfl) (fun h=>by cases h) (fun _=>?_)
  (refine go_c c74 ?_;try exact tTI)
  refine W_cond (by rfl) (fun _=>?_) (fun h=>by cases h)
  (refine go0 ?_;try exact tTI)
  exact W_ret ⟨[_,_],⟨rfl,rfl,rfl⟩,rfl⟩
 rw [h1] at c74
 rw [if_pos rfl]
 (refine go_c c73 ?_;try exact tTI)
 refine W_cond (by rfl) (fun h=>by cases h) (fun _=>?_)
 (refine go_c c74 ?_;try exact tTI)
 refine W_cond (by rfl) (fun h=>by cases h) (fun _=>?_)
 (refine go0 ?_;try exact tTI)
 refine W_condD (by rfl) (fun h2=>?_) (fun h2=>?_)
 ·rw [if_pos (by omega)]
  (refine go0 ?_;try exact tTI)
  exact W_ret ⟨[_,_],⟨rfl,rfl,rfl⟩,rfl⟩
 rw [if_neg (by omega)]
 have hl2 : l.length ≤ 256:=by omega
 (refine go0 ?_;try exact tTI)
 obtain ⟨T,hT0⟩ : ∃ T,T = trG g m l l.length 0 0:=⟨_,rfl⟩
 rw [← hT0]
 refine W_loopU (fun q : Nat × Int=>[(27,iv q.1),(9,iv q.2)]) (fun q=>[]) (fun q=>q.1 ≤ l.length ∧ T = trG g m l (l.length - q.1) q.1 q.2) (fun q=>l.length - q.1) (0,0) ⟨Nat.zero_le _,hT0⟩ (by rfl) (by rfl) (fun q hq=>?_)
 obtain ⟨i,last⟩:=q
 obtain ⟨hi,hT⟩:=hq
 have hi : i ≤ l.length:=hi
 have hT : T = trG g m l (l.length - i) i last:=hT
 (refine sy1 ?_;try exact tTI)
 (refine go0 ?_;try exact tTI)
 refine W_condD (by rfl) (fun h5=>?_) (fun h5=>?_)
 ·have hlt : i < l.length:=by omega
  have hst : trG g m l (l.length - i) i last = if okQ (l.getD i dFx).2 = true ∧ inR (l.getD i dFx).1 0 1099511627776 = true then
   if 0 < i ∧ (l.getD i dFx).1 < (l.getD (i - 1) dFx).1 then ((i : Int),13)
   else if m < (offV g (l.getD i dFx).2).1 then ((i : Int),14)
   else if (offV g (l.getD i dFx).2).2 < last then ((i : Int),10)
   else trG g m l (l.length - (i + 1)) (i + 1) (offV g (l.getD i dFx).2).2
   else ((i : Int),2):=by
   rw [show l.length - i = (l.length - (i + 1)) + 1 by omega];rfl
  rw [hst] at hT
  have e1 : ((i : Int) - 1).toNat = i - 1:=by omega
  generalize hpp : l.getD i dFx = f at *
  generalize hp2 : l.getD (i - 1) dFx = f2 at *
  have c75:=fn75 f.2
  have c40b:=fn74 f.1 0 1099511627776
  have hsh : cPt f.2 = [iv f.2.x,iv f.2.y]:=rfl
  have c76:=fun (h : okQ f.2 = true)=>fn76 g f.2 hok hgl h
  by_cases ho : okQ f.2 = true
  rotate_left
  ·rw [if_neg (fun h=>ho h.1)] at hT
   rw [if_neg ho] at c75
   subst hT
   repeat' (first | refine w1g ?_ | refine w1l ?_ | refine w1q ?_ | refine w1b ?_ | refine w1p ?_ | ((first | refine w1r ?_ | refine w1k ?_ | refine w1e ?_ | refine CallC.now (c75) ?_);(refine syf hpp ?_;try exact tTI)) | refine an2 ?_ | (refine CallC.go (bv false) (fun hpc=>absurd hpc (by simp [Sy.pc])) rfl ?_;(refine syf hpp ?_;try exact tTI)) | fail)
   refine W_cond (by rfl) (fun _=>?_) (fun h=>by cases h)
   (refine go0 ?_;try exact tTI)
   exact W_ret ⟨[_,_],⟨rfl,rfl,rfl⟩,rfl⟩
  have c76:=c76 ho
  rw [if_pos ho] at c75
  cases hr : inR f.1 0 1099511627776
  ·rw [if_neg (fun h=>by rw [hr] at h;cases h.2)] at hT
   rw [hr] at c40b
   subst hT
   (refine gofcg hpp c75 c40b ?_;try exact tTI)
   refine W_cond (by rfl) (fun _=>?_) (fun h=>by cases h)
   (refine go0 ?_;try exact tTI)
   exact W_ret ⟨[_,_],⟨rfl,rfl,rfl⟩,rfl⟩
  rw [if_pos ⟨ho,hr⟩] at hT
  rw [hr] at c40b
  generalize offV g f.2 = O at *
  (refine gofcg hpp c75 c40b ?_;try exact tTI)
  refine W_cond (by rfl) (fun h=>by cases h) (fun _=>?_)
  have rest : ∀ b : Bool,b = decide (0 < i ∧ f.1 < f2.1) → True:=fun _ _=>trivial
  by_cases hi0 : i = 0
  ·subst hi0
   rw [if_neg (by omega)] at hT
   have q0 : decide ((0 : Int) < ((0 : Nat) : Int)) = false:=by decide
   (refine gof q0 ?_;try exact tTI)
   refine ⟨(fun h=>absurd h (by simp)),?_⟩
   have q9 : (decide False && decide (f.1 < (l.getD ((0 : Int) - 1).toNat dFx).1)) = false:=by simp
   refine W_cond (by rfl) (fun h=>by rw [q9] at h;cases h) (fun _=>?_)
   (refine go_c c76 ?_;try exact tTI)
   refine W_condD (by rfl) (fun h7=>?_) (fun h7=>?_)
   ·rw [if_pos h7] at hT
    subst hT
    (refine go0 ?_;try exact tTI)
    exact W_ret ⟨[_,_],⟨rfl,rfl,rfl⟩,rfl⟩
   rw [if_neg h7] at hT
   (refine go0 ?_;try exact tTI)
   refine W_condD (by rfl) (fun h8=>?_) (fun h8=>?_)
   ·rw [if_pos h8] at hT
    subst hT
    (refine go0 ?_;try exact tTI)
    exact W_ret ⟨[_,_],⟨rfl,rfl,rfl⟩,rfl⟩
   rw [if_neg h8] at hT
   (refine go0 ?_;try exact tTI)
   refine ⟨((0 + 1),O.2),⟨by show (0 + 1) ≤ l.length;omega,hT⟩,by show l.length - (0 + 1) < _;omega,by rfl,?_⟩
   (refine syE ?_;try exact tTI)
  ·have q0 : decide ((0 : Int) < (i : Int)) = true:=decide_eq_true (by omega)
   (refine gof (ad3 q0 e1 hp2) ?_;try exact tTI)
   by_cases h6 : f.1 < f2.1
   ·rw [if_pos ⟨by omega,h6⟩] at hT
    subst hT
    refine W_condD (by rfl) (fun _=>?_) (fun h=>absurd h6 h)
    (refine go0 ?_;try exact tTI)
    exact W_ret ⟨[_,_],⟨rfl,rfl,rfl⟩,rfl⟩
   rw [if_neg (fun h=>h6 h.2)] at hT
   refine W_condD (by rfl) (fun h=>absurd h h6) (fun _=>?_)
   (refine go_c c76 ?_;try exact tTI)
   refine W_condD (by rfl) (fun h7=>?_) (fun h7=>?_)
   ·rw [if_pos h7] at hT
    subst hT
    (refine go0 ?_;try exact tTI)
    exact W_ret ⟨[_,_],⟨rfl,rfl,rfl⟩,rfl⟩
   rw [if_neg h7] at hT
   (refine go0 ?_;try exact tTI)
   refine W_condD (by rfl) (fun h8=>?_) (fun h8=>?_)
   ·rw [if_pos h8] at hT
    subst hT
    (refine go0 ?_;try exact tTI)
    exact W_ret ⟨[_,_],⟨rfl,rfl,rfl⟩,rfl⟩
   rw [if_neg h8] at hT
   (refine go0 ?_;try exact tTI)
   refine ⟨((i + 1),O.2),⟨by show (i + 1) ≤ l.length;omega,hT⟩,by show l.length - (i + 1) < _;omega,by rfl,?_⟩
   (refine syE ?_;try exact tTI)
 ·obtain rfl : i = l.length:=by omega
  rw [Nat.sub_self] at hT
  have hT : T = ((l.length : Int),0):=hT
  subst hT
  (refine go0 ?_;try exact tTI)
  exact W_ret ⟨[_,_],⟨rfl,rfl,rfl⟩,rfl⟩
theorem trG_all {g : List Pt} {m : Int} {l : List Fx} : ∀ (k i : Nat) (last : Int),i + k = l.length → (trG g m l k i last).2 = 0 →
  (trG g m l k i last).1 = l.length ∧ ∀ j,i ≤ j → j < l.length → okQ (l.getD j dFx).2 = true ∧ (0 < j → (l.getD (j - 1) dFx).1 ≤ (l.getD j dFx).1) ∧ (offV g (l.getD j dFx).2).1 ≤ m
 |0,i,last,h,_=>⟨rfl,fun j h1 h2=>by omega⟩
 |k + 1,i,last,h,he=>by
  have hst : trG g m l (k + 1) i last = if okQ (l.getD i dFx).2 = true ∧ inR (l.getD i dFx).1 0 1099511627776 = true then
   if 0 < i ∧ (l.getD i dFx).1 < (l.getD (i - 1) dFx).1 then ((i : Int),13)
   else if m < (offV g (l.getD i dFx).2).1 then ((i : Int),14)
   else if (offV g (l.getD i dFx).2).2 < last then ((i : Int),10)
   else trG g m l k (i + 1) (offV g (l.getD i dFx).2).2
   else ((i : Int),2):=rfl
  rw [hst] at he ⊢
  by_cases c1 : okQ (l.getD i dFx).2 = true ∧ inR (l.getD i dFx).1 0 1099511627776 = true
  ·rw [if_pos c1] at he ⊢
   by_cases c2 : 0 < i ∧ (l.getD i dFx).1 < (l.getD (i - 1) dFx).1
   ·rw [if_pos c2] at he;cases he
   rw [if_neg c2] at he ⊢
   by_cases c3 : m < (offV g (l.getD i dFx).2).1
   ·rw [if_pos c3] at he;cases he
   rw [if_neg c3] at he ⊢
   by_cases c4 : (offV g (l.getD i dFx).2).2 < last
   ·rw [if_pos c4] at he;cases he
   rw [if_neg c4] at he ⊢
   obtain ⟨h1,h2⟩:=trG_all k (i + 1) _ (by omega) he
   refine ⟨h1,fun j j1 j2=>?_⟩
   by_cases q : j = i
   ·subst q
    exact ⟨c1.1,fun _=>by omega,by omega⟩
   ·exact h2 j (by omega) j2
  ·rw [if_neg c1] at he;cases he
theorem trG_n {g : List Pt} {m : Int} {l : List Fx} : ∀ (k i : Nat) (last : Int),i + k = l.length → 0 ≤ (trG g m l k i last).1 ∧ (trG g m l k i last).1 ≤ l.length
 |0,i,last,h=>⟨by show (0 : Int) ≤ (l.length : Int);omega,Int.le_refl _⟩
 |k + 1,i,last,h=>by
  have ih:=trG_n (g:=g) (m:=m) (l:=l) k (i + 1) (offV g (l.getD i dFx).2).2 (by omega)
  unfold trG
  split
  ·split
   ·dsimp only;omega
   ·split
    ·dsimp only;omega
    ·split
     ·dsimp only;omega
     ·exact ih
  ·dsimp only;omega
def nearB (a b p : Pt) (m : Int) : Prop:=
 ¬ max a.x b.x < p.x - m ∧ ¬ p.x + m < min a.x b.x ∧ ¬ max a.y b.y < p.y - m ∧ ¬ p.y + m < min a.y b.y ∧
 (∃ q ∈ gr4 m p,0 ≤ crs a b q) ∧ ∃ q ∈ gr4 m p,crs a b q ≤ 0
theorem nrS_near {a b p : Pt} {m : Int} (hm : 0 ≤ m) (h : NrS a b p m) : nearB a b p m:=by
 have d1:=h (1,0)
 have d2:=h (-1,0)
 have d3:=h (0,1)
 have d4:=h (0,-1)
 have e1 : ∀ q : Pt,dot (1,0) q = q.x:=fun q=>by unfold dot;omega
 have e2 : ∀ q : Pt,dot (-1,0) q = -q.x:=fun q=>by unfold dot;omega
 have e3 : ∀ q : Pt,dot (0,1) q = q.y:=fun q=>by unfold dot;omega
 have e4 : ∀ q : Pt,dot (0,-1) q = -q.y:=fun q=>by unfold dot;omega
 have l1' : l1 (1,0) = 1:=by decide
 have l2' : l1 (-1,0) = 1:=by decide
 have l3' : l1 (0,1) = 1:=by decide
 have l4' : l1 (0,-1) = 1:=by decide
 rw [e1,e1,e1,l1'] at d1
 rw [e2,e2,e2,l2'] at d2
 rw [e3,e3,e3,l3'] at d3
 rw [e4,e4,e4,l4'] at d4
 refine ⟨by omega,by omega,by omega,by omega,?_,?_⟩
 ·have d5:=h (b.y - a.y,0 - (b.x - a.x))
  have ed : dot (b.y - a.y,0 - (b.x - a.x)) b = dot (b.y - a.y,0 - (b.x - a.x)) a:=by unfold dot;grind
  rw [ed] at d5
  obtain ⟨q,hq,e⟩:=gr4_hit (0 - (b.y - a.y),b.x - a.x) m p
  refine ⟨q,hq,?_⟩
  have en : ∀ z : Pt,dot (0 - (b.y - a.y),b.x - a.x) z = -dot (b.y - a.y,0 - (b.x - a.x)) z:=fun z=>by unfold dot;grind
  have el : l1 (0 - (b.y - a.y),b.x - a.x) = l1 (b.y - a.y,0 - (b.x - a.x)):=by unfold l1;dsimp only;omega
  rw [en,en,el] at e
  rw [crs_dot]
  omega
 ·have d5:=h (0 - (b.y - a.y),b.x - a.x)
  have ed : dot (0 - (b.y - a.y),b.x - a.x) b = dot (0 - (b.y - a.y),b.x - a.x) a:=by unfold dot;grind
  rw [ed] at d5
  obtain ⟨q,hq,e⟩:=gr4_hit (b.y - a.y,0 - (b.x - a.x)) m p
  refine ⟨q,hq,?_⟩
  have en : ∀ z : Pt,dot (0 - (b.y - a.y),b.x - a.x) z = -dot (b.y - a.y,0 - (b.x - a.x)) z:=fun z=>by unfold dot;grind
  have el : l1 (0 - (b.y - a.y),b.x - a.x) = l1 (b.y - a.y,0 - (b.x - a.x)):=by unfold l1;dsimp only;omega
  rw [en,en,el] at d5
  rw [crs_dot]
  omega
theorem tk_near {g : List Pt} {m : Int} {l : List Fx} (h : (tkE g m l).2 = 0) : (tkE g m l).1 = l.length ∧ 2 ≤ g.length ∧ ∀ j,j < l.length → (0 < j → (l.getD (j - 1) dFx).1 ≤ (l.getD j dFx).1) ∧ ∃ k,k + 1 < g.length ∧ nearB (g.getD k dQ) (g.getD (k + 1) dQ) (l.getD j dFx).2 m:=by
 unfold tkE at h ⊢
 by_cases c0 : gdE g = 0
 ·rw [if_pos c0] at h ⊢
  by_cases c1 : inR m 0 16777216 = true
  ·rw [if_pos c1] at h ⊢
   by_cases c2 : 256 < l.length
   ·rw [if_pos c2] at h;cases h
   ·rw [if_neg c2] at h ⊢
    obtain ⟨h1,h2⟩:=trG_all l.length 0 0 (by omega) h
    have hm:=inR_iff.1 c1
    have hg:=(gdE_ok.1 c0).1
    refine ⟨h1,by omega,fun j hj=>?_⟩
    obtain ⟨q1,q2,q3⟩:=h2 j (Nat.zero_le _) hj
    refine ⟨q2,?_⟩
    obtain ⟨i,hi,e,_⟩:=off_spec g (l.getD j dFx).2 (g.length - 1) (by omega)
    have e : offV g (l.getD j dFx).2 = (gpP g (l.getD j dFx).2 i,(i : Int)):=e
    rw [e] at q3
    exact ⟨i,by omega,nrS_near hm.1 ((gpP_le (by omega)).1 q3)⟩
  ·rw [if_neg c1] at h;cases h
 ·rw [if_neg c0] at h
  exact absurd h c0
theorem tk_n {g : List Pt} {m : Int} {l : List Fx} : 0 ≤ (tkE g m l).1 ∧ (tkE g m l).1 ≤ l.length:=by
 unfold tkE
 split
 ·split
  ·split
   ·dsimp only;omega
   ·exact trG_n l.length 0 0 (by omega)
  ·dsimp only;omega
 ·dsimp only;omega
end Go.Proofs.YtmekmmgiamjfoaaGreat.U
