/- Part 7 of the proof of: For every input the law TopOnGuide returns true: a point of a guide at a length is hardly off it, a track of such points is right, and one that is moved too far is refused. -/
import Derived.Test.YtgiedelaebdooaaGreatP6
namespace Go.Proofs.YtgiedelaebdooaaGreat.U
open Go Sy
set_option maxRecDepth 100000
set_option maxHeartbeats 4000000
set_option linter.unusedVariables false
set_option linter.unusedSimpArgs false
abbrev rQ (st : Nat) (l : List Pt) : Blk:=.row st 30 2 dQ cPt l
theorem w286 {M : List (Nat × Blk)} {k st nx : Nat} {gc : Nat} {ca : List AV} {lt : Pt → Pt → Bool} {cv : Pt → Pt → Int} (hw : SW lt) (hfz : frzAll ca = true) (hcv : ∀ x y,lt x y = decide (cv x y < 0))
  (hg : ∀ x y,Sy.Fn Tryz.prog gc (.agg (cPt x) :: .agg (cPt y) :: ca) (iv (cv x y))) (P U Q : List Pt) (hlen : P.length + U.length + Q.length ≤ 1000000) (hk : k < nx) (hfr : ∀ j,nx ≤ j → lm M j = none) :
  W Tryz.prog 53 Xn286_0 ⟨initT 0 [.row k st,iv P.length,iv (P.length + U.length),.clo gc [] ca],setm M k (rQ st (P ++ (U ++ Q))),nx⟩
   (fun e s'=>(e = .n ∨ e = .r) ∧ s'.mem = setm M k (rQ st (P ++ (isort lt U ++ Q)))):=by
 have hfr' : ∀ b : Blk,∀ j,nx ≤ j → lm (setm M k b) j = none:=fun b j hj=>by rw [lm_set_other _ _ (by omega)];exact hfr j hj
 simp (maxSteps:=400000) (disch:=omega) only [push_cast,↓reduceIte,reduceCtorEq,Nat.reduceAdd,Nat.reduceSub,Nat.reduceEqDiff,Nat.reduceLeDiff,Nat.reduceLT,Nat.reduceBEq,Nat.reduceDiv,Nat.reduceMod,Nat.reducePow,Nat.reduceMul,Int.reduceToNat,Int.reduceLT,Int.reduceLE,initT]
 (refine go0 ?_;try exact tTI)
 refine W_loopM (fun c : Nat=>[(8,iv ((P.length : Int) + 1 + c))]) (fun c=>setm M k (rQ st (P ++ (isort lt (U.take (c + 1)) ++ (U.drop (c + 1) ++ Q))))) (fun c=>c = 0 ∨ c + 1 ≤ U.length) (fun c=>U.length - c) nx (fun c _=>hfr' _) 0 (.inl rfl) (by rfl) (by
  have : isort lt (U.take 1) ++ U.drop 1 = U:=by
   cases U with
   |nil=>rfl
   |cons u U=>rfl
  rw [← List.append_assoc (isort lt _),this]) (fun c hc=>?_)
 simp (maxSteps:=400000) (disch:=omega) only [push_cast,↓reduceIte,reduceCtorEq,Nat.reduceAdd,Nat.reduceSub,Nat.reduceEqDiff,Nat.reduceLeDiff,Nat.reduceLT,Nat.reduceBEq,Nat.reduceDiv,Nat.reduceMod,Nat.reducePow,Nat.reduceMul,Int.reduceToNat,Int.reduceLT,Int.reduceLE,keepL]
 repeat' (first | refine w1g ?_ | refine w1l ?_ | refine w1q ?_ | refine w1b ?_ | refine w1p ?_ | ((first | refine w1r ?_ | refine w1k ?_ | refine w1e ?_);simp (maxSteps:=400000) (disch:=omega) only [push_cast,↓reduceIte,reduceCtorEq,Nat.reduceAdd,Nat.reduceSub,Nat.reduceEqDiff,Nat.reduceLeDiff,Nat.reduceLT,Nat.reduceBEq,Nat.reduceDiv,Nat.reduceMod,Nat.reducePow,Nat.reduceMul,Int.reduceToNat,Int.reduceLT,Int.reduceLE,keepL]) | refine an2 ?_ | fail)
 refine W_condD (by rfl) (fun h5=>?_) (fun h5=>?_)
 ·have hlt : c + 1 < U.length:=by omega
  have hA : SrtL lt (isort lt (U.take (c + 1))):=srt_isort hw _
  have hAl : (isort lt (U.take (c + 1))).length = c + 1:=by rw [isort_len,List.length_take];omega
  have hA2 : isort lt (U.take (c + 1 + 1)) = ins lt (U.getD (c + 1) dQ) (isort lt (U.take (c + 1))):=by
   rw [List.take_succ_eq_append_getElem hlt,isort_snoc]
   simp [List.getD,hlt]
  have hdr : U.drop (c + 1) = U.getD (c + 1) dQ :: U.drop (c + 1 + 1):=by rw [List.drop_eq_getElem_cons hlt];simp [List.getD,hlt]
  have hdl : (U.drop (c + 1 + 1)).length = U.length - (c + 1 + 1):=List.length_drop
  rw [hdr]
  generalize isort lt (U.take (c + 1)) = A at *
  generalize U.getD (c + 1) dQ = v at *
  generalize hR : U.drop (c + 1 + 1) ++ Q = R at *
  have hRl : R.length = U.length - (c + 1 + 1) + Q.length:=by rw [← hR,List.length_append,hdl]
  have hini : P ++ (A ++ (v :: (U.drop (c + 1 + 1)) ++ Q)) = insL P A v A.length R:=by
   unfold insL
   rw [List.take_length,List.drop_length,← hR];simp
  rw [hini]
  repeat' (first | refine w1g ?_ | refine w1l ?_ | refine w1q ?_ | refine w1b ?_ | refine w1p ?_ | ((first | refine w1r ?_ | refine w1k ?_ | refine w1e ?_);simp (maxSteps:=400000) (disch:=omega) only [push_cast,↓reduceIte,reduceCtorEq,Nat.reduceAdd,Nat.reduceSub,Nat.reduceEqDiff,Nat.reduceLeDiff,Nat.reduceLT,Nat.reduceBEq,Nat.reduceDiv,Nat.reduceMod,Nat.reducePow,Nat.reduceMul,Int.reduceToNat,Int.reduceLT,Int.reduceLE,keepL]) | refine an2 ?_ | fail)
  refine W_loopM (fun e : Nat=>[(9,iv ((P.length : Int) + e))]) (fun e=>setm M k (rQ st (insL P A v e R))) (fun e=>e ≤ A.length ∧ ∀ u ∈ A.drop e,lt v u = true) (fun e=>e) nx (fun c _=>hfr' _) A.length ⟨Nat.le_refl _,by rw [List.drop_length];intro u hu;cases hu⟩ (by
   have e1 : (P.length : Int) + 1 + c = P.length + A.length:=by omega
   rw [e1];rfl) (by rfl) (fun e he=>?_)
  obtain ⟨he1,he2⟩:=he
  have hll:=insL_len (P:=P) (Q:=R) (v:=v) he1
  have hat:=insL_at (P:=P) (Q:=R) (v:=v) dQ he1
  have ea : ((P.length : Int) + e).toNat = P.length + e:=by omega
  obtain ⟨y,hy⟩ : ∃ y,(insL P A v e R).getD ((P.length : Int) + e - 1).toNat dQ = y:=⟨_,rfl⟩
  have cg:=hg v y
  simp (maxSteps:=400000) (disch:=omega) only [push_cast,↓reduceIte,reduceCtorEq,Nat.reduceAdd,Nat.reduceSub,Nat.reduceEqDiff,Nat.reduceLeDiff,Nat.reduceLT,Nat.reduceBEq,Nat.reduceDiv,Nat.reduceMod,Nat.reducePow,Nat.reduceMul,Int.reduceToNat,Int.reduceLT,Int.reduceLE,keepL]
  repeat' (first | refine w1g ?_ | refine w1l ?_ | refine w1q ?_ | refine w1b ?_ | refine w1p ?_ | ((first | refine w1r ?_ | refine w1k ?_ | refine w1e ?_ | refine CallC.go _ (fun _=>⟨trivial,cg⟩) rfl ?_);simp (maxSteps:=400000) (disch:=omega) only [push_cast,↓reduceIte,reduceCtorEq,Nat.reduceAdd,Nat.reduceSub,Nat.reduceEqDiff,Nat.reduceLeDiff,Nat.reduceLT,Nat.reduceBEq,Nat.reduceDiv,Nat.reduceMod,Nat.reducePow,Nat.reduceMul,Int.reduceToNat,Int.reduceLT,Int.reduceLE,keepL,hll,ea,hat,hy,hfz,beq_self_eq_true]) | refine an2 ?_ | fail)
  refine W_cond (by rfl) (fun hb=>?_) (fun hb=>?_)
  ·simp only [Bool.and_eq_true,decide_eq_true_eq] at hb
   obtain ⟨e',rfl⟩ : ∃ e',e = e' + 1:=⟨e - 1,by omega⟩
   have hdn:=insL_dn (P:=P) (Q:=R) (v:=v) dQ (show e' < A.length by omega)
   obtain ⟨q1,q2⟩:=hdn
   have eb : ((P.length : Int) + ((e' + 1 : Nat) : Int) - 1).toNat = P.length + e':=by omega
   rw [eb,q1] at hy
   have hlty : lt v y = true:=by rw [hcv];exact decide_eq_true hb.2
   have hall : ∀ u ∈ A.drop e',lt v u = true:=by
    have he' : e' < A.length:=by omega
    have e1 : A.drop e' = A.getD e' dQ :: A.drop (e' + 1):=by rw [List.drop_eq_getElem_cons he'];simp [List.getD,he']
    rw [e1,hy]
    intro u hu
    rcases List.mem_cons.1 hu with rfl | hu
    ·exact hlty
    ·exact he2 u hu
   have eb' : ((P.length : Int) + ((e' : Int) + 1) - 1).toNat = P.length + e':=by omega
   have ea' : ((P.length : Int) + ((e' : Int) + 1)).toNat = P.length + (e' + 1):=by omega
   rw [hy] at q1 q2
   repeat' (first | refine w1g ?_ | refine w1l ?_ | refine w1q ?_ | refine w1b ?_ | refine w1p ?_ | ((first | refine w1r ?_ | refine w1k ?_ | refine w1e ?_);simp (maxSteps:=400000) (disch:=omega) only [push_cast,↓reduceIte,reduceCtorEq,Nat.reduceAdd,Nat.reduceSub,Nat.reduceEqDiff,Nat.reduceLeDiff,Nat.reduceLT,Nat.reduceBEq,Nat.reduceDiv,Nat.reduceMod,Nat.reducePow,Nat.reduceMul,Int.reduceToNat,Int.reduceLT,Int.reduceLE,keepL,hll,ea',eb',hat,q1,beq_self_eq_true]) | refine an2 ?_ | fail)
   refine ⟨rfl,⟨by dsimp only;omega,hasM_set _ _ _⟩,by omega,y,rfl,rfl,?_⟩
   simp (maxSteps:=400000) (disch:=omega) only [push_cast,↓reduceIte,reduceCtorEq,Nat.reduceAdd,Nat.reduceSub,Nat.reduceEqDiff,Nat.reduceLeDiff,Nat.reduceLT,Nat.reduceBEq,Nat.reduceDiv,Nat.reduceMod,Nat.reducePow,Nat.reduceMul,Int.reduceToNat,Int.reduceLT,Int.reduceLE,hll,ea',eb',List.length_set]
   repeat' (first | refine w1g ?_ | refine w1l ?_ | refine w1q ?_ | refine w1b ?_ | refine w1p ?_ | ((first | refine w1r ?_ | refine w1k ?_ | refine w1e ?_);simp (maxSteps:=400000) (disch:=omega) only [push_cast,↓reduceIte,reduceCtorEq,Nat.reduceAdd,Nat.reduceSub,Nat.reduceEqDiff,Nat.reduceLeDiff,Nat.reduceLT,Nat.reduceBEq,Nat.reduceDiv,Nat.reduceMod,Nat.reducePow,Nat.reduceMul,Int.reduceToNat,Int.reduceLT,Int.reduceLE,keepL,hll,ea',eb',List.length_set,beq_self_eq_true]) | refine an2 ?_ | fail)
   refine ⟨rfl,⟨by dsimp only;omega,hasM_set _ _ _⟩,by omega,v,rfl,rfl,?_⟩
   rw [q2]
   (refine sy1 ?_;try exact tTI)
   repeat' (first | refine w1g ?_ | refine w1l ?_ | refine w1q ?_ | refine w1b ?_ | refine w1p ?_ | ((first | refine w1r ?_ | refine w1k ?_ | refine w1e ?_);simp (maxSteps:=400000) (disch:=omega) only [push_cast,↓reduceIte,reduceCtorEq,Nat.reduceAdd,Nat.reduceSub,Nat.reduceEqDiff,Nat.reduceLeDiff,Nat.reduceLT,Nat.reduceBEq,Nat.reduceDiv,Nat.reduceMod,Nat.reducePow,Nat.reduceMul,Int.reduceToNat,Int.reduceLT,Int.reduceLE,keepL]) | refine an2 ?_ | fail)
   refine ⟨e',⟨by omega,hall⟩,by omega,?_,rfl⟩
   rw [show (P.length : Int) + ((e' : Int) + 1) - 1 = P.length + e' by omega]
  ·have hstop : e = 0 ∨ lt v (A.getD (e - 1) dQ) = false:=by
    by_cases e0 : e = 0
    ·exact .inl e0
    ·right
     obtain ⟨e',rfl⟩ : ∃ e',e = e' + 1:=⟨e - 1,by omega⟩
     have q1:=(insL_dn (P:=P) (Q:=R) (v:=v) dQ (show e' < A.length by omega)).1
     have eb : ((P.length : Int) + ((e' + 1 : Nat) : Int) - 1).toNat = P.length + e':=by omega
     rw [eb,q1] at hy
     rw [Nat.add_sub_cancel,hy,hcv]
     simp only [Bool.and_eq_false_iff,decide_eq_false_iff_not] at hb
     exact decide_eq_false (by omega)
   have hins:=ins_at hw hA dQ v he1 hstop he2
   have hfin : insL P A v e R = P ++ (ins lt v A ++ (U.drop (c + 1 + 1) ++ Q)):=by
    unfold insL
    rw [hins,hR];simp
   rw [hfin,← hA2]
   repeat' (first | refine w1g ?_ | refine w1l ?_ | refine w1q ?_ | refine w1b ?_ | refine w1p ?_ | ((first | refine w1r ?_ | refine w1k ?_ | refine w1e ?_);simp (maxSteps:=400000) (disch:=omega) only [push_cast,↓reduceIte,reduceCtorEq,Nat.reduceAdd,Nat.reduceSub,Nat.reduceEqDiff,Nat.reduceLeDiff,Nat.reduceLT,Nat.reduceBEq,Nat.reduceDiv,Nat.reduceMod,Nat.reducePow,Nat.reduceMul,Int.reduceToNat,Int.reduceLT,Int.reduceLE,keepL]) | refine an2 ?_ | fail)
   refine ⟨c + 1,.inr (by omega),by omega,?_,rfl⟩
   rw [show (P.length : Int) + 1 + ((c + 1 : Nat) : Int) = P.length + 1 + c + 1 by omega]
 ·have hcl : U.length ≤ c + 1:=by omega
  rw [List.take_of_length_le hcl,List.drop_of_length_le hcl,List.nil_append]
  repeat' (first | refine w1g ?_ | refine w1l ?_ | refine w1q ?_ | refine w1b ?_ | refine w1p ?_ | ((first | refine w1r ?_ | refine w1k ?_ | refine w1e ?_);simp (maxSteps:=400000) (disch:=omega) only [push_cast,↓reduceIte,reduceCtorEq,Nat.reduceAdd,Nat.reduceSub,Nat.reduceEqDiff,Nat.reduceLeDiff,Nat.reduceLT,Nat.reduceBEq,Nat.reduceDiv,Nat.reduceMod,Nat.reducePow,Nat.reduceMul,Int.reduceToNat,Int.reduceLT,Int.reduceLE,keepL]) | refine an2 ?_ | fail)
end Go.Proofs.YtgiedelaebdooaaGreat.U
namespace Go.Proofs.YtgiedelaebdooaaGreat.U
set_option linter.unusedVariables false
def ltP (a b : Pt) : Bool:=decide (cmpP a b < 0)
theorem cmpP_lt {a b : Pt} : cmpP a b < 0 ↔ a.x < b.x ∨ (a.x = b.x ∧ a.y < b.y):=by
 unfold cmpP cmp3
 split
 ·rename_i h
  split
  ·omega
  ·split <;> omega
 ·rename_i h
  split
  ·omega
  ·split <;> omega
theorem sw_ltP : SW ltP:={
 asym:=fun {a b} h=>by
  unfold ltP at h ⊢
  rw [decide_eq_true_eq,cmpP_lt] at h
  rw [decide_eq_false_iff_not,cmpP_lt]
  omega
 nt:=fun {a b c} h1 h2=>by
  unfold ltP at h1 h2 ⊢
  rw [decide_eq_false_iff_not,cmpP_lt] at h1 h2 ⊢
  omega }
def eqP (a b : Pt) : Bool:=a.x == b.x && a.y == b.y
theorem eqP_iff {a b : Pt} : eqP a b = true ↔ a = b:=by
 unfold eqP
 rw [Bool.and_eq_true,beq_iff_eq,beq_iff_eq]
 constructor
 ·intro h;cases a;cases b;simp_all
 ·rintro rfl;exact ⟨rfl,rfl⟩
def cpt (l : List Pt) : Nat → List Pt
 |0=>[]
 |1=>l.take 1
 |n + 2=>if eqP (l.getD (n + 1) dQ) (l.getD n dQ) = true then cpt l (n + 1) else cpt l (n + 1) ++ [l.getD (n + 1) dQ]
theorem cpt_succ (l : List Pt) {n : Nat} (h : 0 < n) : cpt l (n + 1) = if eqP (l.getD n dQ) (l.getD (n - 1) dQ) = true then cpt l n else cpt l n ++ [l.getD n dQ]:=by
 obtain ⟨m,rfl⟩ : ∃ m,n = m + 1:=⟨n - 1,by omega⟩
 rfl
theorem cpt_len (l : List Pt) : ∀ n,n ≤ l.length → (cpt l n).length ≤ n
 |0,_=>Nat.le_refl _
 |1,h=>by show (l.take 1).length ≤ 1;rw [List.length_take];omega
 |n + 2,h=>by
  have ih:=cpt_len l (n + 1) (by omega)
  unfold cpt
  split
  ·omega
  ·rw [List.length_append,List.length_singleton];omega
theorem cpt_take (l : List Pt) : ∀ n,n ≤ l.length → (∀ j,0 < j → j < n → eqP (l.getD j dQ) (l.getD (j - 1) dQ) = false) → cpt l n = l.take n
 |0,_,_=>rfl
 |1,_,_=>rfl
 |n + 2,hn,h=>by
  have ih:=cpt_take l (n + 1) (by omega) (fun j h1 h2=>h j h1 (by omega))
  rw [cpt_succ l (by omega),if_neg (by rw [h (n + 1) (by omega) (by omega)];decide),ih,List.take_succ_eq_append_getElem (show n + 1 < l.length by omega)]
  simp [List.getD,show n + 1 < l.length by omega]
def popR (x : Pt) : List Pt → List Pt
 |b :: a :: r=>if crs a b x ≤ 0 then popR x (a :: r) else b :: a :: r
 |l=>l
def stkR (l : List Pt) (n : Nat) : List Pt:=(l.take n).foldl (fun r x=>x :: popR x r) []
def stk (l : List Pt) : List Pt:=(stkR l l.length).reverse
theorem stkR_succ (l : List Pt) {n : Nat} (h : n < l.length) : stkR l (n + 1) = l.getD n dQ :: popR (l.getD n dQ) (stkR l n):=by
 unfold stkR
 rw [List.take_succ_eq_append_getElem h,List.foldl_append]
 simp [List.getD,h]
theorem popR_le (x : Pt) : ∀ l,(popR x l).length ≤ l.length
 |[]=>Nat.le_refl _
 |[b]=>Nat.le_refl _
 |b :: a :: r=>by
  unfold popR
  split
  ·have:=popR_le x (a :: r)
   simp only [List.length_cons] at this ⊢;omega
  ·exact Nat.le_refl _
theorem popR_mem (x : Pt) {y : Pt} : ∀ l,y ∈ popR x l → y ∈ l
 |[],h=>h
 |[b],h=>h
 |b :: a :: r,h=>by
  unfold popR at h
  split at h
  ·exact List.mem_cons_of_mem _ (popR_mem x (a :: r) h)
  ·exact h
theorem popR_ne (x : Pt) : ∀ l,l ≠ [] → popR x l ≠ []
 |[],h=>absurd rfl h
 |[b],_=>by simp [popR]
 |b :: a :: r,_=>by
  unfold popR
  split
  ·exact popR_ne x (a :: r) (by simp)
  ·simp
theorem stkR_len (l : List Pt) : ∀ n,n ≤ l.length → (stkR l n).length ≤ n ∧ (0 < n → 0 < (stkR l n).length)
 |0,_=>⟨by simp [stkR],fun h=>by omega⟩
 |n + 1,h=>by
  have ih:=(stkR_len l n (by omega)).1
  rw [stkR_succ l (by omega),List.length_cons]
  have:=popR_le (l.getD n dQ) (stkR l n)
  omega
theorem stkR_mem (l : List Pt) {y : Pt} : ∀ n,n ≤ l.length → y ∈ stkR l n → y ∈ l
 |0,_,h=>by simp [stkR] at h
 |n + 1,hn,h=>by
  rw [stkR_succ l (by omega)] at h
  rcases List.mem_cons.1 h with rfl | h
  ·have : n < l.length:=by omega
   simp only [List.getD,List.getElem?_eq_getElem this,Option.getD_some];exact List.getElem_mem this
  ·exact stkR_mem l n (by omega) (popR_mem _ _ h)
def rvP (l : List Pt) (i : Nat) : List Pt:=(List.range l.length).map fun p=>if p < i ∨ l.length - i ≤ p then l.getD (l.length - 1 - p) dQ else l.getD p dQ
theorem rvP_len (l : List Pt) (i : Nat) : (rvP l i).length = l.length:=by simp [rvP]
theorem rvP_at (l : List Pt) (i p : Nat) (h : p < l.length) : (rvP l i).getD p dQ = if p < i ∨ l.length - i ≤ p then l.getD (l.length - 1 - p) dQ else l.getD p dQ:=by
 simp [rvP,List.getD,h]
theorem rvP_zero (l : List Pt) : rvP l 0 = l:=by
 apply List.ext_getElem (rvP_len l 0)
 intro p h1 h2
 have:=rvP_at l 0 p h2
 rw [if_neg (by omega)] at this
 simpa [List.getD,h1,h2] using this
theorem ext_getD {l m : List Pt} (h : l.length = m.length) (h2 : ∀ p,p < l.length → l.getD p dQ = m.getD p dQ) : l = m:=by
 apply List.ext_getElem h
 intro p h3 h4
 have:=h2 p h3
 simpa [List.getD,h3,h4] using this
theorem rvP_step (l : List Pt) {i : Nat} (h : i < l.length - 1 - i) : ((rvP l i).set i (l.getD (l.length - 1 - i) dQ)).set (l.length - 1 - i) (l.getD i dQ) = rvP l (i + 1):=by
 apply ext_getD (by rw [List.length_set,List.length_set,rvP_len,rvP_len])
 intro p hp
 rw [List.length_set,List.length_set,rvP_len] at hp
 rw [rvP_at l (i + 1) p hp]
 by_cases e1 : p = l.length - 1 - i
 ·subst e1
  have h3 : l.length - 1 - i < ((rvP l i).set i (l.getD (l.length - 1 - i) dQ)).length:=by rw [List.length_set,rvP_len];omega
  rw [if_pos (by omega)]
  have e9 : l.length - 1 - (l.length - 1 - i) = i:=by omega
  rw [e9]
  generalize (rvP l i).set i (l.getD (l.length - 1 - i) dQ) = X at *
  simp only [List.getD]
  rw [List.getElem?_set_self h3];rfl
 ·by_cases e2 : p = i
  ·subst e2
   have h3 : p < (rvP l p).length:=by rw [rvP_len];omega
   rw [if_pos (by omega)]
   simp only [List.getD]
   rw [List.getElem?_set_ne (by omega),List.getElem?_set_self h3];rfl
  ·have h4:=rvP_at l i p hp
   simp only [List.getD] at h4 ⊢
   rw [List.getElem?_set_ne (by omega),List.getElem?_set_ne (by omega),h4]
   by_cases q : p < i ∨ l.length - i ≤ p
   ·rw [if_pos q,if_pos (by omega)]
   ·rw [if_neg q,if_neg (by omega)]
theorem rvP_end (l : List Pt) {i : Nat} (h : l.length ≤ 2 * i + 1) : rvP l i = l.reverse:=by
 apply ext_getD (by rw [rvP_len,List.length_reverse])
 intro p hp
 rw [rvP_len] at hp
 rw [rvP_at l i p hp]
 have e : l.reverse.getD p dQ = l.getD (l.length - 1 - p) dQ:=by
  simp only [List.getD];rw [List.getElem?_reverse hp]
 rw [e]
 by_cases q : p < i ∨ l.length - i ≤ p
 ·rw [if_pos q]
 ·rw [if_neg q];congr 1;omega
def crn (l : List Pt) : List Pt:=
 if (cpt (isort ltP l) l.length).length < 2 then cpt (isort ltP l) l.length
 else (stk (cpt (isort ltP l) l.length)).dropLast ++ (stk (cpt (isort ltP l) l.length).reverse).dropLast
theorem cpt_mem (l : List Pt) {y : Pt} : ∀ n,n ≤ l.length → y ∈ cpt l n → y ∈ l
 |0,_,h=>by cases h
 |1,_,h=>List.mem_of_mem_take h
 |n + 2,hn,h=>by
  rw [cpt_succ l (by omega)] at h
  split at h
  ·exact cpt_mem l (n + 1) (by omega) h
  ·rcases List.mem_append.1 h with h | h
   ·exact cpt_mem l (n + 1) (by omega) h
   ·rw [List.mem_singleton] at h
    have : n + 1 < l.length:=by omega
    rw [h];simp only [List.getD,List.getElem?_eq_getElem this,Option.getD_some];exact List.getElem_mem this
def mkS (s : List Pt) (n : Nat) : List Pt:=cpt s n ++ s.drop (cpt s n).length
theorem mkS_len (s : List Pt) {n : Nat} (h : n ≤ s.length) : (mkS s n).length = s.length:=by
 have:=cpt_len s n h
 unfold mkS
 rw [List.length_append,List.length_drop];omega
theorem mkS_get (s : List Pt) {n p : Nat} (hp : (cpt s n).length ≤ p) : (mkS s n).getD p dQ = s.getD p dQ:=by
 unfold mkS
 simp only [List.getD]
 rw [List.getElem?_append_right hp,List.getElem?_drop]
 congr 2;omega
theorem mkS_eq (s : List Pt) {n : Nat} (h0 : 0 < n) (h : eqP (s.getD n dQ) (s.getD (n - 1) dQ) = true) : mkS s (n + 1) = mkS s n ∧ (cpt s (n + 1)).length = (cpt s n).length:=by
 have : cpt s (n + 1) = cpt s n:=by rw [cpt_succ s h0,if_pos h]
 unfold mkS
 rw [this];exact ⟨rfl,rfl⟩
theorem mkS_ne (s : List Pt) {n : Nat} (h0 : 0 < n) (hn : n < s.length) (h : ¬ eqP (s.getD n dQ) (s.getD (n - 1) dQ) = true) : (mkS s n).set (cpt s n).length (s.getD n dQ) = mkS s (n + 1) ∧ (cpt s (n + 1)).length = (cpt s n).length + 1:=by
 have e : cpt s (n + 1) = cpt s n ++ [s.getD n dQ]:=by rw [cpt_succ s h0,if_neg h]
 have hl:=cpt_len s n (by omega)
 unfold mkS
 rw [e]
 refine ⟨?_,by rw [List.length_append,List.length_singleton]⟩
 rw [List.length_append,List.length_singleton]
 have hd : s.drop (cpt s n).length = s.getD (cpt s n).length dQ :: s.drop ((cpt s n).length + 1):=by
  rw [List.drop_eq_getElem_cons (show (cpt s n).length < s.length by omega)]
  simp [List.getD,show (cpt s n).length < s.length by omega]
 rw [hd,List.append_assoc,set_cons rfl]
 rfl
theorem cpt_dup (s : List Pt) {k : Nat} (h0 : 0 < k) (hk : k < s.length) (hd : eqP (s.getD k dQ) (s.getD (k - 1) dQ) = true) : ∀ d,k + 1 + d ≤ s.length → (cpt s (k + 1 + d)).length + 1 ≤ k + 1 + d
 |0,_=>by
  have:=cpt_len s k (by omega)
  rw [Nat.add_zero,(mkS_eq s h0 hd).2];omega
 |d + 1,h=>by
  have ih:=cpt_dup s h0 hk hd d (by omega)
  rw [show k + 1 + (d + 1) = (k + 1 + d) + 1 by omega]
  by_cases q : eqP (s.getD (k + 1 + d) dQ) (s.getD (k + 1 + d - 1) dQ) = true
  ·rw [(mkS_eq s (by omega) q).2];omega
  ·rw [(mkS_ne s (by omega) (by omega) q).2];omega
theorem cpt_ne (s : List Pt) : ∀ n,0 < n → n ≤ s.length → 0 < (cpt s n).length
 |0,h,_=>by omega
 |1,_,h=>by show 0 < (s.take 1).length;rw [List.length_take];omega
 |n + 2,_,h=>by
  have ih:=cpt_ne s (n + 1) (by omega) (by omega)
  unfold cpt
  split
  ·exact ih
  ·rw [List.length_append];omega
end Go.Proofs.YtgiedelaebdooaaGreat.U
namespace Go.Proofs.YtgiedelaebdooaaGreat.U
open Go Sy
set_option maxRecDepth 100000
set_option maxHeartbeats 8000000
set_option linter.unusedVariables false
set_option linter.unusedSimpArgs false
def bd (p : Pt) : Prop:=(-67108864 ≤ p.x ∧ p.x ≤ 67108864) ∧ -67108864 ≤ p.y ∧ p.y ≤ 67108864
theorem fn217 (a b c : Pt) (h1 : bd a) (h2 : bd b) (h3 : bd c) : Sy.Fn Tryz.prog 217 [.agg (cPt a),.agg (cPt b),.agg (cPt c)] (iv (crs a b c)):=by
 refine Fn_of_W mixed Xt217 rfl ?_
 unfold bd at h1 h2 h3
 have m1:=abs_mul (show -134217728 ≤ b.x - a.x ∧ b.x - a.x ≤ 134217728 by omega) (show -134217728 ≤ c.y - a.y ∧ c.y - a.y ≤ 134217728 by omega)
 have m2:=abs_mul (show -134217728 ≤ b.y - a.y ∧ b.y - a.y ≤ 134217728 by omega) (show -134217728 ≤ c.x - a.x ∧ c.x - a.x ≤ 134217728 by omega)
 unfold crs
 (refine go0 ?_;try exact tTI)
 exact W_ret ⟨[_],⟨rfl,rfl⟩,rfl⟩
theorem fn216 (a b c : Pt) (ha : bd a) (hb : bd b) (hc : bd c) : Sy.Fn Tryz.prog 216 [.agg (cPt a),.agg (cPt b),.agg (cPt c)] (bv (decide (crs a b c ≤ 0))):=by
 refine Fn_of_W mixed Xt216 rfl ?_
 (refine go_c (fn217 a b c ha hb hc) ?_;try exact tTI)
 exact W_ret ⟨[_],⟨rfl,rfl⟩,rfl⟩
theorem rev2 (a b : Pt) (r : List Pt) : (b :: a :: r).reverse.length = r.length + 2 ∧ (b :: a :: r).reverse.getD r.length dQ = a ∧ (b :: a :: r).reverse.getD (r.length + 1) dQ = b ∧ (b :: a :: r).reverse.take (r.length + 1) = (a :: r).reverse:=by
 have h : (b :: a :: r).reverse = (a :: r).reverse ++ [b]:=List.reverse_cons
 have h2 : (a :: r).reverse = r.reverse ++ [a]:=List.reverse_cons
 refine ⟨by simp,?_,?_,?_⟩
 ·rw [h,h2,List.append_assoc]
  simp [List.getD]
 ·rw [h]
  simp [List.getD]
 ·rw [h]
  have : r.length + 1 = (a :: r).reverse.length:=by simp
  rw [this,List.take_left']
  rfl
theorem fn218 (s : List Pt) (hq : ∀ x ∈ s,bd x) (hl : s.length ≤ 1000000) : FnO Tryz.prog 218 [.clo 249 [] [.fp [aQ s] 0],.clo 216 [] []] 30 2 dQ cPt (stk s):=by
 refine FnO_of_W mixed Xt218 rfl (fun x _=>rfl) ?_
 (refine go0 ?_;try exact tTI)
 refine W_rfn (.inl rfl) (fun lp R hR=>Inl_of_W mixed Xt249 rfl (fun vs=>?_))
 (refine sy1 ?_;try exact tTI)
 (refine go0 ?_;try exact tTI)
 refine W_le (le_adoptC 2 0 30 2 dQ cPt (by omega) _ rfl rfl (by simp)) ?_
 (refine sy1 ?_;try exact tTI)
 refine W_loopU (fun q : Nat × Nat=>[(7,iv q.1)]) (fun q=>[(2,.cells [.row 9 q.2]),(9,.row q.2 30 2 dQ cPt (stkR s q.1).reverse)]) (fun q=>q.1 ≤ s.length) (fun q=>s.length - q.1) (0,0) (Nat.zero_le _) (by rfl) (by rfl) (fun q hi=>?_)
 obtain ⟨i,st⟩:=q
 have hi : i ≤ s.length:=hi
 (refine sy1 ?_;try exact tTI)
 (refine go0 ?_;try exact tTI)
 refine W_condD (by rfl) (fun h5=>?_) (fun h5=>?_)
 ·have hlt : i < s.length:=by omega
  have hsucc:=stkR_succ s hlt
  obtain ⟨hrl,_⟩:=stkR_len s i hi
  have hrm:=fun y=>stkR_mem s (y:=y) i hi
  have hx:=hq (s.getD i dQ) (by simp only [List.getD,List.getElem?_eq_getElem hlt,Option.getD_some];exact List.getElem_mem hlt)
  generalize hxx : s.getD i dQ = x at *
  generalize stkR s i = r0 at *
  (refine gof hxx ?_;try exact tTI)
  refine StopC.yld (fun hpc=>⟨trivial,Yl_of_W (k:=4) mixed hR rfl rfl rfl (fun vs2=>?_)⟩) (fun hpc=>absurd (by simp [Sy.pc]) hpc)
  (refine sy1 ?_;try exact tTI)
  (refine go0 ?_;try exact tTI)
  refine ⟨_,rfl,?_⟩
  (refine sy1 ?_;try exact tTI)
  (refine go0 ?_;try exact tTI)
  refine W_loopU (fun q : List Pt × Nat=>[]) (fun q=>[(2,.cells [.row 9 q.2]),(9,.row q.2 30 2 dQ cPt q.1.reverse)]) (fun q=>popR x q.1 = popR x r0 ∧ (∀ y ∈ q.1,y ∈ s) ∧ q.1.length ≤ i) (fun q=>q.1.length) (r0,st) ⟨rfl,hrm,hrl⟩ (by rfl) (by rfl) (fun q hqq=>?_)
  obtain ⟨r,st2⟩:=q
  obtain ⟨hp,hm,hrl2⟩:=hqq
  have hp : popR x r = popR x r0:=hp
  have hm : ∀ y ∈ r,y ∈ s:=hm
  have hrl2 : r.length ≤ i:=hrl2
  (refine sy1 ?_;try exact tTI)
  rcases r with _ | ⟨b,_ | ⟨a,r⟩⟩
  ·have e : stkR s (i + 1) = [x]:=by rw [hsucc,← hp];rfl
   rw [show ([] : List Pt).reverse = [] from rfl]
   repeat' (first | refine w1g ?_ | refine w1l ?_ | refine w1q ?_ | refine w1b ?_ | refine w1p ?_ | ((first | refine w1r ?_ | refine w1k ?_ | refine w1e ?_);(refine sy1 ?_;try exact tTI)) | refine an2 ?_ | ((refine CallC.go (bv false) (fun hpc=>absurd hpc (by simp [Sy.pc])) rfl ?_;(refine sy1 ?_;try exact tTI))) | fail)
   refine ⟨fun h=>absurd h (by decide),fun h=>absurd h (by decide),fun h=>absurd h (by decide),fun h=>absurd h (by decide),?_⟩
   refine CallC.go (bv false) (fun hpc=>absurd hpc (by simp [Sy.pc])) rfl ?_
   (refine sy1 ?_;try exact tTI)
   refine W_cond (by rfl) (fun h=>absurd h (by decide)) (fun _=>?_)
   (refine go0 ?_;try exact tTI)
   refine ⟨rfl,trivial,Pt,dQ,cPt,[x],rfl,by omega,fun x _=>⟨rfl,rfl⟩,rfl,?_⟩
   (refine sy1 ?_;try exact tTI)
   refine ⟨rfl,⟨Nat.le_of_ble_eq_true rfl,rfl⟩,trivial,[x],rfl,by first | omega | (simp;done) | (simp;omega),by first | omega | (simp;done) | (simp;omega),?_⟩
   (refine sy1 ?_;try exact tTI)
   refine ⟨_,_,rfl,rfl,?_⟩
   (refine sy1 ?_;try exact tTI)
   refine W_cond (by rfl) (fun h=>by cases h) (fun _=>?_)
   (refine go0 ?_;try exact tTI)
   refine ⟨(i + 1,st2 + 1),by show i + 1 ≤ _;omega,by show s.length - (i + 1) < _;omega,by rfl,?_⟩
   dsimp only
   rw [e]
   (refine syE ?_;try exact tTI)
   try rfl
  ·have e : stkR s (i + 1) = [x,b]:=by rw [hsucc,← hp];rfl
   rw [show ([b] : List Pt).reverse = [b] from rfl]
   repeat' (first | refine w1g ?_ | refine w1l ?_ | refine w1q ?_ | refine w1b ?_ | refine w1p ?_ | ((first | refine w1r ?_ | refine w1k ?_ | refine w1e ?_);(refine sy1 ?_;try exact tTI)) | refine an2 ?_ | ((refine CallC.go (bv false) (fun hpc=>absurd hpc (by simp [Sy.pc])) rfl ?_;(refine sy1 ?_;try exact tTI))) | fail)
   refine W_cond (by rfl) (fun h=>absurd h (by decide)) (fun _=>?_)
   (refine go0 ?_;try exact tTI)
   refine ⟨rfl,trivial,Pt,dQ,cPt,[x],rfl,by omega,fun x _=>⟨rfl,rfl⟩,rfl,?_⟩
   (refine sy1 ?_;try exact tTI)
   refine ⟨rfl,⟨Nat.le_of_ble_eq_true rfl,rfl⟩,trivial,[x],rfl,by first | omega | (simp;done) | (simp;omega),by first | omega | (simp;done) | (simp;omega),?_⟩
   (refine sy1 ?_;try exact tTI)
   refine ⟨_,_,rfl,rfl,?_⟩
   (refine sy1 ?_;try exact tTI)
   refine W_cond (by rfl) (fun h=>by cases h) (fun _=>?_)
   (refine go0 ?_;try exact tTI)
   refine ⟨(i + 1,st2 + 1),by show i + 1 ≤ _;omega,by show s.length - (i + 1) < _;omega,by rfl,?_⟩
   dsimp only
   rw [e]
   (refine syE ?_;try exact tTI)
   try rfl
  ·obtain ⟨hL,g1,g2,g3⟩:=rev2 a b r
   have d1:=fn216 a b x (hq _ (hm a (by simp))) (hq _ (hm b (by simp))) hx
   have hpop : popR x (b :: a :: r) = if crs a b x ≤ 0 then popR x (a :: r) else b :: a :: r:=rfl
   have hrl3 : r.length + 2 ≤ i:=hrl2
   generalize hLL : (b :: a :: r).reverse = L at *
   generalize hm1 : r.length = m at *
   have e1 : ((m : Int) + 1 + 1 - 2).toNat = m:=by omega
   have e2 : ((m : Int) + 1 + 1 - 1).toNat = m + 1:=by omega
   have e3 : decide (2 ≤ (m : Int) + 1 + 1) = true:=decide_eq_true (by omega)
   (refine gofg (ad6 hL g1 g2 e1 e2 e3) d1 ?_;try exact tTI)
   by_cases hc : crs a b x ≤ 0
   ·rw [if_pos hc] at hpop
    refine W_cond (by rfl) (fun _=>?_) (fun h=>by rw [decide_eq_true hc] at h;cases h)
    (refine gof (ad3 hL e2 g3) ?_;try exact tTI)
    refine ⟨(a :: r,st2 + 1),⟨by rw [← hpop];exact hp,fun y hy=>hm y (List.mem_cons_of_mem _ hy),by show (a :: r).length ≤ i;rw [List.length_cons];omega⟩,by show (a :: r).length < (b :: a :: r).length;simp,by rfl,?_⟩
    (refine syE ?_;try exact tTI)
    try rfl
   ·have e : stkR s (i + 1) = x :: b :: a :: r:=by rw [hsucc,← hp,hpop,if_neg hc]
    refine W_cond (by rfl) (fun h=>by rw [decide_eq_false hc] at h;cases h) (fun _=>?_)
    (refine go0 ?_;try exact tTI)
    refine ⟨rfl,trivial,Pt,dQ,cPt,[x],rfl,by omega,fun x _=>⟨rfl,rfl⟩,rfl,?_⟩
    (refine sy1 ?_;try exact tTI)
    refine ⟨rfl,⟨Nat.le_of_ble_eq_true rfl,rfl⟩,trivial,[x],rfl,by first | omega | (simp;done) | (simp;omega),by first | omega | (simp;done) | (simp;omega),?_⟩
    (refine sy1 ?_;try exact tTI)
    refine ⟨_,_,rfl,rfl,?_⟩
    (refine sy1 ?_;try exact tTI)
    refine W_cond (by rfl) (fun h=>by cases h) (fun _=>?_)
    (refine go0 ?_;try exact tTI)
    refine ⟨(i + 1,st2 + 1),by show i + 1 ≤ _;omega,by show s.length - (i + 1) < _;omega,by rfl,?_⟩
    dsimp only
    rw [e,List.reverse_cons,hLL]
    (refine syE ?_;try exact tTI)
    try rfl
 ·have e : i = s.length:=by omega
  subst e
  rw [show (stkR s s.length).reverse = stk s from rfl]
  (refine go0 ?_;try exact tTI)
  refine ⟨_,_,rfl,rfl,⟨_,_,rfl,by rw [hR.st];simp,?_⟩⟩
  rw [hR.pe]
  (refine syN ?_;try exact tTI)
  (refine go0 ?_;try exact tTI)
  exact W_ret ⟨_,_,⟨rfl,rfl⟩,rfl⟩
theorem i286 {s : S} {k st : Nat} {l : List Pt} {n : Int} {K : AV → S → Prop} (hk : lm s.mem k = some (rQ st l)) (hfr : ∀ j,s.nx ≤ j → lm s.mem j = none) (hlen : l.length ≤ 1000000) (hn : n = l.length) (hK : K (.tup []) ⟨s.tm,setm s.mem k (rQ st (isort ltP l)),s.nx⟩) :
  Inl Tryz.prog 286 [.row k st,iv 0,iv n,.clo 214 [] []] s K:=by
 subst hn
 refine Inl_row mixed Xt286 rfl hk hfr (fun M nx h1 h2=>?_) hK
 have h:=w286 (M:=M) (k:=k) (st:=st) (nx:=nx) (gc:=214) (ca:=[]) (lt:=ltP) (cv:=cmpP) sw_ltP rfl (fun _ _=>rfl) fn214 [] l [] (by simp;exact hlen) h1 h2
 simp only [List.append_nil,List.nil_append,List.length_nil,show ((0 : Nat) : Int) = 0 from rfl,Int.zero_add] at h
 exact h
theorem w220 {M : List (Nat × Blk)} {k st nx : Nat} (l : List Pt) (hlen : l.length ≤ 1000000) (hk : k < nx) (hfr : ∀ j,nx ≤ j → lm M j = none) :
  W Tryz.prog 28 Xn220_0 ⟨initT 0 [.row k st],setm M k (rQ st l),nx⟩ (fun e s'=>(e = .n ∨ e = .r) ∧ s'.mem = setm M k (rQ st l.reverse)):=by
 have hfr' : ∀ b : Blk,∀ j,nx ≤ j → lm (setm M k b) j = none:=fun b j hj=>by rw [lm_set_other _ _ (by omega)];exact hfr j hj
 simp (maxSteps:=400000) (disch:=omega) only [push_cast,↓reduceIte,reduceCtorEq,Nat.reduceAdd,Nat.reduceSub,Nat.reduceEqDiff,Nat.reduceLeDiff,Nat.reduceLT,Nat.reduceBEq,Nat.reduceDiv,Nat.reduceMod,Nat.reducePow,Nat.reduceMul,Int.reduceToNat,Int.reduceLT,Int.reduceLE,initT]
 (refine go0 ?_;try exact tTI)
 refine W_loopM (fun i : Nat=>[(2,iv i),(3,iv ((l.length : Int) - 1 - i))]) (fun i=>setm M k (rQ st (rvP l i))) (fun i=>2 * i ≤ l.length + 1) (fun i=>l.length - i) nx (fun c _=>hfr' _) 0 (by omega) (by rw [show (l.length : Int) - 1 - ((0 : Nat) : Int) = l.length - 1 by omega];rfl) (by rw [rvP_zero]) (fun i hi=>?_)
 have hll:=rvP_len l i
 simp (maxSteps:=400000) (disch:=omega) only [push_cast,↓reduceIte,reduceCtorEq,Nat.reduceAdd,Nat.reduceSub,Nat.reduceEqDiff,Nat.reduceLeDiff,Nat.reduceLT,Nat.reduceBEq,Nat.reduceDiv,Nat.reduceMod,Nat.reducePow,Nat.reduceMul,Int.reduceToNat,Int.reduceLT,Int.reduceLE,keepL]
 repeat' (first | refine w1g ?_ | refine w1l ?_ | refine w1q ?_ | refine w1b ?_ | refine w1p ?_ | ((first | refine w1r ?_ | refine w1k ?_ | refine w1e ?_);simp (maxSteps:=400000) (disch:=omega) only [push_cast,↓reduceIte,reduceCtorEq,Nat.reduceAdd,Nat.reduceSub,Nat.reduceEqDiff,Nat.reduceLeDiff,Nat.reduceLT,Nat.reduceBEq,Nat.reduceDiv,Nat.reduceMod,Nat.reducePow,Nat.reduceMul,Int.reduceToNat,Int.reduceLT,Int.reduceLE,keepL]) | refine an2 ?_ | fail)
 refine W_condD (by rfl) (fun h5=>?_) (fun h5=>?_)
 ·have hlt : i < l.length - 1 - i:=by omega
  have q1:=rvP_at l i i (by omega)
  rw [if_neg (by omega)] at q1
  have q2:=rvP_at l i (l.length - 1 - i) (by omega)
  rw [if_neg (by omega)] at q2
  have q3:=rvP_step l hlt
  have ea : ((i : Int)).toNat = i:=by omega
  have eb : ((l.length : Int) - 1 - i).toNat = l.length - 1 - i:=by omega
  repeat' (first | refine w1g ?_ | refine w1l ?_ | refine w1q ?_ | refine w1b ?_ | refine w1p ?_ | ((first | refine w1r ?_ | refine w1k ?_ | refine w1e ?_);simp (maxSteps:=400000) (disch:=omega) only [push_cast,↓reduceIte,reduceCtorEq,Nat.reduceAdd,Nat.reduceSub,Nat.reduceEqDiff,Nat.reduceLeDiff,Nat.reduceLT,Nat.reduceBEq,Nat.reduceDiv,Nat.reduceMod,Nat.reducePow,Nat.reduceMul,Int.reduceToNat,Int.reduceLT,Int.reduceLE,keepL,hll,eb,q1,q2,beq_self_eq_true]) | refine an2 ?_ | fail)
  refine ⟨rfl,⟨by dsimp only;omega,hasM_set _ _ _⟩,by omega,l.getD (l.length - 1 - i) dQ,rfl,rfl,?_⟩
  simp (maxSteps:=400000) (disch:=omega) only [push_cast,↓reduceIte,reduceCtorEq,Nat.reduceAdd,Nat.reduceSub,Nat.reduceEqDiff,Nat.reduceLeDiff,Nat.reduceLT,Nat.reduceBEq,Nat.reduceDiv,Nat.reduceMod,Nat.reducePow,Nat.reduceMul,Int.reduceToNat,Int.reduceLT,Int.reduceLE,hll,eb,List.length_set]
  repeat' (first | refine w1g ?_ | refine w1l ?_ | refine w1q ?_ | refine w1b ?_ | refine w1p ?_ | ((first | refine w1r ?_ | refine w1k ?_ | refine w1e ?_);simp (maxSteps:=400000) (disch:=omega) only [push_cast,↓reduceIte,reduceCtorEq,Nat.reduceAdd,Nat.reduceSub,Nat.reduceEqDiff,Nat.reduceLeDiff,Nat.reduceLT,Nat.reduceBEq,Nat.reduceDiv,Nat.reduceMod,Nat.reducePow,Nat.reduceMul,Int.reduceToNat,Int.reduceLT,Int.reduceLE,keepL,hll,eb,List.length_set,beq_self_eq_true]) | refine an2 ?_ | fail)
  refine ⟨rfl,⟨by dsimp only;omega,hasM_set _ _ _⟩,by omega,l.getD i dQ,rfl,rfl,?_⟩
  rw [q3]
  (refine sy1 ?_;try exact tTI)
  repeat' (first | refine w1g ?_ | refine w1l ?_ | refine w1q ?_ | refine w1b ?_ | refine w1p ?_ | ((first | refine w1r ?_ | refine w1k ?_ | refine w1e ?_);simp (maxSteps:=400000) (disch:=omega) only [push_cast,↓reduceIte,reduceCtorEq,Nat.reduceAdd,Nat.reduceSub,Nat.reduceEqDiff,Nat.reduceLeDiff,Nat.reduceLT,Nat.reduceBEq,Nat.reduceDiv,Nat.reduceMod,Nat.reducePow,Nat.reduceMul,Int.reduceToNat,Int.reduceLT,Int.reduceLE,keepL]) | refine an2 ?_ | fail)
  refine ⟨i + 1,by omega,by omega,?_,rfl⟩
  rw [show (l.length : Int) - 1 - ((i + 1 : Nat) : Int) = l.length - 1 - i - 1 by omega]
  rfl
 ·rw [rvP_end l (i:=i) (by omega)]
  repeat' (first | refine w1g ?_ | refine w1l ?_ | refine w1q ?_ | refine w1b ?_ | refine w1p ?_ | ((first | refine w1r ?_ | refine w1k ?_ | refine w1e ?_);simp (maxSteps:=400000) (disch:=omega) only [push_cast,↓reduceIte,reduceCtorEq,Nat.reduceAdd,Nat.reduceSub,Nat.reduceEqDiff,Nat.reduceLeDiff,Nat.reduceLT,Nat.reduceBEq,Nat.reduceDiv,Nat.reduceMod,Nat.reducePow,Nat.reduceMul,Int.reduceToNat,Int.reduceLT,Int.reduceLE,keepL]) | refine an2 ?_ | fail)
theorem fn155 (l : List Pt) (hq : ∀ x ∈ l,bd x) (hl : 0 < l.length ∧ l.length ≤ 12) : Sy.Fn Tryz.prog 155 [aQ l] (aQ (crn l)):=by
 refine Fn_of_W mixed Xt155 rfl ?_
 (refine go0 ?_;try exact tTI)
 refine CallC.inl (Inl_of_W mixed Xt212 rfl (fun vs=>?_))
 (refine sy1 ?_;try exact tTI)
 (refine go0 ?_;try exact tTI)
 refine W_cond (by rfl) (fun h=>by cases h) (fun _=>?_)
 (refine go0 ?_;try exact tTI)
 refine ⟨rfl,trivial,Pt,dQ,cPt,[],rfl,by omega,fun x _=>⟨rfl,rfl⟩,rfl,?_⟩
 (refine sy1 ?_;try exact tTI)
 refine ⟨rfl,⟨Nat.le_of_ble_eq_true rfl,rfl⟩,trivial,l,rfl,by first | omega | (simp;omega),by first | omega | (simp;omega),?_⟩
 (refine sy1 ?_;try exact tTI)
 (refine go0 ?_;try exact tTI)
 refine W_ret ⟨[_],_,⟨rfl,rfl⟩,rfl,?_⟩
 (refine syP ?_;try exact tTI)
 (refine go0 ?_;try exact tTI)
 refine CallC.inl (Inl_of_W mixed Xt213 rfl (fun vs=>?_))
 obtain ⟨n73,_,c247⟩:=fn247 l.length (by omega)
 have w3 : IntKind.u64.wrap (l.length : Int) = l.length:=by rw [IntKind.wrap_u64];omega
 (refine sy1 ?_;try exact tTI)
 (refine gofc w3 c247 ?_;try exact tTI)
 refine CallC.inl (Inl_of_W mixed Xt248 rfl (fun vs2=>?_))
 (refine sy1 ?_;try exact tTI)
 (refine go0 ?_;try exact tTI)
 refine W_loopU (fun k : Nat=>[]) (fun k=>[]) (fun k=>k = 0) (fun k=>1) 0 rfl (by rfl) (by rfl) (fun k hk=>?_)
 (refine sy1 ?_;try exact tTI)
 (refine go0 ?_;try exact tTI)
 refine W_condD (by rfl) (fun h5=>?_) (fun h5=>absurd h5 (by omega))
 (refine go0 ?_;try exact tTI)
 refine CallC.inl (i286 (l:=l) (by rfl) ?_ (by omega) (by omega) ?_)
 ·intro j hj
  have hj : 36 ≤ j:=hj
  simp only [lm]
  rw [if_neg (by omega),if_neg (by omega),if_neg (by omega)]
 have hsl:=isort_len (lt:=ltP) l
 have hsm : ∀ x ∈ isort ltP l,bd x:=fun x hx=>hq x ((isort_mem l).1 hx)
 have ecr : crn l = if (cpt (isort ltP l) (isort ltP l).length).length < 2 then cpt (isort ltP l) (isort ltP l).length else (stk (cpt (isort ltP l) (isort ltP l).length)).dropLast ++ (stk (cpt (isort ltP l) (isort ltP l).length).reverse).dropLast:=by rw [hsl];rfl
 rw [ecr]
 generalize isort ltP l = s at *
 (refine sy1 ?_;try exact tTI)
 refine W_ret ⟨[],_,rfl,rfl,?_⟩
 (refine syP ?_;try exact tTI)
 (refine go0 ?_;try exact tTI)
 refine ⟨[],_,rfl,rfl,?_⟩
 (refine syP ?_;try exact tTI)
 (refine go0 ?_;try exact tTI)
 refine CallC.inl (Inl_of_W mixed Xt215 rfl (fun vs4=>?_))
 (refine sy1 ?_;try exact tTI)
 (refine go0 ?_;try exact tTI)
 have hl0 : 0 < s.length:=by omega
 have hsz : s.length ≤ 12:=by omega
 clear hsl
 obtain ⟨CS,hCS⟩ : ∃ CS,CS = cpt s s.length:=⟨_,rfl⟩
 rw [← hCS]
 clear ecr
 suffices rest : ∀ st,W Tryz.prog 38 Xn155_8 ⟨[(3,.row 6 st)],[(6,.row st 30 2 dQ cPt CS)],45⟩ (Sy.Fin [RV.t 2] (aQ (if CS.length < 2 then CS else (stk CS).dropLast ++ (stk CS.reverse).dropLast))) by
  refine W_condD (by rfl) (fun h6=>?_) (fun h6=>?_)
  ·have e1 : CS = s:=by
    rw [hCS,show s.length = 1 by omega]
    show s.take 1 = s
    rw [List.take_of_length_le (by omega)]
   have r:=rest 1
   rw [e1] at r ⊢
   (refine go0 ?_;try exact tTI)
   refine W_ret ⟨[_],_,⟨rfl,rfl⟩,rfl,?_⟩
   (refine syP ?_;try exact tTI)
   exact W_le (le_to [3] [6] 45 (by rfl) rfl) r
  (refine go0 ?_;try exact tTI)
  refine W_loopU (fun k : Nat=>[(3,iv ((k : Int) + 1))]) (fun k=>[]) (fun k=>k + 1 ≤ s.length ∧ ∀ j,0 < j → j < k + 1 → eqP (s.getD j dQ) (s.getD (j - 1) dQ) = false) (fun k=>s.length - k) 0 ⟨by omega,fun j h1 h2=>by omega⟩ (by rfl) (by rfl) (fun k hk=>?_)
  obtain ⟨hk1,hk2⟩:=hk
  (refine sy1 ?_;try exact tTI)
  (refine go0 ?_;try exact tTI)
  refine W_condD (by rfl) (fun h7=>?_) (fun h7=>?_)
  ·have e1 : ((k : Int) + 1).toNat = k + 1:=by omega
   have e2 : ((k : Int) + 1 - 1).toNat = k:=by omega
   have ee : eqP (s.getD (k + 1) dQ) (s.getD (k + 1 - 1) dQ) = ((s.getD (k + 1) dQ).x == (s.getD k dQ).x && (s.getD (k + 1) dQ).y == (s.getD k dQ).y):=rfl
   (refine gof (ad2 e1 e2) ?_;try exact tTI)
   rw [← ee]
   refine W_cond (by rfl) (fun h8=>?_) (fun h8=>?_)
   ·have hlt : k + 1 < s.length:=by omega
    have hini : mkS s (k + 2) = s:=by
     rw [(mkS_eq s (n:=k + 1) (by omega) h8).1]
     unfold mkS
     rw [cpt_take s (k + 1) (by omega) (fun j h1 h2=>hk2 j h1 h2),List.length_take,Nat.min_eq_left (by omega),List.take_append_drop]
    have hcl : (cpt s (k + 2)).length = k + 1:=by
     rw [(mkS_eq s (n:=k + 1) (by omega) h8).2,cpt_take s (k + 1) (by omega) (fun j h1 h2=>hk2 j h1 h2),List.length_take];omega
    (refine gof e1 ?_;try exact tTI)
    rw [show rQ 1 s = .row 1 30 2 dQ cPt (mkS s (k + 2)) by rw [hini]]
    refine W_loopU (fun d : Nat=>[(3,iv ((cpt s (k + 2 + d)).length : Int)),(5,iv ((d : Int) + 1))]) (fun d=>[(6,.row 1 30 2 dQ cPt (mkS s (k + 2 + d)))]) (fun d=>k + 2 + d ≤ s.length) (fun d=>s.length - d) 0 (by omega) (by rfl) (by rw [hcl];rfl) (fun d hd=>?_)
    have hml:=mkS_len s hd
    have hdp:=cpt_dup s (k:=k + 1) (by omega) hlt h8 d (by omega)
    (refine sy1 ?_;try exact tTI)
    (refine gof hml ?_;try exact tTI)
    have hbd : (cpt s (k + 2 + d)).length ≤ k + 1 + d:=by rw [show k + 1 + 1 + d = k + 2 + d by omega] at hdp;omega
    refine W_condD (by rfl) (fun h9=>?_) (fun h9=>?_)
    ·have hn : k + 2 + d < s.length:=by omega
     have e3 : ((d : Int) + 1).toNat = d + 1:=by omega
     have e4 : ((d : Int) + 1 - 1).toNat = d:=by omega
     have g1:=mkS_get s (n:=k + 2 + d) (p:=k + 1 + (d + 1)) (by omega)
     have g2:=mkS_get s (n:=k + 2 + d) (p:=k + 1 + d) hbd
     have e5 : k + 2 + d - 1 = k + 1 + d:=by omega
     have e6 : k + 1 + (d + 1) = k + 2 + d:=by omega
     rw [e6] at g1
     have ef : eqP (s.getD (k + 2 + d) dQ) (s.getD (k + 2 + d - 1) dQ) = ((s.getD (k + 2 + d) dQ).x == (s.getD (k + 1 + d) dQ).x && (s.getD (k + 2 + d) dQ).y == (s.getD (k + 1 + d) dQ).y):=by rw [e5];rfl
     (refine gof (ad6 hml e3 e4 e6 g1 g2) ?_;try exact tTI)
     rw [← ef]
     have e7 : k + 2 + (d + 1) = k + 2 + d + 1:=by omega
     by_cases q : eqP (s.getD (k + 2 + d) dQ) (s.getD (k + 2 + d - 1) dQ) = true
     ·obtain ⟨u1,u2⟩:=mkS_eq s (n:=k + 2 + d) (by omega) q
      rw [q]
      refine W_cond (by rfl) (fun h=>by cases h) (fun _=>?_)
      (refine go0 ?_;try exact tTI)
      refine ⟨d + 1,by omega,by omega,by rfl,?_⟩
      rw [e7,u1,u2]
      (refine syE ?_;try exact tTI)
      try rfl
     ·obtain ⟨u1,u2⟩:=mkS_ne s (n:=k + 2 + d) (by omega) hn q
      rw [Bool.not_eq_true] at q
      rw [q]
      refine W_cond (by rfl) (fun _=>?_) (fun h=>by cases h)
      (refine gof (ad4 hml e3 e6 g1) ?_;try exact tTI)
      refine ⟨rfl,⟨Nat.le_of_ble_eq_true rfl,rfl⟩,by omega,s.getD (k + 2 + d) dQ,rfl,rfl,?_⟩
      rw [u1]
      (refine sy1 ?_;try exact tTI)
      (refine go0 ?_;try exact tTI)
      refine ⟨d + 1,by omega,by omega,by rfl,?_⟩
      rw [e7,u2]
      (refine syE ?_;try exact tTI)
      try rfl
    ·have e1 : k + 2 + d = s.length:=by omega
     have hms : mkS s (k + 2 + d) = CS ++ s.drop CS.length:=by unfold mkS;rw [e1,← hCS]
     have hcl2 : (cpt s (k + 2 + d)).length = CS.length:=by rw [e1,← hCS]
     have hcl3 : CS.length < s.length:=by omega
     rw [hms,hcl2]
     rw [hms] at hml
     (refine gof hml ?_;try exact tTI)
     refine ⟨⟨hcl3,rfl⟩,?_⟩
     have hl2 : (List.take CS.length (CS ++ List.drop CS.length s) ++ List.replicate (s.length - CS.length) dQ).length = s.length:=by
      rw [List.length_append,List.length_take,List.length_replicate,hml];omega
     have ht2 : (List.take CS.length (CS ++ List.drop CS.length s) ++ List.replicate (s.length - CS.length) dQ).take CS.length = CS:=by
      rw [List.take_left']
      ·rw [List.take_append_of_le_length (Nat.le_refl _),List.take_length]
      ·rw [List.length_take,hml];omega
     generalize (List.take CS.length (CS ++ List.drop CS.length s) ++ List.replicate (s.length - CS.length) dQ) = X at *
     (refine gof (ad2 hl2 ht2) ?_;try exact tTI)
     refine W_ret ⟨[_],_,⟨rfl,rfl⟩,rfl,?_⟩
     (refine syP ?_;try exact tTI)
     exact W_le (le_to [3] [6] 45 (by rfl) rfl) (rest 2)
   ·(refine go0 ?_;try exact tTI)
    refine ⟨k + 1,⟨by omega,fun j h1 h2=>?_⟩,by omega,by rfl,?_⟩
    ·by_cases q : j = k + 1
     ·rw [q];exact h8
     ·exact hk2 j h1 (by omega)
    (refine syE ?_;try exact tTI)
    try rfl
  ·have e1 : CS = s:=by
    rw [hCS,cpt_take s _ (Nat.le_refl _) (fun j h1 h2=>hk2 j h1 (by omega)),List.take_length]
   have r:=rest 1
   rw [e1] at r ⊢
   (refine go0 ?_;try exact tTI)
   refine W_ret ⟨[_],_,⟨rfl,rfl⟩,rfl,?_⟩
   (refine syP ?_;try exact tTI)
   exact W_le (le_to [3] [6] 45 (by rfl) rfl) r
 intro st
 have hcs : 0 < CS.length:=by rw [hCS];exact cpt_ne s _ hl0 (Nat.le_refl _)
 have hcl : CS.length ≤ 12:=by have:=cpt_len s s.length (Nat.le_refl _);rw [← hCS] at this;omega
 have hcm : ∀ x ∈ CS,bd x:=fun x hx=>hsm x (cpt_mem s _ (Nat.le_refl _) (hCS ▸ hx))
 refine W_le (le_move 3 7 0 6 st 30 2 [] [] 45 dQ cPt CS rfl rfl rfl rfl rfl rfl rfl (by omega)) ?_
 (refine sy1 ?_;try exact tTI)
 (refine go0 ?_;try exact tTI)
 refine W_condD (by rfl) (fun h6=>?_) (fun h6=>?_)
 ·rw [if_pos (by omega)]
  (refine go0 ?_;try exact tTI)
  exact W_ret ⟨[_],⟨rfl,rfl⟩,rfl⟩
 rw [if_neg (by omega)]
 have c1:=fn218 CS hcm (by omega)
 have c2:=fn218 CS.reverse (fun x hx=>hcm x (List.mem_reverse.1 hx)) (by rw [List.length_reverse];omega)
 (refine go0 ?_;try exact tTI)
 refine CallC.inl (Inl_of_W mixed Xt219 rfl (fun vs=>?_))
 (refine sy1 ?_;try exact tTI)
 (refine go0 ?_;try exact tTI)
 refine W_ret ⟨[_],_,⟨rfl,rfl⟩,rfl,?_⟩
 (refine syP ?_;try exact tTI)
 refine CallC.inl (Inl_of_FnO c1 (by rfl) ?_)
 (refine sy1 ?_;try exact tTI)
 (refine go0 ?_;try exact tTI)
 refine CallC.inl (Inl_row mixed Xt220 rfl (l:=CS) (l':=CS.reverse) (by rfl) ?_ (fun M nx h1 h2=>w220 CS (by omega) h1 h2) ?_)
 ·intro j hj
  have hj : 61 ≤ j:=hj
  simp only [lm]
  rw [if_neg (by omega),if_neg (by omega)]
 (refine sy1 ?_;try exact tTI)
 (refine go0 ?_;try exact tTI)
 refine CallC.inl (Inl_of_W mixed Xt219 rfl (fun vs=>?_))
 (refine sy1 ?_;try exact tTI)
 (refine go0 ?_;try exact tTI)
 refine W_ret ⟨[_],_,⟨rfl,rfl⟩,rfl,?_⟩
 (refine syP ?_;try exact tTI)
 refine CallC.inl (Inl_of_FnO c2 (by rfl) ?_)
 have hA : 0 < (stk CS).length ∧ (stk CS).length ≤ 12:=by
  have:=stkR_len CS CS.length (Nat.le_refl _)
  unfold stk
  rw [List.length_reverse];omega
 have hB : 0 < (stk CS.reverse).length ∧ (stk CS.reverse).length ≤ 12:=by
  have:=stkR_len CS.reverse CS.reverse.length (Nat.le_refl _)
  rw [List.length_reverse] at this
  unfold stk
  rw [List.length_reverse,List.length_reverse];omega
 generalize stk CS = A at *
 generalize stk CS.reverse = B at *
 have tA : A.take ((A.length : Int) - 1).toNat = A.dropLast:=by rw [List.dropLast_eq_take];congr 1;omega
 have tB : B.take ((B.length : Int) - 1).toNat = B.dropLast:=by rw [List.dropLast_eq_take];congr 1;omega
 (refine sy1 ?_;try exact tTI)
 (refine gof (ad2 tA tB) ?_;try exact tTI)
 have lA : A.dropLast.length = A.length - 1:=List.length_dropLast
 have lB : B.dropLast.length = B.length - 1:=List.length_dropLast
 generalize A.dropLast = A' at *
 generalize B.dropLast = B' at *
 refine ⟨rfl,⟨Nat.le_of_ble_eq_true rfl,rfl⟩,trivial,B',rfl,by first | omega | (simp;done) | (simp;omega),by first | omega | (simp;done) | (simp;omega),?_⟩
 (refine sy1 ?_;try exact tTI)
 exact W_ret ⟨[_],⟨rfl,rfl⟩,rfl⟩
abbrev Dr:=Int × Int
def dD : Dr:=(0,0)
abbrev cD (d : Dr) : List AV:=[iv d.1,iv d.2,iv 0]
abbrev aD (l : List Dr) : AV:=.sl 3 dD cD l
def dot (d : Dr) (p : Pt) : Int:=d.1 * p.x + d.2 * p.y
def spn (d : Dr) (h : List Pt) (n : Nat) : Int × Int:=((h.drop 1).take n).foldl (fun s p=>(min s.1 (dot d p),max s.2 (dot d p))) (dot d (h.getD 0 dQ),dot d (h.getD 0 dQ))
def loS (d : Dr) (h : List Pt) : Int:=(spn d h (h.length - 1)).1
def hiS (d : Dr) (h : List Pt) : Int:=(spn d h (h.length - 1)).2
theorem spn_succ (d : Dr) (h : List Pt) {n : Nat} (hn : n < h.length - 1) : spn d h (n + 1) = (min (spn d h n).1 (dot d ((h.drop 1).getD n dQ)),max (spn d h n).2 (dot d ((h.drop 1).getD n dQ))):=by
 have hn2 : n < (h.drop 1).length:=by rw [List.length_drop];exact hn
 unfold spn
 rw [List.take_succ_eq_append_getElem hn2,List.foldl_append]
 simp [List.getD,hn]
def bdD (d : Dr) : Prop:=(-268435456 ≤ d.1 ∧ d.1 ≤ 268435456) ∧ -268435456 ≤ d.2 ∧ d.2 ≤ 268435456
theorem dot_rng {d : Dr} {p : Pt} (h1 : bdD d) (h2 : bd p) : (-18014398509481984 ≤ d.1 * p.x ∧ d.1 * p.x ≤ 18014398509481984) ∧ (-18014398509481984 ≤ d.2 * p.y ∧ d.2 * p.y ≤ 18014398509481984):=by
 unfold bdD at h1
 unfold bd at h2
 have m1:=abs_mul (show -268435456 ≤ d.1 ∧ d.1 ≤ 268435456 by omega) (show -67108864 ≤ p.x ∧ p.x ≤ 67108864 by omega)
 have m2:=abs_mul (show -268435456 ≤ d.2 ∧ d.2 ≤ 268435456 by omega) (show -67108864 ≤ p.y ∧ p.y ≤ 67108864 by omega)
 omega
theorem getQ_mem {l : List Pt} {i : Nat} (h : i < l.length) : l.getD i dQ ∈ l:=by
 simp only [List.getD,List.getElem?_eq_getElem h,Option.getD_some];exact List.getElem_mem h
theorem fn294 (d : Dr) (k : Int) (h : List Pt) (hd : bdD d) (hq : ∀ p ∈ h,bd p) (hl : 0 < h.length ∧ h.length ≤ 1000000) : Sy.Fn Tryz.prog 294 [.agg [iv d.1,iv d.2,iv k],aQ h] (.tup [iv (loS d h),iv (hiS d h)]):=by
 refine Fn_of_W mixed Xt294 rfl ?_
 have h0:=dot_rng hd (hq _ (getQ_mem hl.1))
 have es : spn d h 0 = (d.1 * (h.getD 0 dQ).x + d.2 * (h.getD 0 dQ).y,d.1 * (h.getD 0 dQ).x + d.2 * (h.getD 0 dQ).y):=rfl
 have hsu:=fun n hn=>spn_succ d h (n:=n) hn
 have hm : ∀ p ∈ h.drop 1,bd p:=fun p hp=>hq p (List.mem_of_mem_drop hp)
 have hdl : (h.drop 1).length = h.length - 1:=List.length_drop
 obtain ⟨T,hT⟩ : ∃ T,T = h.drop 1:=⟨_,rfl⟩
 rw [← hT] at hm hdl
 have hdr : h.drop (1 : Int).toNat = T:=hT.symm
 have hdr2 : h.drop 1 = T:=hT.symm
 simp only [← hT,← hdl] at hsu
 unfold loS hiS
 rw [← hdl]
 (refine gof (ad2 hdr hdr2) ?_;try exact tTI)
 refine W_loopU (fun n : Nat=>[(44,iv n),(6,iv (spn d h n).1),(7,iv (spn d h n).2)]) (fun n=>[]) (fun n=>n ≤ T.length) (fun n=>T.length - n) 0 (Nat.zero_le _) (by rfl) (by rfl) (fun n hn=>?_)
 (refine sy1 ?_;try exact tTI)
 (refine go0 ?_;try exact tTI)
 refine W_condD (by rfl) (fun h5=>?_) (fun h5=>?_)
 ·have hlt : n < T.length:=by omega
  have hs:=hsu n hlt
  have hp:=dot_rng hd (hm _ (getQ_mem hlt))
  unfold dot at hs
  generalize spn d h n = A at *
  generalize hp0 : T.getD n dQ = p at *
  (refine gof hp0 ?_;try exact tTI)
  refine ⟨n + 1,by omega,by omega,by rfl,?_⟩
  rw [hs]
  (refine syE ?_;try exact tTI)
 ·obtain rfl : n = T.length:=by omega
  (refine go0 ?_;try exact tTI)
  exact W_ret ⟨[_,_],⟨rfl,rfl,rfl⟩,rfl⟩
def fdD (a b : List Pt) (ds : List Dr) : Option Dr:=ds.find? fun d=>decide (hiS d a < loS d b)
def tvL (a : List Pt) : Option Dr → List AV
 |some d=>[iv d.1,iv d.2,iv (hiS d a)]
 |none=>[iv 0,iv 0,iv 0]
theorem fdD_at {a b : List Pt} {ds : List Dr} {n : Nat} (hn : n < ds.length) (h0 : ∀ j,j < n → ¬ hiS (ds.getD j dD) a < loS (ds.getD j dD) b) (h1 : hiS (ds.getD n dD) a < loS (ds.getD n dD) b) : fdD a b ds = some (ds.getD n dD):=by
 unfold fdD
 rw [List.find?_eq_some_iff_getElem]
 refine ⟨decide_eq_true h1,n,hn,by simp [List.getD,hn],fun j hj=>?_⟩
 have:=h0 j hj
 have hj2 : j < ds.length:=by omega
 simp only [List.getD,List.getElem?_eq_getElem hj2,Option.getD_some] at this
 simpa using this
theorem fdD_no {a b : List Pt} {ds : List Dr} (h0 : ∀ j,j < ds.length → ¬ hiS (ds.getD j dD) a < loS (ds.getD j dD) b) : fdD a b ds = none:=by
 unfold fdD
 rw [List.find?_eq_none]
 intro x hx
 obtain ⟨j,hj,rfl⟩:=List.getElem_of_mem hx
 have:=h0 j hj
 simp only [List.getD,List.getElem?_eq_getElem hj,Option.getD_some] at this
 simpa using this
theorem fn252 (a b : List Pt) (ds : List Dr) (hds : ∀ d ∈ ds,bdD d) (ha : ∀ p ∈ a,bd p) (hb : ∀ p ∈ b,bd p) (la : 0 < a.length ∧ a.length ≤ 1000000) (lb : 0 < b.length ∧ b.length ≤ 1000000) (ld : ds.length ≤ 1000000) :
  Sy.Fn Tryz.prog 252 [aQ a,aQ b,aD ds] (.tup [.agg (tvL a (fdD a b ds)),bv (fdD a b ds).isSome]):=by
 refine Fn_of_W mixed Xt252 rfl ?_
 (refine go0 ?_;try exact tTI)
 refine W_loopU (fun n : Nat=>[(16,iv n)]) (fun n=>[]) (fun n=>n ≤ ds.length ∧ ∀ j,j < n → ¬ hiS (ds.getD j dD) a < loS (ds.getD j dD) b) (fun n=>ds.length - n) 0 ⟨Nat.zero_le _,fun j hj=>by omega⟩ (by rfl) (by rfl) (fun n hn=>?_)
 obtain ⟨hn,hall⟩:=hn
 (refine sy1 ?_;try exact tTI)
 (refine go0 ?_;try exact tTI)
 refine W_condD (by rfl) (fun h5=>?_) (fun h5=>?_)
 ·have hlt : n < ds.length:=by omega
  have hat:=fdD_at (a:=a) (b:=b) hlt hall
  have hd:=hds (ds.getD n dD) (by simp only [List.getD,List.getElem?_eq_getElem hlt,Option.getD_some];exact List.getElem_mem hlt)
  generalize hdd : ds.getD n dD = d at *
  have c1:=fn294 d 0 a hd ha la
  have c2:=fn294 d 0 b hd hb lb
  (refine gofcc hdd c1 c2 ?_;try exact tTI)
  refine W_condD (by rfl) (fun h6=>?_) (fun h6=>?_)
  ·rw [hat h6]
   (refine go0 ?_;try exact tTI)
   exact W_ret ⟨[_,_],⟨⟨by simp,rfl⟩,rfl,rfl⟩,rfl⟩
  (refine go0 ?_;try exact tTI)
  refine ⟨n + 1,⟨by omega,fun j hj=>?_⟩,by omega,by rfl,?_⟩
  ·by_cases q : j = n
   ·rw [q,hdd];exact h6
   ·exact hall j (by omega)
  (refine syE ?_;try exact tTI)
 ·rw [fdD_no (fun j hj=>hall j (by omega))]
  (refine go0 ?_;try exact tTI)
  exact W_ret ⟨[_,_],⟨⟨by simp,rfl⟩,rfl,rfl⟩,rfl⟩
def dd (p q : Pt) : List Dr:=[(q.y - p.y,0 - (q.x - p.x)),(0 - (q.y - p.y),q.x - p.x),(q.x - p.x,q.y - p.y),(0 - (q.x - p.x),0 - (q.y - p.y))]
def sdN (h : List Pt) (n : Nat) : List Dr:=(List.range n).flatMap fun i=>dd (h.getD i dQ) (h.getD ((i + 1) % h.length) dQ)
def sdL (h : List Pt) : List Dr:=sdN h h.length
theorem sdN_succ (h : List Pt) (n : Nat) : sdN h (n + 1) = sdN h n ++ dd (h.getD n dQ) (h.getD ((n + 1) % h.length) dQ):=by
 unfold sdN
 rw [List.range_succ,List.flatMap_append]
 simp
def d0 (a b : List Pt) : Dr:=((b.getD 0 dQ).x - (a.getD 0 dQ).x,(b.getD 0 dQ).y - (a.getD 0 dQ).y)
def drL (a b : List Pt) : List Dr:=d0 a b :: (sdL a ++ sdL b)
theorem fdD_app (a b : List Pt) (l m : List Dr) : fdD a b (l ++ m) = (fdD a b l).or (fdD a b m):=by
 unfold fdD
 rw [List.find?_append]
def apB (a b : List Pt) : Bool:=(fdD a b (drL a b)).isSome
theorem bd_dif {p q : Pt} (h1 : bd p) (h2 : bd q) : (-134217728 ≤ q.x - p.x ∧ q.x - p.x ≤ 134217728) ∧ -134217728 ≤ q.y - p.y ∧ q.y - p.y ≤ 134217728:=by
 unfold bd at h1 h2;omega
theorem dd_bd {p q : Pt} (h1 : bd p) (h2 : bd q) : ∀ d ∈ dd p q,bdD d:=by
 have:=bd_dif h1 h2
 intro d hd
 unfold dd at hd
 simp only [List.mem_cons,List.not_mem_nil,or_false] at hd
 rcases hd with rfl | rfl | rfl | rfl <;> (unfold bdD;dsimp only;omega)
theorem fn253 (h : List Pt) : Sy.Fn Tryz.prog 253 [aQ h] (.clo 295 [] [.fp [aQ h] 0]):=by
 refine Fn_of_W mixed Xt253 rfl ?_
 (refine go0 ?_;try exact tTI)
 exact W_ret ⟨[_],⟨rfl,rfl⟩,rfl⟩
theorem fdD_pre {a b : List Pt} {l m : List Dr} {d : Dr} (h : fdD a b l = none) (h2 : fdD a b m = some d) (r : List Dr) : fdD a b (l ++ m ++ r) = some d:=by
 rw [fdD_app,fdD_app,h,h2];rfl
def hl2 (a b : List Pt) (j : Nat) : List Pt:=if j = 0 then a else b
def sdR (h : List Pt) (n : Nat) : List Dr:=(List.range' n (h.length - n)).flatMap fun i=>dd (h.getD i dQ) (h.getD ((i + 1) % h.length) dQ)
theorem sdL_cut (h : List Pt) {i : Nat} (hi : i < h.length) {p q : Pt} (hp : h.getD i dQ = p) (hq : h.getD ((i + 1) % h.length) dQ = q) : sdL h = sdN h i ++ dd p q ++ sdR h (i + 1):=by
 have e : sdN h i ++ dd p q = sdN h (i + 1):=by rw [sdN_succ,hp,hq]
 rw [e]
 unfold sdL sdN sdR
 rw [← List.flatMap_append]
 congr 1
 rw [List.range_eq_range',List.range_eq_range']
 have h2:=List.range'_append_1 (s:=0) (m:=i + 1) (n:=h.length - (i + 1))
 rw [Nat.zero_add] at h2
 rw [h2]
 congr 1
 omega
theorem fn224 (a b : List Pt) (ha : ∀ p ∈ a,bd p) (hb : ∀ p ∈ b,bd p) (la : 0 < a.length ∧ a.length ≤ 1000000) (lb : 0 < b.length ∧ b.length ≤ 1000000) :
  Sy.Fn Tryz.prog 224 [aQ a,aQ b] (.tup [.agg (tvL a (fdD a b (drL a b))),bv (apB a b)]):=by
 refine Fn_of_W mixed Xt224 rfl ?_
 have hdf:=bd_dif (ha _ (getQ_mem la.1)) (hb _ (getQ_mem lb.1))
 have c1:=fn252 a b [d0 a b] (by
  intro d hd
  rw [List.mem_singleton] at hd
  subst hd
  unfold bdD d0;dsimp only;omega) ha hb la lb (by show 1 ≤ _;omega)
 have cc:=fun (p q : Pt) (hp : bd p) (hq : bd q)=>fn252 a b (dd p q) (dd_bd hp hq) ha hb la lb (by show 4 ≤ _;omega)
 have er : apB a b = (fdD a b (drL a b)).isSome:=rfl
 have ed : fdD a b (drL a b) = (fdD a b [d0 a b]).or ((fdD a b (sdL a)).or (fdD a b (sdL b))):=by
  show fdD a b ([d0 a b] ++ (sdL a ++ sdL b)) = _
  rw [fdD_app,fdD_app]
 generalize fdD a b (drL a b) = F at *
 have e0 : ((b.getD 0 dQ).x - (a.getD 0 dQ).x,(b.getD 0 dQ).y - (a.getD 0 dQ).y) = d0 a b:=rfl
 rw [er]
 (refine go0 ?_;try exact tTI)
 refine ⟨rfl,trivial,Dr,dD,cD,[d0 a b],rfl,by omega,fun x _=>⟨rfl,rfl⟩,rfl,?_⟩
 (refine sy1 ?_;try exact tTI)
 cases hfd : fdD a b [d0 a b] with
 |some d=>
  rw [hfd] at c1 ed
  obtain rfl : F = some d:=ed
  have c1 : Sy.Fn Tryz.prog 252 [aQ a,aQ b,aD [d0 a b]] (.tup [.agg [iv d.1,iv d.2,iv (hiS d a)],bv true]):=c1
  (refine go_g c1 ?_;try exact tTI)
  refine W_cond (by rfl) (fun _=>?_) (fun h=>by cases h)
  (refine go0 ?_;try exact tTI)
  exact W_ret ⟨[_,_],⟨⟨by simp,rfl⟩,⟨by simp,rfl⟩,rfl⟩,rfl⟩
 |none=>
  rw [hfd,Option.none_or] at ed
  rw [hfd] at c1
  have c1 : Sy.Fn Tryz.prog 252 [aQ a,aQ b,aD [d0 a b]] (.tup [.agg [iv 0,iv 0,iv 0],bv false]):=c1
  (refine go_g c1 ?_;try exact tTI)
  refine W_cond (by rfl) (fun h=>by cases h) (fun _=>?_)
  (refine go0 ?_;try exact tTI)
  refine W_loopU (fun j : Nat=>[(47,iv j)]) (fun j=>[]) (fun j=>j ≤ 2 ∧ (1 ≤ j → fdD a b (sdL a) = none) ∧ (2 ≤ j → fdD a b (sdL b) = none)) (fun j=>2 - j) 0 ⟨by omega,fun h=>by omega,fun h=>by omega⟩ (by rfl) (by rfl) (fun j hj=>?_)
  obtain ⟨hj,hp1,hp2⟩:=hj
  (refine sy1 ?_;try exact tTI)
  (refine go0 ?_;try exact tTI)
  refine W_condD (by rfl) (fun h5=>?_) (fun h5=>?_)
  ·obtain ⟨h,hh⟩ : ∃ h,h = hl2 a b j:=⟨_,rfl⟩
   have hq : ∀ p ∈ h,bd p:=by rw [hh];unfold hl2;split <;> assumption
   have lh : 0 < h.length ∧ h.length ≤ 1000000:=by rw [hh];unfold hl2;split <;> assumption
   have en : nth [aQ a,aQ b] j = aQ h:=by
    rw [hh];unfold hl2
    rcases (show j = 0 ∨ j = 1 by omega) with rfl | rfl <;> rfl
   have hup : fdD a b (sdL h) = none → (1 ≤ j + 1 → fdD a b (sdL a) = none) ∧ (2 ≤ j + 1 → fdD a b (sdL b) = none):=by
    rw [hh];unfold hl2
    rcases (show j = 0 ∨ j = 1 by omega) with rfl | rfl
    ·exact fun q=>⟨fun _=>q,fun h=>by omega⟩
    ·exact fun q=>⟨fun _=>hp1 (by omega),fun _=>q⟩
   have hit : ∀ d,fdD a b (sdL h) = some d → F = some d:=by
    rw [hh,ed];unfold hl2
    rcases (show j = 0 ∨ j = 1 by omega) with rfl | rfl
    ·intro d q;simp only [if_true] at q;rw [q];rfl
    ·intro d q
     rw [if_neg (by omega)] at q
     rw [hp1 (by omega),q];rfl
   (refine gofc (ad2 Nat.mul_one en) (fn253 h) ?_;try exact tTI)
   refine W_rfn (.inl rfl) (fun lp R hR=>Inl_of_W mixed Xt295 rfl (fun vs=>?_))
   (refine sy1 ?_;try exact tTI)
   (refine go0 ?_;try exact tTI)
   refine W_loopU (fun i : Nat=>[(7,iv i)]) (fun i=>[]) (fun i=>i ≤ h.length ∧ fdD a b (sdN h i) = none) (fun i=>h.length - i) 0 ⟨Nat.zero_le _,rfl⟩ (by rfl) (by rfl) (fun i hi=>?_)
   obtain ⟨hi,hpi⟩:=hi
   (refine sy1 ?_;try exact tTI)
   (refine go0 ?_;try exact tTI)
   refine W_condD (by rfl) (fun h6=>?_) (fun h6=>?_)
   ·have hlt : i < h.length:=by omega
    have em : ((i : Int) + 1).tmod (h.length : Int) = (((i + 1) % h.length : Nat) : Int):=(Int.ofNat_tmod (i + 1) h.length).symm
    have hml : (i + 1) % h.length < h.length:=Nat.mod_lt _ (by omega)
    obtain ⟨p,hp⟩ : ∃ p,h.getD i dQ = p:=⟨_,rfl⟩
    obtain ⟨q,hq2⟩ : ∃ q,h.getD ((i + 1) % h.length) dQ = q:=⟨_,rfl⟩
    have bp : bd p:=by rw [← hp];exact hq _ (getQ_mem hlt)
    have bq : bd q:=by rw [← hq2];exact hq _ (getQ_mem hml)
    have hsu:=sdN_succ h i
    rw [hp,hq2] at hsu
    have hcut:=sdL_cut h hlt hp hq2
    have c2:=cc p q bp bq
    have hdq:=bd_dif bp bq
    generalize (i + 1) % h.length = m at *
    repeat (first | refine WK_go ?_ | refine W_seqL ?_ | refine W_seq ?_ | refine W_block ?_)
    refine W_skip ?_
    (refine sy1 ?_;try exact tTI)
    repeat (first | refine WK_go ?_ | refine W_seqL ?_ | refine W_seq ?_ | refine W_block ?_)
    refine W_regL ?_
    (refine syf hp ?_;try exact tTI)
    refine ⟨by omega,?_⟩
    have hne1 : ¬ ((h.length : Int) = 0):=by omega
    have hne2 : ¬ (h.length = 0):=by omega
    have hne3 : ¬ (h = []):=fun e=>by rw [e] at lh;simp at lh
    repeat' (first | refine w1g ?_ | refine w1l ?_ | refine w1q ?_ | refine w1b ?_ | refine w1p ?_ | ((first | refine W_regS 10 (by decide) (by decide) ?_ | refine w1r ?_ | refine w1k ?_ | refine w1e ?_);(refine syf (ad2 em hq2) ?_;try exact tTI)) | refine an2 ?_ | fail)
    refine StopC.yld (fun hpc=>⟨trivial,Yl_of_W (k:=43) mixed hR rfl rfl rfl (fun vs2=>?_)⟩) (fun hpc=>absurd (by simp [Sy.pc]) hpc)
    (refine sy1 ?_;try exact tTI)
    (refine go0 ?_;try exact tTI)
    refine ⟨_,rfl,?_⟩
    (refine sy1 ?_;try exact tTI)
    (refine go0 ?_;try exact tTI)
    refine ⟨rfl,trivial,Dr,dD,cD,dd p q,rfl,by omega,fun x _=>⟨rfl,rfl⟩,rfl,?_⟩
    (refine sy1 ?_;try exact tTI)
    cases hfe : fdD a b (dd p q) with
    |some d=>
     obtain rfl : F = some d:=hit d (by
      have e1:=hcut
      rw [e1]
      exact fdD_pre hpi hfe _)
     rw [hfe] at c2
     have c2 : Sy.Fn Tryz.prog 252 [aQ a,aQ b,aD (dd p q)] (.tup [.agg [iv d.1,iv d.2,iv (hiS d a)],bv true]):=c2
     (refine go_g c2 ?_;try exact tTI)
     refine W_cond (by rfl) (fun _=>?_) (fun h=>by cases h)
     (refine go0 ?_;try exact tTI)
     refine W_ret ?_
     (refine sy1 ?_;try exact tTI)
     refine ⟨_,_,rfl,rfl,?_⟩
     (refine sy1 ?_;try exact tTI)
     (refine go0 ?_;try exact tTI)
     refine W_cond (by rfl) (fun _=>?_) (fun h=>by cases h)
     (refine go0 ?_;try exact tTI)
     refine W_ret ?_
     refine ⟨_,_,rfl,rfl,⟨_,_,rfl,by simp [doneL],?_⟩⟩
     simp (maxSteps:=400000) (disch:=omega) only [push_cast,↓reduceIte,reduceCtorEq,Nat.reduceAdd,Nat.reduceSub,Nat.reduceEqDiff,Nat.reduceLeDiff,Nat.reduceLT,Nat.reduceBEq,Nat.reduceDiv,Nat.reduceMod,Nat.reducePow,Nat.reduceMul,Int.reduceToNat,Int.reduceLT,Int.reduceLE,doneL,EndP]
     exact ⟨[_,_],⟨⟨by simp,rfl⟩,⟨by simp,rfl⟩,rfl⟩,rfl⟩
    |none=>
     rw [hfe] at c2
     have c2 : Sy.Fn Tryz.prog 252 [aQ a,aQ b,aD (dd p q)] (.tup [.agg [iv 0,iv 0,iv 0],bv false]):=c2
     (refine go_g c2 ?_;try exact tTI)
     refine W_cond (by rfl) (fun h=>by cases h) (fun _=>?_)
     (refine go0 ?_;try exact tTI)
     refine ⟨_,_,rfl,rfl,?_⟩
     (refine sy1 ?_;try exact tTI)
     (refine go0 ?_;try exact tTI)
     refine W_cond (by rfl) (fun h=>by cases h) (fun _=>?_)
     (refine go0 ?_;try exact tTI)
     refine ⟨i + 1,⟨by omega,?_⟩,by omega,by rfl,?_⟩
     ·rw [hsu,fdD_app,hpi,hfe];rfl
     (refine syE ?_;try exact tTI)
   ·obtain rfl : i = h.length:=by omega
    obtain ⟨u1,u2⟩:=hup hpi
    (refine go0 ?_;try exact tTI)
    refine ⟨_,_,rfl,rfl,⟨_,_,rfl,by rw [hR.st];simp,?_⟩⟩
    rw [hR.pe]
    (refine syN ?_;try exact tTI)
    (refine go0 ?_;try exact tTI)
    refine ⟨j + 1,⟨by omega,u1,u2⟩,by omega,by rfl,?_⟩
    (refine syE ?_;try exact tTI)
  ·have e2 : j = 2:=by omega
   subst e2
   obtain rfl : F = none:=by rw [ed,hp1 (by omega),hp2 (by omega)];rfl
   (refine go0 ?_;try exact tTI)
   exact W_ret ⟨[_,_],⟨⟨by simp,rfl⟩,⟨by simp,rfl⟩,rfl⟩,rfl⟩
theorem tvL_lit (a : List Pt) (o : Option Dr) : ∃ x y k,tvL a o = [iv x,iv y,iv k]:=by cases o <;> exact ⟨_,_,_,rfl⟩
theorem fn157 (a b : List Pt) (ha : ∀ p ∈ a,bd p) (hb : ∀ p ∈ b,bd p) (la : 0 < a.length ∧ a.length ≤ 1000000) (lb : 0 < b.length ∧ b.length ≤ 1000000) :
  Sy.Fn Tryz.prog 157 [aQ a,aQ b] (bv (apB a b)):=by
 refine Fn_of_W mixed Xt157 rfl ?_
 have c:=fn224 a b ha hb la lb
 obtain ⟨x,y,k,e⟩:=tvL_lit a (fdD a b (drL a b))
 rw [e] at c
 generalize apB a b = B at *
 (refine go_c c ?_;try exact tTI)
 exact W_ret ⟨[_],⟨rfl,rfl⟩,rfl⟩
def gr4 (t : Int) (p : Pt) : List Pt:=[⟨p.x + (0 - t),p.y + (0 - t)⟩,⟨p.x + (0 - t),p.y + t⟩,⟨p.x + t,p.y + (0 - t)⟩,⟨p.x + t,p.y + t⟩]
abbrev gr4d (t : Int) : List AV:=[iv (0 - t),iv (0 - t),iv (0 - t),iv t,iv t,iv (0 - t),iv t,iv t]
def grL (t : Int) (h : List Pt) : List Pt:=h.flatMap (gr4 t)
def grN (t : Int) (h : List Pt) (n : Nat) : List Pt:=(h.take n).flatMap (gr4 t)
theorem grN_succ (t : Int) (h : List Pt) {n : Nat} (hn : n < h.length) : grN t h (n + 1) = grN t h n ++ gr4 t (h.getD n dQ):=by
 unfold grN
 rw [List.take_succ_eq_append_getElem hn,List.flatMap_append]
 simp [List.getD,hn]
theorem grN_len (t : Int) (h : List Pt) : ∀ n,(grN t h n).length ≤ 4 * n
 |0=>by simp [grN]
 |n + 1=>by
  by_cases hn : n < h.length
  ·rw [grN_succ t h hn,List.length_append]
   have:=grN_len t h n
   show _ + 4 ≤ _;omega
  ·have e : grN t h (n + 1) = grN t h n:=by unfold grN;rw [List.take_of_length_le (by omega),List.take_of_length_le (by omega)]
   rw [e]
   have:=grN_len t h n
   omega
theorem grL_len (t : Int) (h : List Pt) : (grL t h).length = 4 * h.length:=by
 unfold grL
 induction h with
 |nil=>rfl
 |cons p r ih=>rw [List.flatMap_cons,List.length_append,ih,List.length_cons];show 4 + _ = _;omega
theorem grL_bd {t : Int} {h : List Pt} (ht : 0 ≤ t ∧ t ≤ 33554432) (hh : ∀ p ∈ h,okQ p = true) : ∀ p ∈ grL t h,bd p:=by
 intro p hp
 unfold grL at hp
 rw [List.mem_flatMap] at hp
 obtain ⟨q,hq,hp⟩:=hp
 have:=okQ_iff.1 (hh q hq)
 unfold gr4 at hp
 simp only [List.mem_cons,List.not_mem_nil,or_false] at hp
 rcases hp with rfl | rfl | rfl | rfl <;> (unfold bd;dsimp only;omega)
theorem fn158 (h : List Pt) (t : Int) (hh : ∀ p ∈ h,okQ p = true) (hl : 0 < h.length ∧ h.length ≤ 3) (ht : 0 ≤ t ∧ t ≤ 33554432) :
  Sy.Fn Tryz.prog 158 [aQ h,iv t] (aQ (crn (grL t h))):=by
 refine Fn_of_W mixed Xt158 rfl ?_
 have c155:=fn155 (grL t h) (grL_bd ht hh) (by rw [grL_len];omega)
 (refine go0 ?_;try exact tTI)
 refine W_le (le_adopt 5 30 2 dQ cPt (by omega) rfl) ?_
 (refine sy1 ?_;try exact tTI)
 refine W_loopU (fun i : Nat=>[(12,iv i),(5,.row 5 (grN t h i).length)]) (fun i=>[(5,.row (grN t h i).length 30 2 dQ cPt (grN t h i))]) (fun i=>i ≤ h.length) (fun i=>h.length - i) 0 (Nat.zero_le _) (by rfl) (by rfl) (fun i hi=>?_)
 have hgl:=grN_len t h i
 (refine sy1 ?_;try exact tTI)
 (refine go0 ?_;try exact tTI)
 refine W_condD (by rfl) (fun h5=>?_) (fun h5=>?_)
 ·have hlt : i < h.length:=by omega
  have hsu:=grN_succ t h hlt
  have hp:=okQ_iff.1 (hh _ (getQ_mem hlt))
  generalize hpp : h.getD i dQ = p at *
  generalize grN t h i = L at *
  (refine gof hpp ?_;try exact tTI)
  refine W_loopU (fun k : Nat=>[(33,iv k),(5,.row 5 (L ++ (gr4 t p).take k).length)]) (fun k=>[(5,.row (L ++ (gr4 t p).take k).length 30 2 dQ cPt (L ++ (gr4 t p).take k))]) (fun k=>k ≤ 4) (fun k=>4 - k) 0 (Nat.zero_le _) (by rfl) (by rw [List.take_zero,List.append_nil];rfl) (fun k hk=>?_)
  have hkl : (L ++ (gr4 t p).take k).length ≤ 100:=by
   rw [List.length_append,List.length_take]
   show L.length + min k 4 ≤ _;omega
  (refine sy1 ?_;try exact tTI)
  (refine go0 ?_;try exact tTI)
  refine W_condD (by rfl) (fun h6=>?_) (fun h6=>?_)
  ·have hs : L ++ (gr4 t p).take (k + 1) = (L ++ (gr4 t p).take k) ++ [(gr4 t p).getD k dQ]:=by
    rcases (show k = 0 ∨ k = 1 ∨ k = 2 ∨ k = 3 by omega) with rfl | rfl | rfl | rfl <;> (rw [List.append_assoc];rfl)
   obtain ⟨dx,dy,e1,e3,hdx⟩ : ∃ dx dy,List.take 2 (List.drop (k * 2) (gr4d t)) = [iv dx,iv dy] ∧ (gr4 t p).getD k dQ = ⟨p.x + dx,p.y + dy⟩ ∧ (-33554432 ≤ dx ∧ dx ≤ 33554432 ∧ -33554432 ≤ dy ∧ dy ≤ 33554432):=by
    rcases (show k = 0 ∨ k = 1 ∨ k = 2 ∨ k = 3 by omega) with rfl | rfl | rfl | rfl <;> exact ⟨_,_,rfl,rfl,by omega⟩
   rw [e3] at hs
   generalize L ++ (gr4 t p).take k = M at *
   (refine gof e1 ?_;try exact tTI)
   refine ⟨rfl,trivial,Pt,dQ,cPt,[⟨p.x + dx,p.y + dy⟩],rfl,by omega,fun x _=>⟨rfl,rfl⟩,rfl,?_⟩
   (refine sy1 ?_;try exact tTI)
   refine ⟨rfl,⟨Nat.le_of_ble_eq_true rfl,rfl⟩,trivial,[(⟨p.x + dx,p.y + dy⟩ : Pt)],rfl,by first | omega | (simp;omega),by first | omega | (simp;omega),?_⟩
   (refine sy1 ?_;try exact tTI)
   (refine go0 ?_;try exact tTI)
   refine ⟨k + 1,by omega,by omega,by rfl,?_⟩
   rw [hs,List.length_append]
   (refine syE ?_;try exact tTI)
  ·have e4 : k = 4:=by omega
   subst e4
   have hs : L ++ (gr4 t p).take 4 = L ++ gr4 t p:=rfl
   rw [hs,← hsu]
   (refine go0 ?_;try exact tTI)
   refine ⟨i + 1,by omega,by omega,by rfl,?_⟩
   (refine syE ?_;try exact tTI)
 ·have e4 : i = h.length:=by omega
  subst e4
  have hs : grN t h h.length = grL t h:=by unfold grN grL;rw [List.take_length]
  rw [hs]
  refine w1e ?_
  (refine sy1 ?_;try exact tTI)
  refine w1g ?_
  refine W_le (le_frzR 5 [] [] 8 5 (grL t h).length 30 2 dQ cPt (grL t h) rfl rfl rfl rfl) ?_
  (refine sy1 ?_;try exact tTI)
  (refine go_c c155 ?_;try exact tTI)
  exact W_ret ⟨[_],⟨rfl,rfl⟩,rfl⟩
theorem fn251 (a : List Pt) (la : a.length ≤ 1000000) : Sy.Fn Tryz.prog 251 [aQ a,aQ a] (bv true):=by
 refine Fn_of_W mixed Xt251 rfl ?_
 (refine go0 ?_;try exact tTI)
 refine W_cond (by rfl) (fun h=>absurd h (by simp)) (fun _=>?_)
 (refine go0 ?_;try exact tTI)
 refine W_loopU (fun i : Nat=>[(13,iv i)]) (fun i=>[]) (fun i=>i ≤ a.length) (fun i=>a.length - i) 0 (Nat.zero_le _) (by rfl) (by rfl) (fun i hi=>?_)
 (refine sy1 ?_;try exact tTI)
 (refine go0 ?_;try exact tTI)
 refine W_condD (by rfl) (fun h5=>?_) (fun h5=>?_)
 ·have hlt : i < a.length:=by omega
  generalize hpp : a.getD i dQ = p at *
  (refine gof hpp ?_;try exact tTI)
  refine W_cond (by rfl) (fun h=>absurd h (by simp)) (fun _=>?_)
  (refine go0 ?_;try exact tTI)
  refine ⟨i + 1,by omega,by omega,by rfl,?_⟩
  (refine syE ?_;try exact tTI)
 ·(refine go0 ?_;try exact tTI)
  exact W_ret ⟨[_],⟨rfl,rfl⟩,rfl⟩
structure Hul (l : List Pt) : Prop where
 ok : l.all okQ = true
 n : 0 < l.length ∧ l.length ≤ 12
 eq : crn l = l
theorem okQ_bd {p : Pt} (h : okQ p = true) : bd p:=by
 have:=okQ_iff.1 h
 unfold bd;omega
theorem Hul.mem {l : List Pt} (h : Hul l) {p : Pt} (hp : p ∈ l) : okQ p = true:=List.all_eq_true.1 h.ok p hp
theorem fn223 (l : List Pt) (h : Hul l) : Sy.Fn Tryz.prog 223 [aQ l] (bv true):=by
 refine Fn_of_W mixed Xt223 rfl ?_
 obtain ⟨h1,h2,h3⟩:=h
 have c32:=fn32 [l] (by simp) (fun i hi=>by
  obtain rfl : i = 0:=by simpa using hi
  exact ⟨by show l.length ≤ 256;omega,h1⟩)
 have c155:=fn155 l (fun x hx=>okQ_bd (List.all_eq_true.1 h1 x hx)) h2
 rw [h3] at c155
 have c251:=fn251 l (by omega)
 have hp : decide ((0 : Int) < (l.length : Int)) = true:=decide_eq_true (by omega)
 repeat (first | refine WK_go ?_ | refine W_seqL ?_ | refine W_seq ?_ | refine W_block ?_)
 refine W_regL ?_
 (refine sy1 ?_;try exact tTI)
 repeat (first | refine WK_go ?_ | refine W_seqL ?_ | refine W_seq ?_ | refine W_block ?_)
 refine W_regG [5] ?_
 simp (maxSteps:=400000) (disch:=omega) only [push_cast,↓reduceIte,reduceCtorEq,Nat.reduceAdd,Nat.reduceSub,Nat.reduceEqDiff,Nat.reduceLeDiff,Nat.reduceLT,Nat.reduceBEq,Nat.reduceDiv,Nat.reduceMod,Nat.reducePow,Nat.reduceMul,Int.reduceToNat,Int.reduceLT,Int.reduceLE,hp,chainG,List.take_succ_cons,List.take_zero,List.drop_succ_cons,List.drop_zero]
 refine SpG_go rfl (by simp [underAll,under,covers,findL,R.uops,R.opds,ev,lk]) rfl ?_
 simp (maxSteps:=400000) (disch:=omega) only [push_cast,↓reduceIte,reduceCtorEq,Nat.reduceAdd,Nat.reduceSub,Nat.reduceEqDiff,Nat.reduceLeDiff,Nat.reduceLT,Nat.reduceBEq,Nat.reduceDiv,Nat.reduceMod,Nat.reducePow,Nat.reduceMul,Int.reduceToNat,Int.reduceLT,Int.reduceLE,chainG]
 refine ⟨rfl,trivial,(List Pt),[],cQ1,[l],rfl,by omega,fun x _=>⟨rfl,rfl⟩,rfl,?_⟩
 (refine sy1 ?_;try exact tTI)
 repeat' (first | refine w1g ?_ | refine w1l ?_ | refine w1q ?_ | refine w1b ?_ | refine w1p ?_ | ((first | refine w1r ?_ | refine w1k ?_ | refine w1e ?_ | refine CallC.go _ (fun _=>⟨trivial,c32⟩) rfl ?_ | refine CallC.go _ (fun _=>⟨trivial,c155⟩) rfl ?_ | refine CallC.go _ (fun _=>⟨trivial,c251⟩) rfl ?_);(refine sy1 ?_;try exact tTI)) | refine an2 ?_ | fail)
 exact W_ret ⟨[_],⟨rfl,rfl⟩,rfl⟩
theorem fn222 (l : List Pt) (h : Hul l) : Sy.Fn Tryz.prog 222 [aQ l] (bv false):=by
 refine Fn_of_W mixed Xt222 rfl ?_
 (refine go_c (fn223 l h) ?_;try exact tTI)
 exact W_ret ⟨[_],⟨rfl,rfl⟩,rfl⟩
theorem fn250 (ll : List (List Pt)) (hl : ll.length ≤ 1000000) (h : ∀ l ∈ ll,Hul l) : Sy.Fn Tryz.prog 250 [.sl 1 [] cQ1 ll,.clo 222 [] []] (iv (-1)):=by
 refine Fn_of_W mixed Xt250 rfl ?_
 (refine go0 ?_;try exact tTI)
 refine W_loopU (fun i : Nat=>[(8,iv i)]) (fun i=>[]) (fun i=>i ≤ ll.length) (fun i=>ll.length - i) 0 (Nat.zero_le _) (by rfl) (by rfl) (fun i hi=>?_)
 (refine sy1 ?_;try exact tTI)
 (refine go0 ?_;try exact tTI)
 refine W_condD (by rfl) (fun h5=>?_) (fun h5=>?_)
 ·have hlt : i < ll.length:=by omega
  have hm : ll.getD i [] ∈ ll:=by simp only [List.getD,List.getElem?_eq_getElem hlt,Option.getD_some];exact List.getElem_mem hlt
  have c:=fn222 _ (h _ hm)
  generalize hpp : ll.getD i [] = p at *
  (refine gofc hpp c ?_;try exact tTI)
  refine W_cond (by rfl) (fun h=>by cases h) (fun _=>?_)
  (refine go0 ?_;try exact tTI)
  refine ⟨i + 1,by omega,by omega,by rfl,?_⟩
  (refine syE ?_;try exact tTI)
 ·(refine go0 ?_;try exact tTI)
  exact W_ret ⟨[_],⟨rfl,rfl⟩,rfl⟩
theorem fn221 (ll : List (List Pt)) (hl : ll.length ≤ 1000000) (h : ∀ l ∈ ll,Hul l) : Sy.Fn Tryz.prog 221 [.sl 1 [] cQ1 ll,.clo 222 [] []] (bv false):=by
 refine Fn_of_W mixed Xt221 rfl ?_
 (refine go_c (fn250 ll hl h) ?_;try exact tTI)
 exact W_ret ⟨[_],⟨rfl,rfl⟩,rfl⟩
theorem fn156 (ll : List (List Pt)) (hl : ll.length ≤ 1000000) (h : ∀ l ∈ ll,Hul l) : Sy.Fn Tryz.prog 156 [.sl 1 [] cQ1 ll] (iv 0):=by
 refine Fn_of_W mixed Xt156 rfl ?_
 have c32:=fn32 ll hl (fun i hi=>by
  have hm : ll.getD i [] ∈ ll:=by simp only [List.getD,List.getElem?_eq_getElem hi,Option.getD_some];exact List.getElem_mem hi
  have:=(h _ hm).n
  exact ⟨by omega,(h _ hm).ok⟩)
 have c221:=fn221 ll hl h
 (refine go_c c32 ?_;try exact tTI)
 refine W_cond (by rfl) (fun h=>by cases h) (fun _=>?_)
 (refine go_c c221 ?_;try exact tTI)
 refine W_cond (by rfl) (fun h=>by cases h) (fun _=>?_)
 (refine go0 ?_;try exact tTI)
 exact W_ret ⟨[_],⟨rfl,rfl⟩,rfl⟩
theorem rS_up (n : Int) : ∀ k,k ≤ 31 → (rS n k).2 + 2 ^ (64 - 2 * k) ≤ 2 ^ (64 - k)
 |0,_=>by show (0 : Int) + _ ≤ _;decide
 |k + 1,hk=>by
  have ih:=rS_up n k (by omega)
  have e1 : (2 : Int) ^ (64 - k) = 2 * 2 ^ (64 - (k + 1)):=by
   rw [show 64 - k = (64 - (k + 1)) + 1 by omega,Int.pow_succ];omega
  have e2 : (2 : Int) ^ (64 - 2 * k) = 4 * 2 ^ (62 - 2 * k):=by
   rw [show 64 - 2 * k = (62 - 2 * k) + 1 + 1 by omega,Int.pow_succ,Int.pow_succ];omega
  have e3 : 64 - 2 * (k + 1) = 62 - 2 * k:=by omega
  rw [e1,e2] at ih
  have hb : rB k = 2 ^ (62 - 2 * k):=rfl
  have h0:=rB_rng k
  rw [hb] at h0
  rw [rS_succ,e3]
  generalize rS n k = A at *
  rw [hb]
  generalize (2 : Int) ^ (62 - 2 * k) = b at *
  generalize (2 : Int) ^ (64 - (k + 1)) = a at *
  split
  ·dsimp only;omega
  ·dsimp only;omega
theorem rt_up (n : Int) (hn : 0 ≤ n) : 0 ≤ rt n ∧ rt n ≤ 4294967296:=by
 refine ⟨(rt_rng hn).1,?_⟩
 have h:=rS_up n 31 (by omega)
 have hb : rB 31 = 1:=by decide
 have e : rS n 32 = _:=rS_succ n 31
 have e2 : (2 : Int) ^ (64 - 31) = 8589934592:=by decide
 have e3 : (2 : Int) ^ (64 - 2 * 31) = 4:=by decide
 rw [e2,e3] at h
 unfold rt
 rw [e,hb]
 generalize rS n 31 = q at *
 split
 ·dsimp only;omega
 ·dsimp only;omega
def chkE (l : List Pt) : Int:=if 256 < l.length then 6 else if l.all okQ = true then 0 else 2
theorem fn114g (l : List Pt) (hl : l.length ≤ 140737488355328) : Sy.Fn Tryz.prog 32 [.sl 1 [] cQ1 [l]] (iv (chkE l)):=by
 refine Fn_of_W mixed Xt32 rfl ?_
 have hc : chkE l = if 256 < l.length then 6 else if l.all okQ = true then 0 else 2:=rfl
 (refine go0 ?_;try exact tTI)
 refine W_loopU (fun i : Nat=>[(9,iv i)]) (fun i=>[]) (fun i=>i ≤ 1 ∧ (1 ≤ i → ¬ 256 < l.length)) (fun i=>1 - i) 0 ⟨by omega,fun h=>by omega⟩ (by rfl) (by rfl) (fun i hi=>?_)
 obtain ⟨hi,hi2⟩:=hi
 (refine sy1 ?_;try exact tTI)
 (refine go0 ?_;try exact tTI)
 refine W_condD (by rfl) (fun h5=>?_) (fun h5=>?_)
 ·obtain rfl : i = 0:=by omega
  have hg0 : [l].getD 0 [] = l:=rfl
  (refine gof hg0 ?_;try exact tTI)
  refine W_condD (by rfl) (fun h6=>?_) (fun h6=>?_)
  ·rw [hc,if_pos (by omega)]
   (refine go0 ?_;try exact tTI)
   exact W_ret ⟨[_],⟨rfl,rfl⟩,rfl⟩
  (refine go0 ?_;try exact tTI)
  refine ⟨1,⟨Nat.le_refl _,fun _=>by omega⟩,by omega,by rfl,?_⟩
  (refine syE ?_;try exact tTI)
 have hlt:=hi2 (by omega)
 rw [if_neg hlt] at hc
 have c83:=fn83 l (by omega)
 (refine go0 ?_;try exact tTI)
 refine W_loopU (fun i : Nat=>[(19,iv i)]) (fun i=>[]) (fun i=>i ≤ 1 ∧ (1 ≤ i → l.all okQ = true)) (fun i=>1 - i) 0 ⟨by omega,fun h=>by omega⟩ (by rfl) (by rfl) (fun i hi=>?_)
 obtain ⟨hi,hi2⟩:=hi
 (refine sy1 ?_;try exact tTI)
 (refine go0 ?_;try exact tTI)
 refine W_condD (by rfl) (fun h6=>?_) (fun h6=>?_)
 ·obtain rfl : i = 0:=by omega
  have hg0 : [l].getD 0 [] = l:=rfl
  cases ho : l.all okQ
  ·rw [ho] at c83
   rw [hc,if_neg (by rw [ho];decide)]
   (refine gofc hg0 c83 ?_;try exact tTI)
   refine W_cond (by rfl) (fun _=>?_) (fun h=>by cases h)
   (refine go0 ?_;try exact tTI)
   exact W_ret ⟨[_],⟨rfl,rfl⟩,rfl⟩
  ·rw [ho] at c83
   (refine gofc hg0 c83 ?_;try exact tTI)
   refine W_cond (by rfl) (fun h=>by cases h) (fun _=>?_)
   (refine go0 ?_;try exact tTI)
   refine ⟨1,Nat.le_refl _,by omega,by rfl,?_⟩
   (refine syE ?_;try exact tTI)
 rw [hc,if_pos (hi2 (by omega))]
 (refine go0 ?_;try exact tTI)
 exact W_ret ⟨[_],⟨rfl,rfl⟩,rfl⟩
def farP (a b : Pt) : Int:=rt ((b.x - a.x) * (b.x - a.x) + (b.y - a.y) * (b.y - a.y))
theorem sq_rng {x : Int} (h : -33554432 ≤ x ∧ x ≤ 33554432) : 0 ≤ x * x ∧ x * x ≤ 1125899906842624:=by
 have:=abs_mul h h
 have h2 : 0 ≤ x * x:=by
  rcases Int.le_total 0 x with q | q
  ·exact Int.mul_nonneg q q
  ·exact Int.mul_nonneg_of_nonpos_of_nonpos q q
 omega
theorem far_rng {a b : Pt} (ha : okQ a = true) (hb : okQ b = true) : 0 ≤ farP a b ∧ farP a b ≤ 4294967296:=by
 have h1:=okQ_iff.1 ha
 have h2:=okQ_iff.1 hb
 have m1:=sq_rng (x:=b.x - a.x) (by omega)
 have m2:=sq_rng (x:=b.y - a.y) (by omega)
 exact rt_up _ (by omega)
theorem fn33 (a b : Pt) (ha : okQ a = true) (hb : okQ b = true) : Sy.Fn Tryz.prog 33 [.agg (cPt a),.agg (cPt b)] (iv (farP a b)):=by
 refine Fn_of_W mixed Xt33 rfl ?_
 have h1:=okQ_iff.1 ha
 have h2:=okQ_iff.1 hb
 have m1:=sq_rng (x:=b.x - a.x) (by omega)
 have m2:=sq_rng (x:=b.y - a.y) (by omega)
 have c:=fn84 ((b.x - a.x) * (b.x - a.x) + (b.y - a.y) * (b.y - a.y)) (by omega)
 have e : farP a b = rt ((b.x - a.x) * (b.x - a.x) + (b.y - a.y) * (b.y - a.y)):=rfl
 rw [e]
 (refine go_c c ?_;try exact tTI)
 exact W_ret ⟨[_],⟨rfl,rfl⟩,rfl⟩
def lnN (l : List Pt) : Nat → Int
 |0=>0
 |n + 1=>lnN l n + farP (l.getD n dQ) (l.getD (n + 1) dQ)
theorem ok_at {l : List Pt} (h : l.all okQ = true) {i : Nat} (hi : i < l.length) : okQ (l.getD i dQ) = true:=List.all_eq_true.1 h _ (getQ_mem hi)
theorem lnN_rng {l : List Pt} (h : l.all okQ = true) : ∀ n,n + 1 ≤ l.length → 0 ≤ lnN l n ∧ lnN l n ≤ 4294967296 * n
 |0,_=>by unfold lnN;omega
 |n + 1,hn=>by
  have ih:=lnN_rng h n (by omega)
  have:=far_rng (ok_at h (show n < l.length by omega)) (ok_at h (show n + 1 < l.length by omega))
  unfold lnN;omega
def lnE (l : List Pt) : Int:=if chkE l = 0 then (if l.length = 0 then 5 else 0) else chkE l
def lnV (l : List Pt) : Int:=if lnE l = 0 then lnN l (l.length - 1) else 0
theorem chkE_ok {l : List Pt} : chkE l = 0 ↔ l.length ≤ 256 ∧ l.all okQ = true:=by
 unfold chkE
 split
 ·omega
 ·split
  ·rename_i h1 h2;exact ⟨fun _=>⟨by omega,h2⟩,fun _=>rfl⟩
  ·rename_i h1 h2;exact ⟨fun h=>by omega,fun h=>absurd h.2 h2⟩
theorem fn6 (l : List Pt) (hl : l.length ≤ 140737488355328) : Sy.Fn Tryz.prog 6 [aQ l] (.tup [iv (lnV l),iv (lnE l)]):=by
 refine Fn_of_W mixed Xt6 rfl ?_
 have c32:=fn114g l hl
 by_cases h0 : chkE l = 0
 rotate_left
 ·have e : lnE l = chkE l:=by unfold lnE;rw [if_neg h0]
  have e2 : lnV l = 0:=by unfold lnV;rw [e,if_neg h0]
  rw [e,e2]
  generalize chkE l = E at *
  (refine go0 ?_;try exact tTI)
  refine ⟨rfl,trivial,(List Pt),[],cQ1,[l],rfl,by omega,fun x _=>⟨rfl,rfl⟩,rfl,?_⟩
  (refine sy1 ?_;try exact tTI)
  (refine go_g c32 ?_;try exact tTI)
  refine W_cond (by rfl) (fun _=>?_) (fun h=>absurd (by simpa using h) h0)
  (refine go0 ?_;try exact tTI)
  exact W_ret ⟨[_,_],⟨rfl,rfl,rfl⟩,rfl⟩
 obtain ⟨hn,hok⟩:=chkE_ok.1 h0
 rw [h0] at c32
 (refine go0 ?_;try exact tTI)
 refine ⟨rfl,trivial,(List Pt),[],cQ1,[l],rfl,by omega,fun x _=>⟨rfl,rfl⟩,rfl,?_⟩
 (refine sy1 ?_;try exact tTI)
 (refine go_g c32 ?_;try exact tTI)
 refine W_cond (by rfl) (fun h=>by cases h) (fun _=>?_)
 by_cases h1 : l.length = 0
 ·have e : lnE l = 5:=by unfold lnE;rw [if_pos h0,if_pos h1]
  have e2 : lnV l = 0:=by unfold lnV;rw [e];rfl
  rw [e,e2]
  have q : ((l.length : Int) == 0) = true:=by simp [h1]
  (refine gof q ?_;try exact tTI)
  refine W_cond (by rfl) (fun _=>?_) (fun h=>by cases h)
  (refine go0 ?_;try exact tTI)
  exact W_ret ⟨[_,_],⟨rfl,rfl,rfl⟩,rfl⟩
 have e : lnE l = 0:=by unfold lnE;rw [if_pos h0,if_neg h1]
 have e2 : lnV l = lnN l (l.length - 1):=by unfold lnV;rw [e];rfl
 rw [e,e2]
 have q : ((l.length : Int) == 0) = false:=by simpa using h1
 (refine gof q ?_;try exact tTI)
 refine W_cond (by rfl) (fun h=>by cases h) (fun _=>?_)
 have hdl : (l.drop 1).length = l.length - 1:=List.length_drop
 have hdg : ∀ i,(l.drop 1).getD i dQ = l.getD (i + 1) dQ:=fun i=>by simp [List.getD,Nat.add_comm 1 i]
 obtain ⟨T,hT⟩ : ∃ T,T = l.drop 1:=⟨_,rfl⟩
 rw [← hT] at hdl hdg
 have hdr : l.drop (1 : Int).toNat = T:=hT.symm
 have hdr2 : l.drop 1 = T:=hT.symm
 have hlen : l.length = T.length + 1:=by omega
 rw [← hdl]
 (refine gof (ad2 hdr hdr2) ?_;try exact tTI)
 refine W_loopU (fun n : Nat=>[(20,iv n),(5,iv (lnN l n))]) (fun n=>[]) (fun n=>n ≤ T.length) (fun n=>T.length - n) 0 (Nat.zero_le _) (by rfl) (by rfl) (fun n hn=>?_)
 have hrg:=lnN_rng hok n (by omega)
 (refine sy1 ?_;try exact tTI)
 (refine go0 ?_;try exact tTI)
 refine W_condD (by rfl) (fun h5=>?_) (fun h5=>?_)
 ·have hlt : n < T.length:=by omega
  have hsu : lnN l (n + 1) = lnN l n + farP (l.getD n dQ) (l.getD (n + 1) dQ):=rfl
  have ha:=ok_at hok (show n < l.length by omega)
  have hb:=ok_at hok (show n + 1 < l.length by omega)
  have c:=fn33 _ _ ha hb
  have hfr:=far_rng ha hb
  have hg:=hdg n
  generalize hpp : l.getD n dQ = p at *
  generalize l.getD (n + 1) dQ = r at *
  generalize farP p r = F at *
  generalize lnN l n = A at *
  (refine gofc (ad2 hpp hg) c ?_;try exact tTI)
  refine ⟨n + 1,by omega,by omega,by rfl,?_⟩
  rw [hsu]
  (refine syE ?_;try exact tTI)
 ·obtain rfl : n = T.length:=by omega
  (refine go0 ?_;try exact tTI)
  exact W_ret ⟨[_,_],⟨rfl,rfl,rfl⟩,rfl⟩
def gdE (l : List Pt) : Int:=if lnE l = 0 then (if l.length < 2 then 6 else 0) else lnE l
theorem fn37 (l : List Pt) (hl : l.length ≤ 140737488355328) : Sy.Fn Tryz.prog 37 [aQ l] (iv (gdE l)):=by
 refine Fn_of_W mixed Xt37 rfl ?_
 have c:=fn6 l hl
 have e : gdE l = if lnE l = 0 then (if l.length < 2 then 6 else 0) else lnE l:=rfl
 generalize lnE l = E at *
 generalize lnV l = V at *
 rw [e]
 (refine go_c c ?_;try exact tTI)
 by_cases h : E = 0
 ·subst h
  rw [if_pos rfl]
  refine W_cond (by rfl) (fun h=>by cases h) (fun _=>?_)
  (refine go0 ?_;try exact tTI)
  refine W_condD (by rfl) (fun h6=>?_) (fun h6=>?_)
  ·rw [if_pos (by omega)]
   (refine go0 ?_;try exact tTI)
   exact W_ret ⟨[_],⟨rfl,rfl⟩,rfl⟩
  ·rw [if_neg (by omega)]
   (refine go0 ?_;try exact tTI)
   exact W_ret ⟨[_],⟨rfl,rfl⟩,rfl⟩
 ·rw [if_neg h]
  refine W_cond (by rfl) (fun _=>?_) (fun h2=>absurd (by simpa using h2) h)
  (refine go0 ?_;try exact tTI)
  exact W_ret ⟨[_],⟨rfl,rfl⟩,rfl⟩
theorem crn2_lt {a b : Pt} (h : ltP a b = true) : crn [a,b] = [a,b]:=by
 have h2 : ltP b a = false:=sw_ltP.asym h
 have h3 : eqP b a = false:=by
  cases q : eqP b a
  ·rfl
  ·rw [eqP_iff] at q;subst q;rw [h] at h2;cases h2
 have e1 : isort ltP [a,b] = [a,b]:=by
  show (if ltP b a = true then [b,a] else [a,b]) = _
  rw [h2];rfl
 have e2 : cpt [a,b] 2 = [a,b]:=by
  show (if eqP b a = true then [a] else [a] ++ [b]) = _
  rw [h3];rfl
 unfold crn
 rw [e1]
 show (if (cpt [a,b] 2).length < 2 then cpt [a,b] 2 else (stk (cpt [a,b] 2)).dropLast ++ (stk (cpt [a,b] 2).reverse).dropLast) = _
 rw [e2];rfl
theorem crn2_gt {a b : Pt} (h : ltP b a = true) : crn [a,b] = [b,a]:=by
 have e1 : isort ltP [a,b] = [b,a]:=by
  show (if ltP b a = true then [b,a] else [a,b]) = _
  rw [h];rfl
 have e3 : isort ltP [b,a] = [b,a]:=by
  show (if ltP a b = true then [a,b] else [b,a]) = _
  rw [sw_ltP.asym h];rfl
 have:=crn2_lt h
 unfold crn at this ⊢
 rw [e1]
 rw [e3] at this
 exact this
theorem crn2_eq (a : Pt) : crn [a,a] = [a]:=by
 have h2 : ltP a a = false:=by
  cases q : ltP a a
  ·rfl
  ·exact q.symm.trans (sw_ltP.asym q)
 have h3 : eqP a a = true:=eqP_iff.2 rfl
 have e1 : isort ltP [a,a] = [a,a]:=by
  show (if ltP a a = true then [a,a] else [a,a]) = _
  rw [h2];rfl
 have e2 : cpt [a,a] 2 = [a]:=by
  show (if eqP a a = true then [a] else [a] ++ [a]) = _
  rw [h3];rfl
 unfold crn
 rw [e1]
 show (if (cpt [a,a] 2).length < 2 then cpt [a,a] 2 else (stk (cpt [a,a] 2)).dropLast ++ (stk (cpt [a,a] 2).reverse).dropLast) = _
 rw [e2];rfl
theorem ltP_tri (a b : Pt) : ltP a b = true ∨ ltP b a = true ∨ a = b:=by
 unfold ltP
 rw [decide_eq_true_eq,decide_eq_true_eq,cmpP_lt,cmpP_lt]
 by_cases h : a = b
 ·exact .inr (.inr h)
 ·have : ¬ (a.x = b.x ∧ a.y = b.y):=fun q=>h (by cases a;cases b;simp_all)
  omega
theorem sg_cases (a b : Pt) : (crn [a,b] = [a,b] ∧ ltP a b = true) ∨ (crn [a,b] = [b,a] ∧ ltP b a = true) ∨ (a = b ∧ crn [a,b] = [a]):=by
 rcases ltP_tri a b with h | h | h
 ·exact .inl ⟨crn2_lt h,h⟩
 ·exact .inr (.inl ⟨crn2_gt h,h⟩)
 ·subst h;exact .inr (.inr ⟨rfl,crn2_eq a⟩)
theorem hul2 {a b : Pt} (ha : okQ a = true) (hb : okQ b = true) : Hul (crn [a,b]) ∧ (crn [a,b]).length ≤ 2:=by
 rcases sg_cases a b with ⟨e,h⟩ | ⟨e,h⟩ | ⟨h,e⟩
 ·rw [e]
  exact ⟨⟨by simp [ha,hb],by simp,crn2_lt h⟩,by simp⟩
 ·rw [e]
  exact ⟨⟨by simp [ha,hb],by simp,crn2_lt h⟩,by simp⟩
 ·rw [e]
  exact ⟨⟨by simp [ha],by simp,rfl⟩,by simp⟩
theorem hul1 {a : Pt} (ha : okQ a = true) : Hul [a]:=⟨by simp [ha],by simp,rfl⟩
theorem fn87 (l : List Pt) (h : l.all okQ = true) (hl : 0 < l.length ∧ l.length ≤ 12) : Sy.Fn Tryz.prog 87 [aQ l] (.tup [aQ (crn l),iv 0]):=by
 refine Fn_of_W mixed Xt87 rfl ?_
 have c32:=fn114g l (by omega)
 have c155:=fn155 l (fun x hx=>okQ_bd (List.all_eq_true.1 h x hx)) hl
 rw [chkE_ok.2 ⟨by omega,h⟩] at c32
 have hq : ((l.length : Int) == 0) = false:=by
  rw [beq_eq_false_iff_ne];omega
 generalize crn l = C at *
 (refine go0 ?_;try exact tTI)
 refine ⟨rfl,trivial,(List Pt),[],cQ1,[l],rfl,by omega,fun x _=>⟨rfl,rfl⟩,rfl,?_⟩
 (refine sy1 ?_;try exact tTI)
 (refine go_g c32 ?_;try exact tTI)
 refine W_cond (by rfl) (fun h=>by cases h) (fun _=>?_)
 (refine gof hq ?_;try exact tTI)
 refine W_cond (by rfl) (fun h=>by cases h) (fun _=>?_)
 (refine go_c c155 ?_;try exact tTI)
 exact W_ret ⟨[_,_],⟨rfl,rfl,rfl⟩,rfl⟩
theorem stkR_two (l : List Pt) {n : Nat} (h : 2 ≤ n) (hn : n ≤ l.length) : 2 ≤ (stkR l n).length:=by
 obtain ⟨m,rfl⟩ : ∃ m,n = m + 1:=⟨n - 1,by omega⟩
 have h1:=(stkR_len l m (by omega)).2 (by omega)
 have h2:=popR_ne (l.getD m dQ) (stkR l m) (fun e=>by rw [e] at h1;simp at h1)
 rw [stkR_succ l (by omega),List.length_cons]
 have:=List.length_pos_iff.2 h2
 omega
theorem crn_rng (l : List Pt) (hl : 0 < l.length) : (0 < (crn l).length ∧ (crn l).length ≤ 2 * l.length) ∧ ∀ p ∈ crn l,p ∈ l:=by
 have hs:=isort_len (lt:=ltP) l
 have hm : ∀ p,p ∈ isort ltP l → p ∈ l:=fun p hp=>(isort_mem l).1 hp
 have e : crn l = if (cpt (isort ltP l) (isort ltP l).length).length < 2 then cpt (isort ltP l) (isort ltP l).length else (stk (cpt (isort ltP l) (isort ltP l).length)).dropLast ++ (stk (cpt (isort ltP l) (isort ltP l).length).reverse).dropLast:=by rw [hs];rfl
 rw [e]
 generalize isort ltP l = s at *
 have h1:=cpt_len s s.length (Nat.le_refl _)
 have h2:=cpt_ne s s.length (by omega) (Nat.le_refl _)
 have h3 : ∀ p,p ∈ cpt s s.length → p ∈ l:=fun p hp=>hm p (cpt_mem s _ (Nat.le_refl _) hp)
 generalize cpt s s.length = C at *
 have hst : ∀ D : List Pt,D.length = C.length → (∀ p,p ∈ D → p ∈ l) → 2 ≤ D.length → (1 ≤ (stk D).dropLast.length ∧ (stk D).dropLast.length ≤ D.length) ∧ ∀ p,p ∈ (stk D).dropLast → p ∈ l:=fun D hD hDm h=>by
  have a1:=stkR_len D D.length (Nat.le_refl _)
  have a2:=stkR_two D h (Nat.le_refl _)
  refine ⟨?_,fun p hp=>hDm p ?_⟩
  ·unfold stk;rw [List.length_dropLast,List.length_reverse];omega
  ·have hp:=List.dropLast_subset _ hp
   unfold stk at hp
   exact stkR_mem D _ (Nat.le_refl _) (List.mem_reverse.1 hp)
 split
 ·exact ⟨by omega,h3⟩
 ·obtain ⟨b1,b2⟩:=hst C rfl h3 (by omega)
  obtain ⟨b3,b4⟩:=hst C.reverse (by rw [List.length_reverse]) (fun p hp=>h3 p (List.mem_reverse.1 hp)) (by rw [List.length_reverse];omega)
  rw [List.length_reverse] at b3
  rw [List.length_append]
  refine ⟨by omega,fun p hp=>?_⟩
  rcases List.mem_append.1 hp with q | q
  ·exact b2 p q
  ·exact b4 p q
def bis (f : Int → Bool) : Nat → Int → Int → Int
 |0,lo,_=>lo
 |n + 1,lo,hi=>if lo < hi then (if f ((lo + hi) / 2) = true then bis f n ((lo + hi) / 2 + 1) hi else bis f n lo ((lo + hi) / 2)) else lo
theorem bis_end (f : Int → Bool) (n : Nat) {lo hi : Int} (h : ¬ lo < hi) : bis f n lo hi = lo:=by
 cases n with
 |zero=>rfl
 |succ n=>unfold bis;rw [if_neg h]
def gpF (a b : List Pt) (t : Int) : Bool:=apB (crn (grL t a)) b
def gpV (a b : List Pt) : Int:=bis (gpF a b) 26 0 33554432
theorem fn88 (a b : List Pt) (ha : Hul a) (hb : Hul b) (la : a.length ≤ 3) : Sy.Fn Tryz.prog 88 [aQ a,aQ b] (.tup [iv (gpV a b),iv 0]):=by
 refine Fn_of_W mixed Xt88 rfl ?_
 have c156:=fn156 [a,b] (by simp) (fun l hl=>by
  rcases List.mem_cons.1 hl with rfl | hl
  ·exact ha
  ·rw [List.mem_singleton] at hl;rw [hl];exact hb)
 have eg : gpV a b = bis (gpF a b) 26 0 33554432:=rfl
 have cg:=fun (t : Int) (ht : 0 ≤ t ∧ t ≤ 33554432)=>fn158 a t (fun p hp=>ha.mem hp) ⟨ha.n.1,la⟩ ht
 have hcl:=fun (t : Int)=>crn_rng (grL t a) (by rw [grL_len];have:=ha.n;omega)
 have cp:=fun (t : Int) (ht : 0 ≤ t ∧ t ≤ 33554432)=>fn157 (crn (grL t a)) b (fun p hp=>grL_bd ht (fun p hp=>ha.mem hp) p ((hcl t).2 p hp)) (fun p hp=>okQ_bd (hb.mem hp)) ⟨(hcl t).1.1,by have:=(hcl t).1;rw [grL_len] at this;omega⟩ ⟨hb.n.1,by have:=hb.n;omega⟩
 have hf : ∀ t,apB (crn (grL t a)) b = gpF a b t:=fun _=>rfl
 simp only [hf] at cp
 generalize gpF a b = F at *
 generalize gpV a b = V at *
 clear hf hcl
 (refine go0 ?_;try exact tTI)
 refine ⟨rfl,trivial,(List Pt),[],cQ1,[a,b],rfl,by omega,fun x _=>⟨rfl,rfl⟩,rfl,?_⟩
 (refine sy1 ?_;try exact tTI)
 (refine go_g c156 ?_;try exact tTI)
 refine W_cond (by rfl) (fun h=>by cases h) (fun _=>?_)
 (refine go0 ?_;try exact tTI)
 refine W_loopU (fun q : Nat × Int × Int=>[(7,iv q.2.1),(8,iv q.2.2)]) (fun q=>[]) (fun q=>(0 ≤ q.2.1 ∧ q.2.1 ≤ 33554432 ∧ 0 ≤ q.2.2 ∧ q.2.2 ≤ 33554432) ∧ q.2.2 - q.2.1 < 2 ^ q.1 ∧ V = bis F q.1 q.2.1 q.2.2) (fun q=>q.1) (26,0,33554432) ⟨by decide,by decide,eg⟩ (by rfl) (by rfl) (fun q hq=>?_)
 obtain ⟨n,lo,hi⟩:=q
 obtain ⟨hr,hpw,hV⟩:=hq
 have hr : 0 ≤ lo ∧ lo ≤ 33554432 ∧ 0 ≤ hi ∧ hi ≤ 33554432:=hr
 have hpw : hi - lo < 2 ^ n:=hpw
 have hV : V = bis F n lo hi:=hV
 (refine sy1 ?_;try exact tTI)
 (refine go0 ?_;try exact tTI)
 refine W_condD (by rfl) (fun h5=>?_) (fun h5=>?_)
 ·have h5 : lo < hi:=by omega
  obtain ⟨m,rfl⟩ : ∃ m,n = m + 1:=by
   cases n with
   |zero=>simp at hpw;omega
   |succ m=>exact ⟨m,rfl⟩
  have em : (lo + hi).tdiv 2 = (lo + hi) / 2:=Int.tdiv_eq_ediv_of_nonneg (by omega)
  have e2 : (2 : Int) ^ (m + 1) = 2 * 2 ^ m:=by rw [Int.pow_succ];omega
  rw [e2] at hpw
  rw [bis,if_pos h5] at hV
  have hmid : lo ≤ (lo + hi) / 2 ∧ (lo + hi) / 2 < hi:=by omega
  have c1:=cg ((lo + hi) / 2) (by omega)
  have c2:=cp ((lo + hi) / 2) (by omega)
  have hp1 : hi - ((lo + hi) / 2 + 1) < 2 ^ m:=by omega
  have hp2 : (lo + hi) / 2 - lo < 2 ^ m:=by omega
  have r1 : 0 ≤ lo ∧ lo ≤ 33554432 ∧ 0 ≤ (lo + hi) / 2 ∧ (lo + hi) / 2 ≤ 33554432:=by omega
  have r2 : 0 ≤ (lo + hi) / 2 + 1 ∧ (lo + hi) / 2 + 1 ≤ 33554432 ∧ 0 ≤ hi ∧ hi ≤ 33554432:=by omega
  clear cg cp
  generalize (lo + hi) / 2 = mid at *
  generalize crn (grL mid a) = X at *
  cases hF : F mid
  ·rw [hF] at c2 hV
   (refine gofcc em c1 c2 ?_;try exact tTI)
   refine W_cond (by rfl) (fun h=>by cases h) (fun _=>?_)
   (refine go0 ?_;try exact tTI)
   refine ⟨(m,lo,mid),⟨r1,hp2,hV⟩,Nat.lt_succ_self m,by rfl,?_⟩
   (refine syE ?_;try exact tTI)
  ·rw [hF] at c2 hV
   (refine gofcc em c1 c2 ?_;try exact tTI)
   refine W_cond (by rfl) (fun _=>?_) (fun h=>by cases h)
   (refine go0 ?_;try exact tTI)
   refine ⟨(m,mid + 1,hi),⟨r2,hp1,hV⟩,Nat.lt_succ_self m,by rfl,?_⟩
   (refine syE ?_;try exact tTI)
 ·rw [hV,bis_end F n (show ¬ lo < hi by omega)]
  (refine go0 ?_;try exact tTI)
  exact W_ret ⟨[_,_],⟨rfl,rfl,rfl⟩,rfl⟩
def gpP (g : List Pt) (p : Pt) (i : Nat) : Int:=gpV (crn [g.getD i dQ,g.getD (i + 1) dQ]) [p]
def offN (g : List Pt) (p : Pt) : Nat → Int × Int
 |0=>(-1,0)
 |n + 1=>if (offN g p n).1 < 0 ∨ gpP g p n < (offN g p n).1 then (gpP g p n,n) else offN g p n
def offV (g : List Pt) (p : Pt) : Int × Int:=offN g p (g.length - 1)
theorem take2 {g : List Pt} {i : Nat} (h : i + 1 < g.length) : (g.take ((i : Int) + 2).toNat).drop i = [g.getD i dQ,g.getD (i + 1) dQ]:=by
 rw [show ((i : Int) + 2).toNat = i + 2 by omega]
 apply List.ext_getElem
 ·rw [List.length_drop,List.length_take];show _ = 2;omega
 ·intro k h1 h2
  have h2 : k < 2:=h2
  rcases (show k = 0 ∨ k = 1 by omega) with rfl | rfl <;> simp [List.getD,h,show i < g.length by omega]
theorem fn39 (g : List Pt) (p : Pt) (hg : g.all okQ = true) (hl : 2 ≤ g.length ∧ g.length ≤ 256) (hp : okQ p = true) : Sy.Fn Tryz.prog 39 [aQ g,.agg (cPt p)] (.tup [iv (offV g p).1,iv (offV g p).2]):=by
 refine Fn_of_W mixed Xt39 rfl ?_
 have hgl : (g.length : Int) - 1 = ((g.length - 1 : Nat) : Int):=by omega
 (refine gof hgl ?_;try exact tTI)
 refine W_loopU (fun n : Nat=>[(16,iv n),(6,iv (offN g p n).1),(7,iv (offN g p n).2)]) (fun n=>[]) (fun n=>n ≤ g.length - 1) (fun n=>g.length - 1 - n) 0 (Nat.zero_le _) (by rfl) (by rfl) (fun n hn=>?_)
 (refine sy1 ?_;try exact tTI)
 (refine go0 ?_;try exact tTI)
 refine W_condD (by rfl) (fun h5=>?_) (fun h5=>?_)
 ·have hlt : n + 1 < g.length:=by omega
  have hsu : offN g p (n + 1) = if (offN g p n).1 < 0 ∨ gpP g p n < (offN g p n).1 then (gpP g p n,(n : Int)) else offN g p n:=rfl
  have ha:=ok_at hg (show n < g.length by omega)
  have hb:=ok_at hg hlt
  have e1 : gpP g p n = gpV (crn [g.getD n dQ,g.getD (n + 1) dQ]) [p]:=rfl
  have ht:=take2 hlt
  generalize g.getD n dQ = a at *
  generalize g.getD (n + 1) dQ = b at *
  have c87:=fn87 [a,b] (by simp [ha,hb]) (by simp)
  obtain ⟨u1,u2⟩:=hul2 ha hb
  have c88:=fn88 (crn [a,b]) [p] u1 (hul1 hp) (by omega)
  rw [← e1] at c88
  generalize gpP g p n = V at *
  generalize crn [a,b] = C at *
  generalize offN g p n = O at *
  (refine gofc ht c87 ?_;try exact tTI)
  refine ⟨rfl,trivial,Pt,dQ,cPt,[p],rfl,by omega,fun x _=>⟨rfl,rfl⟩,rfl,?_⟩
  (refine sy1 ?_;try exact tTI)
  (refine go_g c88 ?_;try exact tTI)
  by_cases hc : (decide (O.1 < 0) || decide (V < O.1)) = true
  ·refine W_cond (by rfl) (fun _=>?_) (fun h=>by rw [hc] at h;cases h)
   rw [Bool.or_eq_true,decide_eq_true_eq,decide_eq_true_eq] at hc
   rw [if_pos hc] at hsu
   (refine go0 ?_;try exact tTI)
   refine ⟨n + 1,by omega,by omega,by rfl,?_⟩
   rw [hsu]
   (refine syE ?_;try exact tTI)
  ·refine W_cond (by rfl) (fun h=>absurd h hc) (fun _=>?_)
   rw [Bool.or_eq_true,decide_eq_true_eq,decide_eq_true_eq] at hc
   rw [if_neg hc] at hsu
   (refine go0 ?_;try exact tTI)
   refine ⟨n + 1,by omega,by omega,by rfl,?_⟩
   rw [hsu]
   (refine syE ?_;try exact tTI)
 ·obtain rfl : n = g.length - 1:=by omega
  unfold offV
  (refine go0 ?_;try exact tTI)
  exact W_ret ⟨[_,_],⟨rfl,rfl,rfl⟩,rfl⟩
def ofE (g : List Pt) (p : Pt) : Int:=if gdE g = 0 then (if okQ p = true then 0 else 2) else gdE g
def ofV (g : List Pt) (p : Pt) : Int × Int:=if ofE g p = 0 then offV g p else (0,0)
theorem gdE_ok {l : List Pt} : gdE l = 0 ↔ (2 ≤ l.length ∧ l.length ≤ 256) ∧ l.all okQ = true:=by
 unfold gdE
 by_cases h : lnE l = 0
 ·rw [if_pos h]
  unfold lnE at h
  by_cases h2 : chkE l = 0
  ·have:=chkE_ok.1 h2
   split
   ·omega
   ·exact ⟨fun _=>⟨by omega,this.2⟩,fun _=>rfl⟩
  ·rw [if_neg h2] at h;exact absurd h h2
 ·rw [if_neg h]
  refine ⟨fun h2=>absurd h2 h,fun h2=>?_⟩
  exfalso;apply h
  unfold lnE
  rw [if_pos (chkE_ok.2 ⟨h2.1.2,h2.2⟩),if_neg (by omega)]
theorem fn9 (g : List Pt) (p : Pt) (hl : g.length ≤ 140737488355328) : Sy.Fn Tryz.prog 9 [aQ g,.agg (cPt p)] (.tup [iv (ofV g p).1,iv (ofV g p).2,iv (ofE g p)]):=by
 refine Fn_of_W mixed Xt9 rfl ?_
 have c37:=fn37 g hl
 have c38:=fn38 p
 by_cases h1 : gdE g = 0
 rotate_left
 ·have e : ofE g p = gdE g:=by unfold ofE;rw [if_neg h1]
  have e2 : ofV g p = (0,0):=by unfold ofV;rw [e,if_neg h1]
  rw [e,e2]
  generalize gdE g = E at *
  (refine go_c c37 ?_;try exact tTI)
  refine W_cond (by rfl) (fun _=>?_) (fun h=>absurd (by simpa using h) h1)
  (refine go0 ?_;try exact tTI)
  exact W_ret ⟨[_,_,_],⟨rfl,rfl,rfl,rfl⟩,rfl⟩
 obtain ⟨hl2,hok⟩:=gdE_ok.1 h1
 rw [h1] at c37
 (refine go_c c37 ?_;try exact tTI)
 refine W_cond (by rfl) (fun h=>by cases h) (fun _=>?_)
 by_cases h2 : okQ p = true
 rotate_left
 ·have e : ofE g p = 2:=by unfold ofE;rw [if_pos h1,if_neg h2]
  have e2 : ofV g p = (0,0):=by unfold ofV;rw [e];rfl
  rw [e,e2]
  rw [if_neg h2] at c38
  (refine go_c c38 ?_;try exact tTI)
  refine W_cond (by rfl) (fun _=>?_) (fun h=>by cases h)
  (refine go0 ?_;try exact tTI)
  exact W_ret ⟨[_,_,_],⟨rfl,rfl,rfl,rfl⟩,rfl⟩
 have e : ofE g p = 0:=by unfold ofE;rw [if_pos h1,if_pos h2]
 have e2 : ofV g p = offV g p:=by unfold ofV;rw [e];rfl
 rw [e,e2]
 rw [if_pos h2] at c38
 have c39:=fn39 g p hok hl2 h2
 generalize offV g p = O at *
 (refine go_c c38 ?_;try exact tTI)
 refine W_cond (by rfl) (fun h=>by cases h) (fun _=>?_)
 (refine go_c c39 ?_;try exact tTI)
 exact W_ret ⟨[_,_,_],⟨rfl,rfl,rfl,rfl⟩,rfl⟩
theorem exOff : ofV [⟨0,0⟩,⟨10,0⟩,⟨10,10⟩] ⟨12,6⟩ = (2,1) ∧ ofE [⟨0,0⟩,⟨10,0⟩,⟨10,10⟩] ⟨12,6⟩ = 0:=by decide +kernel
end Go.Proofs.YtgiedelaebdooaaGreat.U
