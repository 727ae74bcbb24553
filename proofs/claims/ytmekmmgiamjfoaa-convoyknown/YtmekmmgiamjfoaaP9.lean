/- The chapter's examples hold: begin, hold, end, close, tell and the plans between them. -/
import Derived.Test.YtmekmmgiamjfoaaP8
import Derived.Test.YtmekmmgiamjfoaaRows
import Derived.ShutString
namespace Go.Proofs.Ytmekmmgiamjfoaa.P
open Go Sy
set_option maxRecDepth 100000
set_option maxHeartbeats 8000000
set_option linter.unusedVariables false
set_option linter.unusedSimpArgs false
structure Clo where
 rd : ByteArray
 fr : Int
 to : Int
structure Dev where
 rp : Int
 kd : Int
 ps : Int
 mi : Int
 cs : List Int
structure Cvy where
 now : Int
 nx : Int
 mv : Bool
 bg : Int
 hd : Int
 rdy : Int
 l : List Aut
 t : Trp
 pl : List Crs
 th : List Cnt
 cl : List Clo
 rp : Int
 dv : List Dev
def dCo : Clo:=⟨dSt,0,0⟩
def dDv : Dev:=⟨0,0,0,0,[]⟩
def cCo (x : Clo) : List AV:=[stv x.rd,iv x.fr,iv x.to]
theorem nCo0 (x : Clo) : nth (cCo x) 0 = stv x.rd:=rfl
theorem nCo1 (x : Clo) : nth (cCo x) 1 = iv x.fr:=rfl
theorem nCo2 (x : Clo) : nth (cCo x) 2 = iv x.to:=rfl
theorem lCo (x : Clo) : (cCo x).length = 3:=rfl
theorem frCo (x : Clo) : frzAll (cCo x) = true:=rfl
theorem tCo (x : Clo) : List.take 3 (List.drop 0 (cCo x)) = cCo x:=rfl
theorem uCo (x : Clo) : List.take 3 (cCo x) = cCo x:=rfl
theorem iCo {m : Nat → Option Blk} {n : Nat} (x : Clo) : List.flatMap (ids m n) (cCo x) = []:=flat_frz n _ (frCo x)
theorem vCo {m : Nat → Option Blk} {n : Nat} (x : Clo) : List.map (view m n) (cCo x) = cCo x:=viewL_frz n _ (frCo x)
attribute [push_cast] nCo0 nCo1 nCo2 lCo frCo tCo uCo iCo vCo
abbrev aCo (l : List Clo) : AV:=.sl 3 dCo cCo l
def cDv (x : Dev) : List AV:=[iv x.rp,iv x.kd,iv x.ps,iv x.mi,aI x.cs]
theorem nDv0 (x : Dev) : nth (cDv x) 0 = iv x.rp:=rfl
theorem nDv1 (x : Dev) : nth (cDv x) 1 = iv x.kd:=rfl
theorem nDv2 (x : Dev) : nth (cDv x) 2 = iv x.ps:=rfl
theorem nDv3 (x : Dev) : nth (cDv x) 3 = iv x.mi:=rfl
theorem nDv4 (x : Dev) : nth (cDv x) 4 = aI x.cs:=rfl
theorem lDv (x : Dev) : (cDv x).length = 5:=rfl
theorem frDv (x : Dev) : frzAll (cDv x) = true:=rfl
theorem tDv (x : Dev) : List.take 5 (List.drop 0 (cDv x)) = cDv x:=rfl
theorem uDv (x : Dev) : List.take 5 (cDv x) = cDv x:=rfl
theorem iDv {m : Nat → Option Blk} {n : Nat} (x : Dev) : List.flatMap (ids m n) (cDv x) = []:=flat_frz n _ (frDv x)
theorem vDv {m : Nat → Option Blk} {n : Nat} (x : Dev) : List.map (view m n) (cDv x) = cDv x:=viewL_frz n _ (frDv x)
attribute [push_cast] nDv0 nDv1 nDv2 nDv3 nDv4 lDv frDv tDv uDv iDv vDv
abbrev aDv (l : List Dev) : AV:=.sl 5 dDv cDv l
def cCv (x : Cvy) : List AV:=[iv x.now,iv x.nx,bv x.mv,iv x.bg,iv x.hd,iv x.rdy,aAu x.l,iv (x.t.sz 0),iv (x.t.sz 1),iv (x.t.sz 2),iv (x.t.sz 3),iv (x.t.sz 4),iv (x.t.sz 5),aPs x.t.ps,aCr x.pl,aCt x.th,aCo x.cl,iv x.rp,aDv x.dv]
theorem nCv0 (x : Cvy) : nth (cCv x) 0 = iv x.now:=rfl
theorem nCv1 (x : Cvy) : nth (cCv x) 1 = iv x.nx:=rfl
theorem nCv2 (x : Cvy) : nth (cCv x) 2 = bv x.mv:=rfl
theorem nCv3 (x : Cvy) : nth (cCv x) 3 = iv x.bg:=rfl
theorem nCv4 (x : Cvy) : nth (cCv x) 4 = iv x.hd:=rfl
theorem nCv5 (x : Cvy) : nth (cCv x) 5 = iv x.rdy:=rfl
theorem nCv6 (x : Cvy) : nth (cCv x) 6 = aAu x.l:=rfl
theorem nCv7 (x : Cvy) : nth (cCv x) 7 = iv (x.t.sz 0):=rfl
theorem nCv8 (x : Cvy) : nth (cCv x) 8 = iv (x.t.sz 1):=rfl
theorem nCv9 (x : Cvy) : nth (cCv x) 9 = iv (x.t.sz 2):=rfl
theorem nCv10 (x : Cvy) : nth (cCv x) 10 = iv (x.t.sz 3):=rfl
theorem nCv11 (x : Cvy) : nth (cCv x) 11 = iv (x.t.sz 4):=rfl
theorem nCv12 (x : Cvy) : nth (cCv x) 12 = iv (x.t.sz 5):=rfl
theorem nCv13 (x : Cvy) : nth (cCv x) 13 = aPs x.t.ps:=rfl
theorem nCv14 (x : Cvy) : nth (cCv x) 14 = aCr x.pl:=rfl
theorem nCv15 (x : Cvy) : nth (cCv x) 15 = aCt x.th:=rfl
theorem nCv16 (x : Cvy) : nth (cCv x) 16 = aCo x.cl:=rfl
theorem nCv17 (x : Cvy) : nth (cCv x) 17 = iv x.rp:=rfl
theorem nCv18 (x : Cvy) : nth (cCv x) 18 = aDv x.dv:=rfl
theorem lCv (x : Cvy) : (cCv x).length = 19:=rfl
theorem frCv (x : Cvy) : frzAll (cCv x) = true:=rfl
theorem tCv (x : Cvy) : List.take 19 (List.drop 0 (cCv x)) = cCv x:=rfl
theorem uCv (x : Cvy) : List.take 19 (cCv x) = cCv x:=rfl
theorem iCv {m : Nat → Option Blk} {n : Nat} (x : Cvy) : List.flatMap (ids m n) (cCv x) = []:=flat_frz n _ (frCv x)
theorem vCv {m : Nat → Option Blk} {n : Nat} (x : Cvy) : List.map (view m n) (cCv x) = cCv x:=viewL_frz n _ (frCv x)
theorem tCvT (x : Cvy) : List.take 7 (List.drop 7 (cCv x)) = cTr x.t:=rfl
attribute [push_cast] tCvT
attribute [push_cast] nCv0 nCv1 nCv2 nCv3 nCv4 nCv5 nCv6 nCv7 nCv8 nCv9 nCv10 nCv11 nCv12 nCv13 nCv14 nCv15 nCv16 nCv17 nCv18 lCv frCv tCv uCv iCv vCv
abbrev pCv (c : Cvy) : AV:=.fp (cCv c) 0
theorem fn28 (c : Cvy) (h : 0 < c.pl.length) : Sy.Fn Try.prog 28 [pCv c] (bv true):=by
 refine Fn_of_W mixed Xt28 rfl ?_
 have e : decide ((0 : Int) < (c.pl.length : Int)) = true:=decide_eq_true (by omega)
 (refine gof e ?_;try exact tTI)
 trace_state
 exact W_ret ⟨[_],⟨rfl,rfl⟩,rfl⟩
def donB (c : Cvy) : Bool:=c.nx == (c.t.ps.length : Int)
theorem fn47 (c : Cvy) : Sy.Fn Try.prog 47 [pCv c] (bv (donB c)):=by
 refine Fn_of_W mixed Xt47 rfl ?_
 (refine go0 ?_;try exact tTI)
 exact W_ret ⟨[_],⟨rfl,rfl⟩,rfl⟩
def miC (c : Cvy) (i : Int) : Int:=(c.t.ps.getD i.toNat dPs).mi
theorem fn44 (c : Cvy) (i : Int) (h : 0 ≤ i ∧ i < c.t.ps.length) : Sy.Fn Try.prog 44 [pCv c,iv i] (iv (miC c i)):=by
 refine Fn_of_W mixed Xt44 rfl ?_
 (refine go0 ?_;try exact tTI)
 exact W_ret ⟨[_],⟨rfl,rfl⟩,rfl⟩
def cloB (r : ByteArray) (mi s : Int) (x : Clo) : Bool:=x.rd == r && decide (x.fr < s + mi) && decide (s < x.to)
def unS (r : ByteArray) (mi s : Int) (l : List Clo) (n : Nat) : Int:=(List.range n).foldl (fun o i=>if cloB r mi s (l.getD i dCo) = true then max o (l.getD i dCo).to else o) (-1)
theorem unS_succ (r : ByteArray) (mi s : Int) (l : List Clo) (n : Nat) : unS r mi s l (n + 1) = if cloB r mi s (l.getD n dCo) = true then max (unS r mi s l n) (l.getD n dCo).to else unS r mi s l n:=by
 unfold unS;rw [List.range_succ,List.foldl_append];rfl
def untV (c : Cvy) (i s : Int) : Int:=unS (c.t.ps.getD i.toNat dPs).rd (miC c i) s c.cl c.cl.length
structure CloOK (x : Clo) : Prop where
 r : 0 ≤ x.fr ∧ x.fr < x.to ∧ x.to ≤ 1099511627776
theorem unS_rng {r : ByteArray} {mi s : Int} {l : List Clo} (h : ∀ x ∈ l,CloOK x) : ∀ n,n ≤ l.length → -1 ≤ unS r mi s l n ∧ unS r mi s l n ≤ 1099511627776
 |0,_=>⟨Int.le_refl _,by show (-1 : Int) ≤ _;omega⟩
 |n + 1,hn=>by
  have ih:=unS_rng h n (by omega) (r:=r) (mi:=mi) (s:=s)
  rw [unS_succ]
  have:=(h _ (getD_mem' dCo l n (by omega))).r
  split <;> omega
theorem fn46 (c : Cvy) (i s : Int) (hi : 0 ≤ i ∧ i < c.t.ps.length) (hm : ∀ p ∈ c.t.ps,OkP p) (hs : 0 ≤ s ∧ s ≤ 1152921504606846976) (hl : c.cl.length ≤ 140737488355328) : Sy.Fn Try.prog 46 [pCv c,iv i,iv s] (iv (untV c i s)):=by
 refine Fn_of_W mixed Xt46 rfl ?_
 have c44:=fn44 c i hi
 have hmi:=(hm _ (getD_mem' dPs c.t.ps i.toNat (by omega))).mi
 have em : miC c i = (c.t.ps.getD i.toNat dPs).mi:=rfl
 unfold untV
 rw [← em] at hmi
 generalize miC c i = M at *
 obtain ⟨r,hr⟩ : ∃ r,(c.t.ps.getD i.toNat dPs).rd = r:=⟨_,rfl⟩
 rw [hr]
 (refine go0 ?_;try exact tTI)
 refine W_loopU (fun k : Nat=>[(15,iv k),(7,iv (unS r M s c.cl k))]) (fun k=>[]) (fun k=>k ≤ c.cl.length) (fun k=>c.cl.length - k) 0 (by omega) (by rfl) (by rfl) (fun k hk=>?_)
 (refine sy1 ?_;try exact tTI)
 (refine go0 ?_;try exact tTI)
 refine W_condD (by rfl) (fun h=>?_) (fun h=>?_)
 ·have e:=unS_succ r M s c.cl k
  obtain ⟨X,hX⟩ : ∃ X,c.cl.getD k dCo = X:=⟨_,rfl⟩
  rw [hX] at e
  have eb : cloB r M s X = (X.rd == r && decide (X.fr < s + M) && decide (s < X.to)):=rfl
  (refine gofg (ad2 hX hr) c44 ?_;try exact tTI)
  rw [← eb]
  refine W_cond (by rfl) (fun hb=>?_) (fun hb=>?_)
  ·rw [if_pos hb] at e
   (refine go0 ?_;try exact tTI)
   refine ⟨k + 1,by omega,by omega,by rfl,?_⟩
   rw [e]
   (refine syE ?_;try exact tTI)
  ·rw [hb,if_neg (by decide)] at e
   (refine go0 ?_;try exact tTI)
   refine ⟨k + 1,by omega,by omega,by rfl,?_⟩
   rw [e]
   (refine syE ?_;try exact tTI)
 ·obtain rfl : k = c.cl.length:=by omega
  (refine go0 ?_;try exact tTI)
  exact W_ret ⟨[_],⟨rfl,rfl⟩,rfl⟩
theorem fn59 (y : Cnt) (s : ByteArray) : Sy.Fn Try.prog 59 ([] ++ [.agg (cCt y)] ++ [.fp [stv s] 0]) (bv (y.th == s)):=by
 refine Fn_of_W mixed Xt59 rfl ?_
 (refine go0 ?_;try exact tTI)
 exact W_ret ⟨[_],⟨rfl,rfl⟩,rfl⟩
theorem fn27 (c : Cvy) (s : ByteArray) (hl : c.th.length ≤ 140737488355328) : Sy.Fn Try.prog 27 [pCv c,stv s] (iv (thI c.th s)):=by
 refine Fn_of_W mixed Xt27 rfl ?_
 have c58:=fn58 c.th hl 59 [] [.fp [stv s] 0] (fun y=>y.th == s) (fun y _=>fn59 y s)
 (refine go_c c58 ?_;try exact tTI)
 exact W_ret ⟨[_],⟨rfl,rfl⟩,rfl⟩
def frsV (c : Cvy) : Int:=if c.mv = true then c.nx + 1 else c.nx
theorem fn40 (c : Cvy) (h : 0 ≤ c.nx ∧ c.nx ≤ 1000000) : Sy.Fn Try.prog 40 [pCv c] (iv (frsV c)):=by
 refine Fn_of_W mixed Xt40 rfl ?_
 unfold frsV
 cases hm : c.mv
 ·repeat' (first | refine w1g ?_ | refine w1l ?_ | refine w1q ?_ | refine w1b ?_ | refine w1p ?_ | ((first | refine w1r ?_ | refine w1k ?_ | refine w1e ?_);simp (maxSteps:=400000) (disch:=omega) only [push_cast,↓reduceIte,reduceCtorEq,Nat.reduceAdd,Nat.reduceSub,Nat.reduceEqDiff,Nat.reduceLeDiff,Nat.reduceLT,Nat.reduceBEq,Nat.reduceDiv,Nat.reduceMod,Nat.reducePow,Nat.reduceMul,Int.reduceToNat,Int.reduceLT,Int.reduceLE,hm]) | refine an2 ?_ | fail)
  refine W_cond (by rfl) (fun h=>by cases h) (fun _=>?_)
  (refine go0 ?_;try exact tTI)
  exact W_ret ⟨[_],⟨rfl,rfl⟩,rfl⟩
 ·repeat' (first | refine w1g ?_ | refine w1l ?_ | refine w1q ?_ | refine w1b ?_ | refine w1p ?_ | ((first | refine w1r ?_ | refine w1k ?_ | refine w1e ?_);simp (maxSteps:=400000) (disch:=omega) only [push_cast,↓reduceIte,reduceCtorEq,Nat.reduceAdd,Nat.reduceSub,Nat.reduceEqDiff,Nat.reduceLeDiff,Nat.reduceLT,Nat.reduceBEq,Nat.reduceDiv,Nat.reduceMod,Nat.reducePow,Nat.reduceMul,Int.reduceToNat,Int.reduceLT,Int.reduceLE,hm]) | refine an2 ?_ | fail)
  refine W_cond (by rfl) (fun _=>?_) (fun h=>by cases h)
  (refine go0 ?_;try exact tTI)
  exact W_ret ⟨[_],⟨rfl,rfl⟩,rfl⟩
def freeV (c : Cvy) : Int:=if c.mv = true then max c.now (c.bg + miC c c.nx + c.hd) else max c.now c.rdy
theorem fn10 (c : Cvy) (hp : 0 < c.pl.length) (hn : c.mv = true → 0 ≤ c.nx ∧ c.nx < c.t.ps.length) (hm : ∀ p ∈ c.t.ps,OkP p) (hb : 0 ≤ c.bg ∧ c.bg ≤ 1099511627776) (hh : 0 ≤ c.hd ∧ c.hd ≤ 1099511627776) : Sy.Fn Try.prog 10 [pCv c] (iv (freeV c)):=by
 refine Fn_of_W mixed Xt10 rfl ?_
 have c28:=fn28 c hp
 unfold freeV
 cases hmv : c.mv
 ·repeat' (first | refine w1g ?_ | refine w1l ?_ | refine w1q ?_ | refine w1b ?_ | refine w1p ?_ | ((first | refine w1r ?_ | refine w1k ?_ | refine w1e ?_ | refine CallC.now (c28) ?_);simp (maxSteps:=400000) (disch:=omega) only [push_cast,↓reduceIte,reduceCtorEq,Nat.reduceAdd,Nat.reduceSub,Nat.reduceEqDiff,Nat.reduceLeDiff,Nat.reduceLT,Nat.reduceBEq,Nat.reduceDiv,Nat.reduceMod,Nat.reducePow,Nat.reduceMul,Int.reduceToNat,Int.reduceLT,Int.reduceLE,hmv]) | refine an2 ?_ | fail)
  refine W_cond (by rfl) (fun h=>by cases h) (fun _=>?_)
  repeat' (first | refine w1g ?_ | refine w1l ?_ | refine w1q ?_ | refine w1b ?_ | refine w1p ?_ | ((first | refine w1r ?_ | refine w1k ?_ | refine w1e ?_);simp (maxSteps:=400000) (disch:=omega) only [push_cast,↓reduceIte,reduceCtorEq,Nat.reduceAdd,Nat.reduceSub,Nat.reduceEqDiff,Nat.reduceLeDiff,Nat.reduceLT,Nat.reduceBEq,Nat.reduceDiv,Nat.reduceMod,Nat.reducePow,Nat.reduceMul,Int.reduceToNat,Int.reduceLT,Int.reduceLE,hmv]) | refine an2 ?_ | fail)
  refine W_cond (by rfl) (fun h=>by cases h) (fun _=>?_)
  (refine go0 ?_;try exact tTI)
  exact W_ret ⟨[_],⟨rfl,rfl⟩,rfl⟩
 ·have hn:=hn hmv
  have c44:=fn44 c c.nx hn
  have hmi:=(hm _ (getD_mem' dPs c.t.ps c.nx.toNat (by omega))).mi
  have em : miC c c.nx = (c.t.ps.getD c.nx.toNat dPs).mi:=rfl
  rw [← em] at hmi
  generalize miC c c.nx = M at *
  repeat' (first | refine w1g ?_ | refine w1l ?_ | refine w1q ?_ | refine w1b ?_ | refine w1p ?_ | ((first | refine w1r ?_ | refine w1k ?_ | refine w1e ?_ | refine CallC.now (c28) ?_);simp (maxSteps:=400000) (disch:=omega) only [push_cast,↓reduceIte,reduceCtorEq,Nat.reduceAdd,Nat.reduceSub,Nat.reduceEqDiff,Nat.reduceLeDiff,Nat.reduceLT,Nat.reduceBEq,Nat.reduceDiv,Nat.reduceMod,Nat.reducePow,Nat.reduceMul,Int.reduceToNat,Int.reduceLT,Int.reduceLE,hmv]) | refine an2 ?_ | fail)
  refine W_cond (by rfl) (fun h=>by cases h) (fun _=>?_)
  repeat' (first | refine w1g ?_ | refine w1l ?_ | refine w1q ?_ | refine w1b ?_ | refine w1p ?_ | ((first | refine w1r ?_ | refine w1k ?_ | refine w1e ?_);simp (maxSteps:=400000) (disch:=omega) only [push_cast,↓reduceIte,reduceCtorEq,Nat.reduceAdd,Nat.reduceSub,Nat.reduceEqDiff,Nat.reduceLeDiff,Nat.reduceLT,Nat.reduceBEq,Nat.reduceDiv,Nat.reduceMod,Nat.reducePow,Nat.reduceMul,Int.reduceToNat,Int.reduceLT,Int.reduceLE,hmv]) | refine an2 ?_ | fail)
  refine W_cond (by rfl) (fun _=>?_) (fun h=>by cases h)
  (refine go_c c44 ?_;try exact tTI)
  exact W_ret ⟨[_],⟨rfl,rfl⟩,rfl⟩
theorem set_self {α : Type} (d : α) (l : List α) (i : Nat) : l.set i (l.getD i d) = l:=by
 rcases Nat.lt_or_ge i l.length with h | h
 ·simp [List.getD,h]
 ·rw [List.set_eq_of_length_le h]
theorem fn43 (l : List Cnt) (hl : l.length ≤ 1000000) : Sy.Fn Try.prog 43 [aCt l] (aCt l):=by
 refine Fn_of_W mixed Xt43 rfl ?_
 repeat (first | refine WK_go ?_ | refine W_seqL ?_ | refine W_seq ?_ | refine W_block ?_)
 refine W_regL ?_
 (refine sy1 ?_;try exact tTI)
 repeat (first | refine WK_go ?_ | refine W_seqL ?_ | refine W_seq ?_ | refine W_block ?_)
 refine W_regX [1] ?_
 (refine sCS ?_;try exact tTI)
 refine ⟨[],rfl,3,Cnt,dCt,cCt,l,rfl,fun b hb=>?_⟩
 (refine sy1 ?_;try exact tTI)
 cases b
 ·refine W_cond (by rfl) (fun h=>by cases h) (fun _=>?_)
  (refine go0 ?_;try exact tTI)
  refine ⟨rfl,trivial,Cnt,dCt,cCt,[],rfl,by omega,fun x _=>⟨rfl,rfl⟩,rfl,?_⟩
  (refine sy1 ?_;try exact tTI)
  refine ⟨rfl,⟨Nat.le_of_ble_eq_true rfl,rfl⟩,trivial,l,rfl,by first | omega | (simp;omega),by first | omega | (simp;omega),?_⟩
  (refine sy1 ?_;try exact tTI)
  (refine go0 ?_;try exact tTI)
  refine W_ret ⟨[_],⟨rfl,rfl⟩,?_⟩
  (refine syP ?_;try exact tTI)
 ·refine W_cond (by rfl) (fun _=>?_) (fun h=>by cases h)
  have e : l = []:=by
   cases l with
   |nil=>rfl
   |cons x r=>have:=hb (by simp);cases this
  subst e
  (refine go0 ?_;try exact tTI)
  refine W_le (le_adopt 2 71 3 dCt cCt (by omega) rfl) ?_
  (refine sy1 ?_;try exact tTI)
  refine W_ret ⟨[_],⟨rfl,rfl⟩,?_⟩
  (refine syP ?_;try exact tTI)
theorem fn64 (l : List Int) (hl : l.length ≤ 1000000) : Sy.Fn Try.prog 64 [aI l] (aI l):=by
 refine Fn_of_W mixed Xt64 rfl ?_
 repeat (first | refine WK_go ?_ | refine W_seqL ?_ | refine W_seq ?_ | refine W_block ?_)
 refine W_regL ?_
 (refine sy1 ?_;try exact tTI)
 repeat (first | refine WK_go ?_ | refine W_seqL ?_ | refine W_seq ?_ | refine W_block ?_)
 refine W_regX [1] ?_
 (refine sCS ?_;try exact tTI)
 refine ⟨[],rfl,1,Int,0,cI,l,rfl,fun b hb=>?_⟩
 (refine sy1 ?_;try exact tTI)
 cases b
 ·refine W_cond (by rfl) (fun h=>by cases h) (fun _=>?_)
  (refine go0 ?_;try exact tTI)
  refine ⟨rfl,trivial,Int,0,cI,[],rfl,by omega,fun x _=>⟨rfl,rfl⟩,rfl,?_⟩
  (refine sy1 ?_;try exact tTI)
  refine ⟨rfl,⟨Nat.le_of_ble_eq_true rfl,rfl⟩,trivial,l,rfl,by first | omega | (simp;omega),by first | omega | (simp;omega),?_⟩
  (refine sy1 ?_;try exact tTI)
  (refine go0 ?_;try exact tTI)
  refine W_ret ⟨[_],⟨rfl,rfl⟩,?_⟩
  (refine syP ?_;try exact tTI)
 ·refine W_cond (by rfl) (fun _=>?_) (fun h=>by cases h)
  have e : l = []:=by
   cases l with
   |nil=>rfl
   |cons x r=>have:=hb (by simp);cases this
  subst e
  (refine go0 ?_;try exact tTI)
  refine W_le (le_adopt 2 3 1 0 cI (by omega) rfl) ?_
  (refine sy1 ?_;try exact tTI)
  refine W_ret ⟨[_],⟨rfl,rfl⟩,?_⟩
  (refine syP ?_;try exact tTI)
theorem fn55 (l : List ByteArray) (hl : l.length ≤ 1000000) : Sy.Fn Try.prog 55 [aSt l] (aSt l):=by
 refine Fn_of_W mixed Xt55 rfl ?_
 repeat (first | refine WK_go ?_ | refine W_seqL ?_ | refine W_seq ?_ | refine W_block ?_)
 refine W_regL ?_
 (refine sy1 ?_;try exact tTI)
 repeat (first | refine WK_go ?_ | refine W_seqL ?_ | refine W_seq ?_ | refine W_block ?_)
 refine W_regX [1] ?_
 (refine sCS ?_;try exact tTI)
 refine ⟨[],rfl,1,ByteArray,dSt,cSt,l,rfl,fun b hb=>?_⟩
 (refine sy1 ?_;try exact tTI)
 cases b
 ·refine W_cond (by rfl) (fun h=>by cases h) (fun _=>?_)
  (refine go0 ?_;try exact tTI)
  refine ⟨rfl,trivial,ByteArray,dSt,cSt,[],rfl,by omega,fun x _=>⟨rfl,rfl⟩,rfl,?_⟩
  (refine sy1 ?_;try exact tTI)
  refine ⟨rfl,⟨Nat.le_of_ble_eq_true rfl,rfl⟩,trivial,l,rfl,by first | omega | (simp;omega),by first | omega | (simp;omega),?_⟩
  (refine sy1 ?_;try exact tTI)
  (refine go0 ?_;try exact tTI)
  refine W_ret ⟨[_],⟨rfl,rfl⟩,?_⟩
  (refine syP ?_;try exact tTI)
 ·refine W_cond (by rfl) (fun _=>?_) (fun h=>by cases h)
  have e : l = []:=by
   cases l with
   |nil=>rfl
   |cons x r=>have:=hb (by simp);cases this
  subst e
  (refine go0 ?_;try exact tTI)
  refine W_le (le_adopt 2 9 1 dSt cSt (by omega) rfl) ?_
  (refine sy1 ?_;try exact tTI)
  refine W_ret ⟨[_],⟨rfl,rfl⟩,?_⟩
  (refine syP ?_;try exact tTI)
theorem fn56 (l : List Whn) (hl : l.length ≤ 1000000) : Sy.Fn Try.prog 56 [aWh l] (aWh l):=by
 refine Fn_of_W mixed Xt56 rfl ?_
 repeat (first | refine WK_go ?_ | refine W_seqL ?_ | refine W_seq ?_ | refine W_block ?_)
 refine W_regL ?_
 (refine sy1 ?_;try exact tTI)
 repeat (first | refine WK_go ?_ | refine W_seqL ?_ | refine W_seq ?_ | refine W_block ?_)
 refine W_regX [1] ?_
 (refine sCS ?_;try exact tTI)
 refine ⟨[],rfl,2,Whn,dWh,cWh,l,rfl,fun b hb=>?_⟩
 (refine sy1 ?_;try exact tTI)
 cases b
 ·refine W_cond (by rfl) (fun h=>by cases h) (fun _=>?_)
  (refine go0 ?_;try exact tTI)
  refine ⟨rfl,trivial,Whn,dWh,cWh,[],rfl,by omega,fun x _=>⟨rfl,rfl⟩,rfl,?_⟩
  (refine sy1 ?_;try exact tTI)
  refine ⟨rfl,⟨Nat.le_of_ble_eq_true rfl,rfl⟩,trivial,l,rfl,by first | omega | (simp;omega),by first | omega | (simp;omega),?_⟩
  (refine sy1 ?_;try exact tTI)
  (refine go0 ?_;try exact tTI)
  refine W_ret ⟨[_],⟨rfl,rfl⟩,?_⟩
  (refine syP ?_;try exact tTI)
 ·refine W_cond (by rfl) (fun _=>?_) (fun h=>by cases h)
  have e : l = []:=by
   cases l with
   |nil=>rfl
   |cons x r=>have:=hb (by simp);cases this
  subst e
  (refine go0 ?_;try exact tTI)
  refine W_le (le_adopt 2 100 2 dWh cWh (by omega) rfl) ?_
  (refine sy1 ?_;try exact tTI)
  refine W_ret ⟨[_],⟨rfl,rfl⟩,?_⟩
  (refine syP ?_;try exact tTI)
theorem fn24 (l : List Psg) (hl : l.length ≤ 1000000) : Sy.Fn Try.prog 24 [aPs l] (aPs l):=by
 refine Fn_of_W mixed Xt24 rfl ?_
 repeat (first | refine WK_go ?_ | refine W_seqL ?_ | refine W_seq ?_ | refine W_block ?_)
 refine W_regL ?_
 (refine sy1 ?_;try exact tTI)
 repeat (first | refine WK_go ?_ | refine W_seqL ?_ | refine W_seq ?_ | refine W_block ?_)
 refine W_regX [1] ?_
 (refine sCS ?_;try exact tTI)
 refine ⟨[],rfl,3,Psg,dPs,cPs,l,rfl,fun b hb=>?_⟩
 (refine sy1 ?_;try exact tTI)
 cases b
 ·refine W_cond (by rfl) (fun h=>by cases h) (fun _=>?_)
  (refine go0 ?_;try exact tTI)
  refine ⟨rfl,trivial,Psg,dPs,cPs,[],rfl,by omega,fun x _=>⟨rfl,rfl⟩,rfl,?_⟩
  (refine sy1 ?_;try exact tTI)
  refine ⟨rfl,⟨Nat.le_of_ble_eq_true rfl,rfl⟩,trivial,l,rfl,by first | omega | (simp;omega),by first | omega | (simp;omega),?_⟩
  (refine sy1 ?_;try exact tTI)
  (refine go0 ?_;try exact tTI)
  refine W_ret ⟨[_],⟨rfl,rfl⟩,?_⟩
  (refine syP ?_;try exact tTI)
 ·refine W_cond (by rfl) (fun _=>?_) (fun h=>by cases h)
  have e : l = []:=by
   cases l with
   |nil=>rfl
   |cons x r=>have:=hb (by simp);cases this
  subst e
  (refine go0 ?_;try exact tTI)
  refine W_le (le_adopt 2 69 3 dPs cPs (by omega) rfl) ?_
  (refine sy1 ?_;try exact tTI)
  refine W_ret ⟨[_],⟨rfl,rfl⟩,?_⟩
  (refine syP ?_;try exact tTI)
theorem fo43 (l : List Cnt) (hl : l.length ≤ 1000000) : FnO Try.prog 43 [aCt l] 71 3 dCt cCt l:=by
 refine FnO_of_W mixed Xt43 rfl (fun x _=>rfl) ?_
 repeat (first | refine WK_go ?_ | refine W_seqL ?_ | refine W_seq ?_ | refine W_block ?_)
 refine W_regL ?_
 (refine sy1 ?_;try exact tTI)
 repeat (first | refine WK_go ?_ | refine W_seqL ?_ | refine W_seq ?_ | refine W_block ?_)
 refine W_regX [1] ?_
 (refine sCS ?_;try exact tTI)
 refine ⟨[],rfl,3,Cnt,dCt,cCt,l,rfl,fun b hb=>?_⟩
 (refine sy1 ?_;try exact tTI)
 cases b
 ·refine W_cond (by rfl) (fun h=>by cases h) (fun _=>?_)
  (refine go0 ?_;try exact tTI)
  refine ⟨rfl,trivial,Cnt,dCt,cCt,[],rfl,by omega,fun x _=>⟨rfl,rfl⟩,rfl,?_⟩
  (refine sy1 ?_;try exact tTI)
  refine ⟨rfl,⟨Nat.le_of_ble_eq_true rfl,rfl⟩,trivial,l,rfl,by first | omega | (simp;omega),by first | omega | (simp;omega),?_⟩
  (refine sy1 ?_;try exact tTI)
  exact W_ret ⟨_,_,⟨rfl,rfl⟩,rfl⟩
 ·refine W_cond (by rfl) (fun _=>?_) (fun h=>by cases h)
  have e : l = []:=by
   cases l with
   |nil=>rfl
   |cons x r=>have:=hb (by simp);cases this
  subst e
  (refine go0 ?_;try exact tTI)
  refine W_le (le_adopt 2 71 3 dCt cCt (by omega) rfl) ?_
  (refine sy1 ?_;try exact tTI)
  exact W_ret ⟨_,_,⟨rfl,rfl⟩,rfl⟩
theorem fr95 (l : List Aut) (hl : l.length ≤ 1000000) : FnR Try.prog 53 [aAu l] 31 4 dAu cAu l:=by
 refine FnR_of_W mixed Xt53 rfl ?_
 repeat (first | refine WK_go ?_ | refine W_seqL ?_ | refine W_seq ?_ | refine W_block ?_)
 refine W_regL ?_
 (refine sy1 ?_;try exact tTI)
 repeat (first | refine WK_go ?_ | refine W_seqL ?_ | refine W_seq ?_ | refine W_block ?_)
 refine W_regX [1] ?_
 (refine sCS ?_;try exact tTI)
 refine ⟨[],rfl,4,Aut,dAu,cAu,l,rfl,fun b hb=>?_⟩
 (refine sy1 ?_;try exact tTI)
 cases b
 ·refine W_cond (by rfl) (fun h=>by cases h) (fun _=>?_)
  (refine go0 ?_;try exact tTI)
  refine ⟨rfl,trivial,Aut,dAu,cAu,[],rfl,by omega,fun x _=>⟨rfl,rfl⟩,rfl,?_⟩
  (refine sy1 ?_;try exact tTI)
  refine ⟨rfl,⟨Nat.le_of_ble_eq_true rfl,rfl⟩,trivial,l,rfl,by first | omega | (simp;omega),by first | omega | (simp;omega),?_⟩
  (refine sy1 ?_;try exact tTI)
  exact W_ret ⟨_,_,⟨rfl,rfl⟩,rfl⟩
 ·refine W_cond (by rfl) (fun _=>?_) (fun h=>by cases h)
  have e : l = []:=by
   cases l with
   |nil=>rfl
   |cons x r=>have:=hb (by simp);cases this
  subst e
  (refine go0 ?_;try exact tTI)
  refine W_le (le_adopt 2 31 4 dAu cAu (by omega) rfl) ?_
  (refine sy1 ?_;try exact tTI)
  exact W_ret ⟨_,_,⟨rfl,rfl⟩,rfl⟩
theorem fr96 (l : List Rul) (hl : l.length ≤ 1000000) : FnR Try.prog 54 [aRu l] 104 11 dRu cRu l:=by
 refine FnR_of_W mixed Xt54 rfl ?_
 repeat (first | refine WK_go ?_ | refine W_seqL ?_ | refine W_seq ?_ | refine W_block ?_)
 refine W_regL ?_
 (refine sy1 ?_;try exact tTI)
 repeat (first | refine WK_go ?_ | refine W_seqL ?_ | refine W_seq ?_ | refine W_block ?_)
 refine W_regX [1] ?_
 (refine sCS ?_;try exact tTI)
 refine ⟨[],rfl,11,Rul,dRu,cRu,l,rfl,fun b hb=>?_⟩
 (refine sy1 ?_;try exact tTI)
 cases b
 ·refine W_cond (by rfl) (fun h=>by cases h) (fun _=>?_)
  (refine go0 ?_;try exact tTI)
  refine ⟨rfl,trivial,Rul,dRu,cRu,[],rfl,by omega,fun x _=>⟨rfl,rfl⟩,rfl,?_⟩
  (refine sy1 ?_;try exact tTI)
  refine ⟨rfl,⟨Nat.le_of_ble_eq_true rfl,rfl⟩,trivial,l,rfl,by first | omega | (simp;omega),by first | omega | (simp;omega),?_⟩
  (refine sy1 ?_;try exact tTI)
  exact W_ret ⟨_,_,⟨rfl,rfl⟩,rfl⟩
 ·refine W_cond (by rfl) (fun _=>?_) (fun h=>by cases h)
  have e : l = []:=by
   cases l with
   |nil=>rfl
   |cons x r=>have:=hb (by simp);cases this
  subst e
  (refine go0 ?_;try exact tTI)
  refine W_le (le_adopt 2 104 11 dRu cRu (by omega) rfl) ?_
  (refine sy1 ?_;try exact tTI)
  exact W_ret ⟨_,_,⟨rfl,rfl⟩,rfl⟩
theorem fr99 (l : List Crs) (hl : l.length ≤ 1000000) : FnR Try.prog 57 [aCr l] 50 2 dCr cCr l:=by
 refine FnR_of_W mixed Xt57 rfl ?_
 repeat (first | refine WK_go ?_ | refine W_seqL ?_ | refine W_seq ?_ | refine W_block ?_)
 refine W_regL ?_
 (refine sy1 ?_;try exact tTI)
 repeat (first | refine WK_go ?_ | refine W_seqL ?_ | refine W_seq ?_ | refine W_block ?_)
 refine W_regX [1] ?_
 (refine sCS ?_;try exact tTI)
 refine ⟨[],rfl,2,Crs,dCr,cCr,l,rfl,fun b hb=>?_⟩
 (refine sy1 ?_;try exact tTI)
 cases b
 ·refine W_cond (by rfl) (fun h=>by cases h) (fun _=>?_)
  (refine go0 ?_;try exact tTI)
  refine ⟨rfl,trivial,Crs,dCr,cCr,[],rfl,by omega,fun x _=>⟨rfl,rfl⟩,rfl,?_⟩
  (refine sy1 ?_;try exact tTI)
  refine ⟨rfl,⟨Nat.le_of_ble_eq_true rfl,rfl⟩,trivial,l,rfl,by first | omega | (simp;omega),by first | omega | (simp;omega),?_⟩
  (refine sy1 ?_;try exact tTI)
  exact W_ret ⟨_,_,⟨rfl,rfl⟩,rfl⟩
 ·refine W_cond (by rfl) (fun _=>?_) (fun h=>by cases h)
  have e : l = []:=by
   cases l with
   |nil=>rfl
   |cons x r=>have:=hb (by simp);cases this
  subst e
  (refine go0 ?_;try exact tTI)
  refine W_le (le_adopt 2 50 2 dCr cCr (by omega) rfl) ?_
  (refine sy1 ?_;try exact tTI)
  exact W_ret ⟨_,_,⟨rfl,rfl⟩,rfl⟩
theorem fr123 (l : List Dev) (hl : l.length ≤ 1000000) : FnR Try.prog 63 [aDv l] 47 5 dDv cDv l:=by
 refine FnR_of_W mixed Xt63 rfl ?_
 repeat (first | refine WK_go ?_ | refine W_seqL ?_ | refine W_seq ?_ | refine W_block ?_)
 refine W_regL ?_
 (refine sy1 ?_;try exact tTI)
 repeat (first | refine WK_go ?_ | refine W_seqL ?_ | refine W_seq ?_ | refine W_block ?_)
 refine W_regX [1] ?_
 (refine sCS ?_;try exact tTI)
 refine ⟨[],rfl,5,Dev,dDv,cDv,l,rfl,fun b hb=>?_⟩
 (refine sy1 ?_;try exact tTI)
 cases b
 ·refine W_cond (by rfl) (fun h=>by cases h) (fun _=>?_)
  (refine go0 ?_;try exact tTI)
  refine ⟨rfl,trivial,Dev,dDv,cDv,[],rfl,by omega,fun x _=>⟨rfl,rfl⟩,rfl,?_⟩
  (refine sy1 ?_;try exact tTI)
  refine ⟨rfl,⟨Nat.le_of_ble_eq_true rfl,rfl⟩,trivial,l,rfl,by first | omega | (simp;omega),by first | omega | (simp;omega),?_⟩
  (refine sy1 ?_;try exact tTI)
  exact W_ret ⟨_,_,⟨rfl,rfl⟩,rfl⟩
 ·refine W_cond (by rfl) (fun _=>?_) (fun h=>by cases h)
  have e : l = []:=by
   cases l with
   |nil=>rfl
   |cons x r=>have:=hb (by simp);cases this
  subst e
  (refine go0 ?_;try exact tTI)
  refine W_le (le_adopt 2 47 5 dDv cDv (by omega) rfl) ?_
  (refine sy1 ?_;try exact tTI)
  exact W_ret ⟨_,_,⟨rfl,rfl⟩,rfl⟩
theorem fn26 (l : List Crs) (hl : l.length ≤ 1000000) (hc : ∀ x ∈ l,x.th.length ≤ 1000000) : Sy.Fn Try.prog 26 [aCr l] (aCr l):=by
 refine Fn_of_W mixed Xt26 rfl ?_
 (refine go0 ?_;try exact tTI)
 refine CallC.inl (Inl_of_FnR (fr99 l hl) rfl ?_)
 (refine sy1 ?_;try exact tTI)
 (refine go0 ?_;try exact tTI)
 refine W_loopU (fun i : Nat=>[(8,iv i)]) (fun i=>[]) (fun i=>i ≤ l.length) (fun i=>l.length - i) 0 (by omega) (by rfl) (by rfl) (fun i hi=>?_)
 (refine sy1 ?_;try exact tTI)
 (refine go0 ?_;try exact tTI)
 refine W_condD (by rfl) (fun h=>?_) (fun h=>?_)
 ·have hlt : i < l.length:=by omega
  have hs:=set_self dCr l i
  have c43:=fn43 (l.getD i dCr).th (hc _ (getD_mem' dCr l i hlt))
  obtain ⟨X,hX⟩ : ∃ X,l.getD i dCr = X:=⟨_,rfl⟩
  rw [hX] at hs c43
  (refine gofc hX c43 ?_;try exact tTI)
  refine ⟨rfl,⟨Nat.le_of_ble_eq_true rfl,rfl⟩,by omega,X,(by rw [hX];rfl),rfl,?_⟩
  rw [hs]
  (refine sy1 ?_;try exact tTI)
  (refine go0 ?_;try exact tTI)
  refine ⟨i + 1,by omega,by omega,by rfl,?_⟩
  (refine syE ?_;try exact tTI)
 ·(refine go0 ?_;try exact tTI)
  refine W_ret ⟨[_],⟨rfl,rfl⟩,?_⟩
  (refine syP ?_;try exact tTI)
theorem fn38 (l : List Dev) (hl : l.length ≤ 1000000) (hc : ∀ x ∈ l,x.cs.length ≤ 1000000) : Sy.Fn Try.prog 38 [aDv l] (aDv l):=by
 refine Fn_of_W mixed Xt38 rfl ?_
 (refine go0 ?_;try exact tTI)
 refine CallC.inl (Inl_of_FnR (fr123 l hl) rfl ?_)
 (refine sy1 ?_;try exact tTI)
 (refine go0 ?_;try exact tTI)
 refine W_loopU (fun i : Nat=>[(8,iv i)]) (fun i=>[]) (fun i=>i ≤ l.length) (fun i=>l.length - i) 0 (by omega) (by rfl) (by rfl) (fun i hi=>?_)
 (refine sy1 ?_;try exact tTI)
 (refine go0 ?_;try exact tTI)
 refine W_condD (by rfl) (fun h=>?_) (fun h=>?_)
 ·have hlt : i < l.length:=by omega
  have hs:=set_self dDv l i
  have c43:=fn64 (l.getD i dDv).cs (hc _ (getD_mem' dDv l i hlt))
  obtain ⟨X,hX⟩ : ∃ X,l.getD i dDv = X:=⟨_,rfl⟩
  rw [hX] at hs c43
  (refine gofc hX c43 ?_;try exact tTI)
  refine ⟨rfl,⟨Nat.le_of_ble_eq_true rfl,rfl⟩,by omega,X,(by rw [hX];rfl),rfl,?_⟩
  rw [hs]
  (refine sy1 ?_;try exact tTI)
  (refine go0 ?_;try exact tTI)
  refine ⟨i + 1,by omega,by omega,by rfl,?_⟩
  (refine syE ?_;try exact tTI)
 ·(refine go0 ?_;try exact tTI)
  refine W_ret ⟨[_],⟨rfl,rfl⟩,?_⟩
  (refine syP ?_;try exact tTI)
def cAx : Aut × Option Value → List AV
 |(a,none)=>cAu a
 |(a,some v)=>[stv a.nm,iv a.fe,iv a.no,.v v]
def dAx : Aut × Option Value:=(dAu,none)
theorem lAx : ∀ x,(cAx x).length = 4
 |(a,none)=>rfl
 |(a,some v)=>rfl
theorem frAx : ∀ x,frzAll (cAx x) = true
 |(a,none)=>rfl
 |(a,some v)=>rfl
theorem uAx (x : Aut × Option Value) : List.take 4 (cAx x) = cAx x:=List.take_of_length_le (by rw [lAx];omega)
theorem tAx (x : Aut × Option Value) : List.take 4 (List.drop 0 (cAx x)) = cAx x:=uAx x
theorem iAx {m : Nat → Option Blk} {n : Nat} (x : Aut × Option Value) : List.flatMap (ids m n) (cAx x) = []:=flat_frz n _ (frAx x)
theorem vAx {m : Nat → Option Blk} {n : Nat} (x : Aut × Option Value) : List.map (view m n) (cAx x) = cAx x:=viewL_frz n _ (frAx x)
theorem nAx3n (a : Aut) : nth (cAx (a,none)) 3 = aRu a.ru:=rfl
theorem nAx3s (a : Aut) (v : Value) : nth (cAx (a,some v)) 3 = .v v:=rfl
attribute [push_cast] lAx frAx uAx tAx iAx vAx nAx3n nAx3s
theorem getD_set {α : Type} (d : α) (l : List α) (i : Nat) (x : α) (h : i < l.length) : (l.set i x).getD i d = x:=by simp [List.getD,h]
theorem axL (l : List Aut) (i : Nat) (h : i < l.length) : (l.map fun a=>((a,none) : Aut × Option Value)).getD i dAx = (l.getD i dAu,none):=by simp [List.getD,h]
theorem fn25 (l : List Aut) (hl : l.length ≤ 1000000) (hc : ∀ x ∈ l,x.ru.length ≤ 1000000 ∧ ∀ r ∈ x.ru,r.rd.length ≤ 1000000 ∧ r.wh.length ≤ 1000000 ∧ r.cn.length ≤ 1000000) : Sy.Fn Try.prog 25 [aAu l] (aAu l):=by
 refine Fn_of_W mixed Xt25 rfl ?_
 (refine go0 ?_;try exact tTI)
 refine CallC.inl (Inl_of_FnR (fr95 l hl) rfl ?_)
 (refine sy1 ?_;try exact tTI)
 refine W_le (leS.le (leS_rowW 2 dAx cAx (l.map fun a=>(a,none)) rfl (by rw [List.length_map]) (fun i x hx=>?_))) ?_
 ·rw [List.getElem?_map] at hx
  cases hy : l[i]? with
  |none=>rw [hy] at hx;cases hx
  |some y=>
   rw [hy] at hx
   cases hx
   exact ⟨y,rfl,rfl,fun F w vs h=>h⟩
 have hml : (l.map fun a=>((a,none) : Aut × Option Value)).length = l.length:=List.length_map _
 have hmg:=fun i h=>axL l i h
 have hms:=fun i=>set_self dAx (l.map fun a=>((a,none) : Aut × Option Value)) i
 generalize hL : (l.map fun a=>((a,none) : Aut × Option Value)) = L at *
 (refine sy1 ?_;try exact tTI)
 (refine go0 ?_;try exact tTI)
 refine W_loopU (fun i : Nat=>[(10,iv i)]) (fun i=>[]) (fun i=>i ≤ l.length) (fun i=>l.length - i) 0 (by omega) (by rfl) (by rfl) (fun i hi=>?_)
 (refine sy1 ?_;try exact tTI)
 (refine gof hml ?_;try exact tTI)
 refine W_condD (by rfl) (fun h=>?_) (fun h=>?_)
 ·have hlt : i < l.length:=by omega
  have hg:=hmg i hlt
  have hs:=hms i
  have hca:=hc _ (getD_mem' dAu l i hlt)
  obtain ⟨X,hX⟩ : ∃ X,l.getD i dAu = X:=⟨_,rfl⟩
  rw [hX] at hg hca
  rw [hg] at hs
  have r96:=fr96 X.ru hca.1
  refine w1k ?_
  (refine sy1 ?_;try exact tTI)
  repeat (first | refine w1g ?_ | refine w1l ?_ | refine w1q ?_ | refine w1b ?_)
  refine w1r ?_
  (refine sy1 ?_;try exact tTI)
  repeat (first | refine w1g ?_ | refine w1l ?_ | refine w1q ?_ | refine w1b ?_)
  refine W_regLO 8 (by decide) ?_
  simp (maxSteps:=400000) (disch:=omega) only [push_cast,↓reduceIte,reduceCtorEq,Nat.reduceAdd,Nat.reduceSub,Nat.reduceEqDiff,Nat.reduceLeDiff,Nat.reduceLT,Nat.reduceBEq,Nat.reduceDiv,Nat.reduceMod,Nat.reducePow,Nat.reduceMul,Int.reduceToNat,Int.reduceLT,Int.reduceLE,hg,List.take_succ_cons,List.take_zero]
  refine ⟨by omega,by omega,CallC.inl (Inl_of_FnR r96 rfl ?_)⟩
  (refine sy1 ?_;try exact tTI)
  refine WOL_leF (leF_row 20 18 rfl rfl) (fun p=>?_)
  obtain ⟨ad,cp⟩:=p
  refine WOL_end (by decide) ?_
  simp (maxSteps:=400000) (disch:=omega) only [push_cast,↓reduceIte,reduceCtorEq,Nat.reduceAdd,Nat.reduceSub,Nat.reduceEqDiff,Nat.reduceLeDiff,Nat.reduceLT,Nat.reduceBEq,Nat.reduceDiv,Nat.reduceMod,Nat.reducePow,Nat.reduceMul,Int.reduceToNat,Int.reduceLT,Int.reduceLE,List.drop_succ_cons,List.drop_zero]
  refine ⟨by omega,rfl,⟨Nat.le_of_ble_eq_true rfl,rfl⟩,by omega,(X,some (.slice ad X.ru.length cp)),(by rw [hg];rfl),rfl,?_⟩
  obtain ⟨L2,hL2⟩ : ∃ L2,L.set i (X,some (.slice ad X.ru.length cp)) = L2:=⟨_,rfl⟩
  have hl2 : L2.length = l.length:=by rw [← hL2,List.length_set,hml]
  have hg2 : L2.getD i dAx = (X,some (.slice ad X.ru.length cp)):=by rw [← hL2];exact getD_set _ _ _ _ (by omega)
  have hs2 : L2.set i (X,none) = L:=by rw [← hL2,List.set_set];exact hs
  rw [hL2]
  (refine sy1 ?_;try exact tTI)
  (refine gof (ad2 hl2 hg2) ?_;try exact tTI)
  refine W_loopU (fun k : Nat=>[(29,iv k)]) (fun k=>[]) (fun k=>k ≤ X.ru.length) (fun k=>X.ru.length - k) 0 (by omega) (by rfl) (by rfl) (fun k hk=>?_)
  (refine sy1 ?_;try exact tTI)
  (refine gof (ad2 hl2 hg2) ?_;try exact tTI)
  refine W_condD (by rfl) (fun h2=>?_) (fun h2=>?_)
  ·have hlk : k < X.ru.length:=by omega
   have hcr:=hca.2 _ (getD_mem' dRu X.ru k hlk)
   have hsr:=set_self dRu X.ru k
   obtain ⟨Y,hY⟩ : ∃ Y,X.ru.getD k dRu = Y:=⟨_,rfl⟩
   rw [hY] at hcr hsr
   have c55:=fn55 Y.rd hcr.1
   have c56:=fn56 Y.wh hcr.2.1
   have c43:=fn43 Y.cn hcr.2.2
   refine w1k ?_
   (refine sy1 ?_;try exact tTI)
   repeat (first | refine w1g ?_ | refine w1l ?_ | refine w1q ?_ | refine w1b ?_)
   refine w1r ?_
   (refine sy1 ?_;try exact tTI)
   repeat (first | refine w1g ?_ | refine w1l ?_ | refine w1q ?_ | refine w1b ?_)
   refine W_regLO 5 (by decide) ?_
   simp (maxSteps:=400000) (disch:=omega) only [push_cast,↓reduceIte,reduceCtorEq,Nat.reduceAdd,Nat.reduceSub,Nat.reduceEqDiff,Nat.reduceLeDiff,Nat.reduceLT,Nat.reduceBEq,Nat.reduceDiv,Nat.reduceMod,Nat.reducePow,Nat.reduceMul,Int.reduceToNat,Int.reduceLT,Int.reduceLE,hl2,hg2,List.take_succ_cons,List.take_zero]
   refine ⟨by omega,by omega,WOL_le (le_v_row 36 20 rfl rfl) (WOL_end (by decide) ?_)⟩
   simp (maxSteps:=400000) (disch:=omega) only [push_cast,↓reduceIte,reduceCtorEq,Nat.reduceAdd,Nat.reduceSub,Nat.reduceEqDiff,Nat.reduceLeDiff,Nat.reduceLT,Nat.reduceBEq,Nat.reduceDiv,Nat.reduceMod,Nat.reducePow,Nat.reduceMul,Int.reduceToNat,Int.reduceLT,Int.reduceLE,List.drop_succ_cons,List.drop_zero]
   refine ⟨by omega,?_⟩
   (refine gofccc hY c55 c56 c43 ?_;try exact tTI)
   refine ⟨rfl,⟨Nat.le_of_ble_eq_true rfl,rfl⟩,by omega,Y,(by rw [hY];rfl),rfl,?_⟩
   rw [hsr]
   (refine sy1 ?_;try exact tTI)
   refine ⟨rfl,⟨Nat.le_of_ble_eq_true rfl,rfl⟩,by omega,Y,(by rw [hY];rfl),rfl,?_⟩
   rw [hsr]
   (refine sy1 ?_;try exact tTI)
   refine ⟨rfl,⟨Nat.le_of_ble_eq_true rfl,rfl⟩,by omega,Y,(by rw [hY];rfl),rfl,?_⟩
   rw [hsr]
   (refine sy1 ?_;try exact tTI)
   (refine go0 ?_;try exact tTI)
   refine ⟨k + 1,by omega,by omega,by rfl,?_⟩
   (refine syE ?_;try exact tTI)
  ·refine w1e ?_
   (refine sy1 ?_;try exact tTI)
   repeat (first | refine w1g ?_ | refine w1l ?_ | refine w1q ?_ | refine w1b ?_)
   refine W_le (le_frzV [0,10,9] [2] 31 20 rfl rfl rfl rfl) ?_
   simp (maxSteps:=400000) (disch:=omega) only [push_cast,↓reduceIte,reduceCtorEq,Nat.reduceAdd,Nat.reduceSub,Nat.reduceEqDiff,Nat.reduceLeDiff,Nat.reduceLT,Nat.reduceBEq,Nat.reduceDiv,Nat.reduceMod,Nat.reducePow,Nat.reduceMul,Int.reduceToNat,Int.reduceLT,Int.reduceLE,keepL,keepM]
   refine W_le (le_rowV 31 2 i rfl (X,none) rfl rfl (by omega) (by rw [hg2];exact .same _ (.same _ (.same _ (.rep .nil))))) ?_
   rw [hs2]
   (refine sy1 ?_;try exact tTI)
   (refine go0 ?_;try exact tTI)
   refine ⟨i + 1,by omega,by omega,by rfl,?_⟩
   (refine syE ?_;try exact tTI)
 ·(refine go0 ?_;try exact tTI)
  refine W_le (leS.le (leS_rowW 2 dAu cAu l rfl hml.symm (fun i x hx=>?_))) ?_
  ·refine ⟨(x,none),?_,rfl,fun F w vs h=>h⟩
   rw [← hL,List.getElem?_map,hx]
   rfl
  refine W_ret ⟨[_],⟨rfl,rfl⟩,?_⟩
  (refine syP ?_;try exact tTI)
def thS (L : List Cnt) (o : List Cnt) (n : Nat) : List Cnt:=if thI o (L.getD n dCt).th < 0 then o ++ [⟨(L.getD n dCt).th,(L.getD n dCt).lo,0⟩] else o
def thN (L : List Cnt) (n : Nat) : List Cnt:=(List.range n).foldl (thS L) []
theorem thN_succ (L : List Cnt) (n : Nat) : thN L (n + 1) = thS L (thN L n) n:=by
 unfold thN;rw [List.range_succ,List.foldl_append];rfl
theorem thN_len (L : List Cnt) : ∀ n,(thN L n).length ≤ n
 |0=>Nat.le_refl _
 |n + 1=>by
  rw [thN_succ]
  have:=thN_len L n
  unfold thS
  split
  ·rw [List.length_append,List.length_singleton];omega
  ·omega
theorem bq_l {k s : Nat} (h : k < s) : (k == s) = false:=beq_eq_false_iff_ne.2 (by omega)
theorem bq_r {k s : Nat} (h : s < k) : (k == s) = false:=beq_eq_false_iff_ne.2 (by omega)
theorem ls_l {k s : Nat} {m : Mem} {b : Blk} (h : k < s) : lm (setm m s b) k = lm m k:=lm_set_other _ _ (by omega)
theorem ls_r {k s : Nat} {m : Mem} {b : Blk} (h : s < k) : lm (setm m s b) k = lm m k:=lm_set_other _ _ (by omega)
theorem tp_ok {l : List Aut} {t : Trp} {q : Int} {pl : List Crs} (h : (tpE l t q pl).2 = 0) : dskE l t = 0 ∧ inR q 0 1099511627776 = true ∧ pl.length = t.ps.length ∧ (trG (dkN l t t.ps.length) pl pl.length 0 (q + (dkN l t t.ps.length).no)).2 = 0:=by
 unfold tpE at h
 by_cases h1 : dskE l t = 0
 ·rw [if_pos h1] at h
  by_cases h2 : inR q 0 1099511627776 = true
  ·rw [if_pos h2] at h
   by_cases h3 : pl.length = t.ps.length
   ·rw [if_pos h3] at h
    exact ⟨h1,h2,h3,h⟩
   ·rw [if_neg h3] at h;cases h
  ·rw [if_neg h2] at h;cases h
 ·rw [if_neg h1] at h;exact absurd h h1
theorem fn49g (cs : List AV) (L : List Cnt) (s : ByteArray) (hn : nth cs 15 = aCt L) (h16 : 16 ≤ cs.length) (hl : L.length ≤ 140737488355328) : Sy.Fn Try.prog 27 [.fp cs 0,stv s] (iv (thI L s)):=by
 refine Fn_of_W mixed Xt27 rfl ?_
 have c58:=fn58 L hl 59 [] [.fp [stv s] 0] (fun y=>y.th == s) (fun y _=>fn59 y s)
 (refine gofc hn c58 ?_;try exact tTI)
 exact W_ret ⟨[_],⟨rfl,rfl⟩,rfl⟩
abbrev cvN (l : List Aut) (t : Trp) (pl : List Crs) (kt st : Nat) : List AV:=[iv 0,iv 0,bv false,iv 0,iv 0,iv 0,aAu l,iv (t.sz 0),iv (t.sz 1),iv (t.sz 2),iv (t.sz 3),iv (t.sz 4),iv (t.sz 5),aPs t.ps,aCr pl,.row kt st,.v (.slice none 0 0),iv 0,.v (.slice none 0 0)]
theorem i7 (l : List Aut) (t : Trp) (q : Int) (pl : List Crs) (hl : l.length ≤ 1000000) (hg : ∀ a ∈ l,GrA a) (ht : t.ps.length ≤ 1000000) (hp : pl.length ≤ 1000000) (hc : ∀ c ∈ pl,c.th.length ≤ 1000000) (h0 : (tpE l t q pl).2 = 0)
  {tm : List (Nat × AV)} {R : Mem} {nx : Nat} (hR : Opq 60 R nx) : Inl Try.prog 7 [aAu l,aTr t,iv q,aCr pl] ⟨tm,[] ++ R,nx⟩ (MidZ 60 tm nx R fun r B' R2=>B' = [] ∧ ∃ kt kc,r = .tup [.own kc 0,iv 0] ∧ nx ≤ kt ∧ nx ≤ kc ∧ kc ≠ kt ∧
   lm R2 kc = some (.cells (cvN l t pl kt (thN (pl.getD 0 dCr).th (pl.getD 0 dCr).th.length).length)) ∧ lm R2 kt = some (.row (thN (pl.getD 0 dCr).th (pl.getD 0 dCr).th.length).length 71 3 dCt cCt (thN (pl.getD 0 dCr).th (pl.getD 0 dCr).th.length))):=by
 refine Inl_opqY mixed Xt7 rfl hR (fun j hj=>rfl) (fun R' nx' hR' hnx hE=>?_)
 have hN:=hR'.n
 have c23:=fn23 l t q pl (by omega) hg (by omega) (by omega) (fun c hx=>by have:=hc c hx;omega)
 rw [h0] at c23
 obtain ⟨N1,hN1⟩ : ∃ n,(tpE l t q pl).1 = n:=⟨_,rfl⟩
 rw [hN1] at c23
 simp (maxSteps:=400000) (disch:=omega) only [push_cast,↓reduceIte,reduceCtorEq,Nat.reduceAdd,Nat.reduceSub,Nat.reduceEqDiff,Nat.reduceLeDiff,Nat.reduceLT,Nat.reduceBEq,Nat.reduceDiv,Nat.reduceMod,Nat.reducePow,Nat.reduceMul,Int.reduceToNat,Int.reduceLT,Int.reduceLE,initT]
 repeat' (first | refine w1g ?_ | refine w1l ?_ | refine w1q ?_ | refine w1b ?_ | refine w1p ?_ | ((first | refine w1r ?_ | refine w1k ?_ | refine w1e ?_ | refine CallC.now (c23) ?_);simp (maxSteps:=400000) (disch:=omega) only [push_cast,↓reduceIte,reduceCtorEq,Nat.reduceAdd,Nat.reduceSub,Nat.reduceEqDiff,Nat.reduceLeDiff,Nat.reduceLT,Nat.reduceBEq,Nat.reduceDiv,Nat.reduceMod,Nat.reducePow,Nat.reduceMul,Int.reduceToNat,Int.reduceLT,Int.reduceLE,ne_l,ne_r,bq_l,bq_r,ls_l,ls_r,lm_set_same]) | refine an2 ?_ | fail)
 refine W_cond (by rfl) (fun h=>by cases h) (fun _=>?_)
 have c24:=fn24 t.ps ht
 have c25:=fn25 l hl (fun x hx=>by
  have ha:=(allE_ok (dsk_ok (tp_ok h0).1).1).2.1 x hx
  exact ⟨by have:=ha.n;omega,fun r hr=>by have:=rulB_ok (ha.ru r hr);exact ⟨by have:=this.rd;omega,by have:=this.wh;omega,by have:=this.cn;omega⟩⟩)
 have c26:=fn26 pl hp hc
 repeat' (first | refine w1g ?_ | refine w1l ?_ | refine w1q ?_ | refine w1b ?_ | refine w1p ?_ | ((first | refine w1r ?_ | refine w1k ?_ | refine w1e ?_ | refine CallC.now (c24) ?_ | refine CallC.now (c25) ?_ | refine CallC.now (c26) ?_);simp (maxSteps:=400000) (disch:=omega) only [push_cast,↓reduceIte,reduceCtorEq,Nat.reduceAdd,Nat.reduceSub,Nat.reduceEqDiff,Nat.reduceLeDiff,Nat.reduceLT,Nat.reduceBEq,Nat.reduceDiv,Nat.reduceMod,Nat.reducePow,Nat.reduceMul,Int.reduceToNat,Int.reduceLT,Int.reduceLE,ne_l,ne_r,bq_l,bq_r,ls_l,ls_r,lm_set_same]) | refine an2 ?_ | fail)
 have hpl : 0 < pl.length:=by have:=(tp_ok h0).2.2.1;have:=(trpE_ok (dsk_ok (tp_ok h0).1).2.1).1;omega
 have hcl:=hc _ (getD_mem' dCr pl 0 hpl)
 obtain ⟨L,hL⟩ : ∃ L,(pl.getD 0 dCr).th = L:=⟨_,rfl⟩
 rw [hL] at hcl
 rw [hL]
 refine ⟨by omega,?_⟩
 generalize hkc : nx' + 1 + 1 + 1 + 1 + 1 + 1 + 1 + 1 + 1 + 1 + 1 + 1 + 1 + 1 + 1 + 1 + 1 + 1 + 1 + 1 + 1 + 1 + 1 + 1 + 1 + 1 = kc
 generalize hM1 : setm R' nx' _ = M1
 have hM1n : ∀ j,kc ≤ j → lm M1 j = none:=fun j hj=>by rw [← hM1,lm_set_other _ _ (by omega)];exact hR'.hi j (by omega)
 have hM1l : ∀ j,j < nx' → lm M1 j = lm R' j:=fun j hj=>by rw [← hM1,lm_set_other _ _ (by omega)]
 clear hM1
 refine W_le (le_adoptC kc 15 71 3 dCt cCt (by omega) _ (lm_set_same _ _ _) rfl (by simp)) ?_
 (refine sy1 ?_;try exact tTI)
 generalize hkt : kc + 1 + 1 + 1 + 1 + 1 + 1 + 1 + 1 = kt
 have T:=two_blk M1 (N0:=kt + 1) (k1:=kc) (k2:=kt) (by omega) (by omega) (by omega) (fun j hj=>hM1n j (by omega))
 have hTl : ∀ a b j,j < nx' → lm (setm (setm M1 kc a) kt b) j = lm R' j:=fun a b j hj=>by rw [lm_set_other _ _ (by omega),lm_set_other _ _ (by omega)];exact hM1l j hj
 generalize hB : (fun a b=>setm (setm M1 kc a) kt b) = B at T
 have hTl : ∀ a b j,j < nx' → lm (B a b) j = lm R' j:=fun a b j hj=>by rw [← hB];exact hTl a b j hj
 have hm0 : ∀ a b,sameM (B a b ++ []) ((kt,b) :: setm M1 kc a):=fun a b j=>by
  rw [List.append_nil,← hB]
  by_cases e : j = kt
  ·rw [e,lm_set_same,lm_cons_eq]
  ·rw [lm_set_other _ _ e,lm_cons_ne e]
 clear hB
 refine W_block ?_
 refine W_loopX (kt + 1) (fun i : Nat=>[(42,iv i)]) (fun i=>B (.cells (cvN l t pl kt (thN L i).length)) (.row (thN L i).length 71 3 dCt cCt (thN L i))) (fun i=>i ≤ L.length) (fun i=>L.length - i) (fun i _=>T.bas _ _) (opq_nil _) 0 (by omega) (by rfl) (hm0 _ _) (fun i R1 nx1 hi hE1=>?_)
 have hN1:=hE1.n
 have hth:=thN_succ L i
 have hthl:=thN_len L i
 obtain ⟨O,hO⟩ : ∃ O,thN L i = O:=⟨_,rfl⟩
 rw [hO] at hth hthl
 rw [hO]
 simp (maxSteps:=400000) (disch:=omega) only [push_cast,↓reduceIte,reduceCtorEq,Nat.reduceAdd,Nat.reduceSub,Nat.reduceEqDiff,Nat.reduceLeDiff,Nat.reduceLT,Nat.reduceBEq,Nat.reduceDiv,Nat.reduceMod,Nat.reducePow,Nat.reduceMul,Int.reduceToNat,Int.reduceLT,Int.reduceLE,keepL]
 repeat' (first | refine w1g ?_ | refine w1l ?_ | refine w1q ?_ | refine w1b ?_ | refine w1p ?_ | ((first | refine w1r ?_ | refine w1k ?_ | refine w1e ?_);simp (maxSteps:=400000) (disch:=omega) only [push_cast,↓reduceIte,reduceCtorEq,Nat.reduceAdd,Nat.reduceSub,Nat.reduceEqDiff,Nat.reduceLeDiff,Nat.reduceLT,Nat.reduceBEq,Nat.reduceDiv,Nat.reduceMod,Nat.reducePow,Nat.reduceMul,Int.reduceToNat,Int.reduceLT,Int.reduceLE,T.l1,T.l2,T.ln,T.s1,T.s2,T.sn,keepL]) | refine an2 ?_ | fail)
 refine W_condD (by rfl) (fun h5=>?_) (fun h5=>?_)
 ·have hlt : i < L.length:=by omega
  obtain ⟨X,hX⟩ : ∃ X,L.getD i dCt = X:=⟨_,rfl⟩
  unfold thS at hth
  rw [hX] at hth
  have c27:=fun cs hn h16=>fn49g cs O X.th hn h16 (by omega)
  repeat' (first | refine w1g ?_ | refine w1l ?_ | refine w1q ?_ | refine w1b ?_ | refine w1p ?_ | ((first | refine w1r ?_ | refine w1k ?_ | refine w1e ?_);simp (maxSteps:=400000) (disch:=omega) only [push_cast,↓reduceIte,reduceCtorEq,Nat.reduceAdd,Nat.reduceSub,Nat.reduceEqDiff,Nat.reduceLeDiff,Nat.reduceLT,Nat.reduceBEq,Nat.reduceDiv,Nat.reduceMod,Nat.reducePow,Nat.reduceMul,Int.reduceToNat,Int.reduceLT,Int.reduceLE,T.l1,T.l2,T.ln,T.s1,T.s2,T.sn,ne_l,ne_r,bq_l,bq_r,ls_l,ls_r,lm_set_same,hasM_eq,Option.isSome_some,hX]) | refine an2 ?_ | fail)
  refine CallC.go _ (fun _=>⟨trivial,c27 _ rfl (Nat.le_of_ble_eq_true rfl)⟩) rfl ?_
  simp (maxSteps:=400000) (disch:=omega) only [push_cast,↓reduceIte,reduceCtorEq,Nat.reduceAdd,Nat.reduceSub,Nat.reduceEqDiff,Nat.reduceLeDiff,Nat.reduceLT,Nat.reduceBEq,Nat.reduceDiv,Nat.reduceMod,Nat.reducePow,Nat.reduceMul,Int.reduceToNat,Int.reduceLT,Int.reduceLE,T.l1,T.l2,T.ln,T.s1,T.s2,T.sn,ne_l,ne_r,bq_l,bq_r,ls_l,ls_r,lm_set_same,hasM_eq,Option.isSome_some]
  repeat' (first | refine w1g ?_ | refine w1l ?_ | refine w1q ?_ | refine w1b ?_ | refine w1p ?_ | ((first | refine w1r ?_ | refine w1k ?_ | refine w1e ?_);simp (maxSteps:=400000) (disch:=omega) only [push_cast,↓reduceIte,reduceCtorEq,Nat.reduceAdd,Nat.reduceSub,Nat.reduceEqDiff,Nat.reduceLeDiff,Nat.reduceLT,Nat.reduceBEq,Nat.reduceDiv,Nat.reduceMod,Nat.reducePow,Nat.reduceMul,Int.reduceToNat,Int.reduceLT,Int.reduceLE,T.l1,T.l2,T.ln,T.s1,T.s2,T.sn,ne_l,ne_r,bq_l,bq_r,ls_l,ls_r,lm_set_same,hasM_eq,Option.isSome_some]) | refine an2 ?_ | fail)
  refine W_condD (by rfl) (fun h6=>?_) (fun h6=>?_)
  ·rw [if_pos h6] at hth
   repeat' (first | refine w1g ?_ | refine w1l ?_ | refine w1q ?_ | refine w1b ?_ | refine w1p ?_ | ((first | refine w1r ?_ | refine w1k ?_ | refine w1e ?_);simp (maxSteps:=400000) (disch:=omega) only [push_cast,↓reduceIte,reduceCtorEq,Nat.reduceAdd,Nat.reduceSub,Nat.reduceEqDiff,Nat.reduceLeDiff,Nat.reduceLT,Nat.reduceBEq,Nat.reduceDiv,Nat.reduceMod,Nat.reducePow,Nat.reduceMul,Int.reduceToNat,Int.reduceLT,Int.reduceLE,T.l1,T.l2,T.ln,T.s1,T.s2,T.sn,ne_l,ne_r,bq_l,bq_r,ls_l,ls_r,lm_set_same,hasM_eq,Option.isSome_some]) | refine an2 ?_ | fail)
   refine ⟨rfl,trivial,Cnt,dCt,cCt,[⟨X.th,X.lo,0⟩],rfl,by omega,fun x _=>⟨rfl,rfl⟩,rfl,?_⟩
   simp (maxSteps:=400000) (disch:=omega) only [push_cast,↓reduceIte,reduceCtorEq,Nat.reduceAdd,Nat.reduceSub,Nat.reduceEqDiff,Nat.reduceLeDiff,Nat.reduceLT,Nat.reduceBEq,Nat.reduceDiv,Nat.reduceMod,Nat.reducePow,Nat.reduceMul,Int.reduceToNat,Int.reduceLT,Int.reduceLE,T.l1,T.l2,T.ln,T.s1,T.s2,T.sn,ne_l,ne_r,bq_l,bq_r,ls_l,ls_r,lm_set_same,hasM_eq,Option.isSome_some]
   refine ⟨rfl,⟨by first | omega | (dsimp only;omega),by rw [hasM_eq,T.l2];rfl⟩,trivial,[⟨X.th,X.lo,0⟩],rfl,by first | omega | (simp;omega),by first | omega | (simp;omega),?_⟩
   simp (maxSteps:=400000) (disch:=omega) only [push_cast,↓reduceIte,reduceCtorEq,Nat.reduceAdd,Nat.reduceSub,Nat.reduceEqDiff,Nat.reduceLeDiff,Nat.reduceLT,Nat.reduceBEq,Nat.reduceDiv,Nat.reduceMod,Nat.reducePow,Nat.reduceMul,Int.reduceToNat,Int.reduceLT,Int.reduceLE,T.l1,T.l2,T.ln,T.s1,T.s2,T.sn,ne_l,ne_r,bq_l,bq_r,ls_l,ls_r,lm_set_same,hasM_eq,Option.isSome_some]
   repeat' (first | refine w1g ?_ | refine w1l ?_ | refine w1q ?_ | refine w1b ?_ | refine w1p ?_ | ((first | refine w1r ?_ | refine w1k ?_ | refine w1e ?_);simp (maxSteps:=400000) (disch:=omega) only [push_cast,↓reduceIte,reduceCtorEq,Nat.reduceAdd,Nat.reduceSub,Nat.reduceEqDiff,Nat.reduceLeDiff,Nat.reduceLT,Nat.reduceBEq,Nat.reduceDiv,Nat.reduceMod,Nat.reducePow,Nat.reduceMul,Int.reduceToNat,Int.reduceLT,Int.reduceLE,T.l1,T.l2,T.ln,T.s1,T.s2,T.sn,ne_l,ne_r,bq_l,bq_r,ls_l,ls_r,lm_set_same,hasM_eq,Option.isSome_some]) | refine an2 ?_ | fail)
   refine ⟨i + 1,?_,by omega,by omega,by rfl,?_,?_⟩
   rotate_left
   ·rw [hth,List.length_append,List.length_singleton]
    exact sameM.refl _
   ·exact ((Ext.refl (hE1.opq (opq_nil _))).put (by omega) (by omega) (by omega)).put (by omega) (by omega) (Nat.le_refl _)
  ·rw [if_neg h6] at hth
   repeat' (first | refine w1g ?_ | refine w1l ?_ | refine w1q ?_ | refine w1b ?_ | refine w1p ?_ | ((first | refine w1r ?_ | refine w1k ?_ | refine w1e ?_);simp (maxSteps:=400000) (disch:=omega) only [push_cast,↓reduceIte,reduceCtorEq,Nat.reduceAdd,Nat.reduceSub,Nat.reduceEqDiff,Nat.reduceLeDiff,Nat.reduceLT,Nat.reduceBEq,Nat.reduceDiv,Nat.reduceMod,Nat.reducePow,Nat.reduceMul,Int.reduceToNat,Int.reduceLT,Int.reduceLE,T.l1,T.l2,T.ln,T.s1,T.s2,T.sn,ne_l,ne_r,bq_l,bq_r,ls_l,ls_r,lm_set_same,hasM_eq,Option.isSome_some]) | refine an2 ?_ | fail)
   refine ⟨i + 1,?_,by omega,by omega,by rfl,?_,?_⟩
   rotate_left
   ·rw [hth]
    exact sameM.refl _
   ·exact (Ext.refl (hE1.opq (opq_nil _))).put (by omega) (by omega) (by omega)
 ·obtain rfl : i = L.length:=by omega
  repeat' (first | refine w1g ?_ | refine w1l ?_ | refine w1q ?_ | refine w1b ?_ | refine w1p ?_ | ((first | refine w1r ?_ | refine w1k ?_ | refine w1e ?_);simp (maxSteps:=400000) (disch:=omega) only [push_cast,↓reduceIte,reduceCtorEq,Nat.reduceAdd,Nat.reduceSub,Nat.reduceEqDiff,Nat.reduceLeDiff,Nat.reduceLT,Nat.reduceBEq,Nat.reduceDiv,Nat.reduceMod,Nat.reducePow,Nat.reduceMul,Int.reduceToNat,Int.reduceLT,Int.reduceLE,T.l1,T.l2,T.ln,T.s1,T.s2,T.sn,ne_l,ne_r,bq_l,bq_r,ls_l,ls_r,lm_set_same,hasM_eq,Option.isSome_some]) | refine an2 ?_ | fail)
  refine W_ret ⟨[_,_],[],_,⟨rfl,rfl,rfl⟩,sameM.refl _,fun j hj=>rfl,⟨by dsimp only;omega,fun j hj=>?_,fun j hj=>?_⟩,fun R3 hR3=>⟨rfl,kt,kc,rfl,by omega,by omega,by omega,?_,?_⟩⟩
  ·show lm (B _ _ ++ R1) j = _
   rw [lm_app,hTl _ _ j hj]
   cases lm R' j with
   |some b=>rfl
   |none=>exact hE1.eq j (by omega)
  ·show lm (B _ _ ++ R1) j = none
   rw [T.ln _ _ _ _ (by first | omega | (dsimp only at hj;omega))]
   exact hE1.hi j (by first | omega | (dsimp only at hj;omega))
  ·rw [hR3 kc (by omega)]
   show lm (B _ _ ++ R1) kc = _
   rw [T.l1,hO]
  ·rw [hR3 kt (by omega)]
   show lm (B _ _ ++ R1) kt = _
   rw [T.l2,hO]
theorem hb82 : hasBody Try.prog 29 = true:=by
 unfold hasBody
 rw [Try.func29]
 rfl
theorem inv82 (caps : Array Value) (w : World) : (invoke (.fn (.func 29) caps) #[]).run Try.prog w = .ok (.enter 29 caps) w:=by
 have h:=run_callFunc (P:=Try.prog) (f:=29) (vs:=caps) (w:=w) hb82
 simp only [invoke,Array.empty_append]
 exact h
theorem nop82 (caps : Array Value) : NopD Try.prog { target:=.fn (.func 29) caps,args:=#[] }:=by
 refine nop_recA (t5:=5) (t7:=7) Try.func29 rfl rfl ⟨by decide,by decide⟩ ⟨rfl,rfl,fun ρ w=>?_⟩ ⟨rfl,rfl,fun ρ w h=>?_⟩ ⟨rfl,fun ρ w=>⟨_,rfl⟩⟩ (inv82 caps)
 ·rfl
 ·have hu : ∃ m,Try.prog.underlying 20 = some (.interface m):=⟨#[],by kernel_rfl⟩
  obtain ⟨m,hu⟩:=hu
  have he1 : ∀ d : Nat,(Op.equalIn (d + 1) 20 .nilIface .nilIface).run Try.prog w = .ok true w:=fun d=>by
   simp only [Op.equalIn,Sem.run_bind,run_underlying hu,Result.andThen_ok];rfl
  have he : (Op.equal 20 .nilIface .nilIface).run Try.prog w = .ok true w:=he1 9999
  have hy : ρ.eval (.const .nilIface) = .nilIface:=rfl
  simp [execOp,h,hy,eqGuard,Go.binOp,Sem.run_bind,he]
theorem fn31 (e : Int) : Sy.Fn Try.prog 31 [bv false,iv e] (.tup []):=by
 refine Fn_of_W mixed Xt31 rfl ?_
 (refine go0 ?_;try exact tTI)
 refine W_cond (by rfl) (fun h=>by cases h) (fun _=>?_)
 (refine go0 ?_;try exact tTI)
 exact ⟨[],rfl,rfl⟩
theorem fo52 (s : Rls) (c : Crs) (hs : OkR s) (hn : s.ls.length = s.ns.length) (hm : s.mi ≤ 10080) (hc : 0 ≤ c.st ∧ c.st ≤ 1099511627776) (hl : c.th.length ≤ 140737488355328) : FnO Try.prog 52 [.fp (cRs s) 0,.agg (cCr c)] 3 1 0 cI (brkL s c):=by
 refine FnO_of_W mixed Xt52 rfl (fun x _=>rfl) ?_
 have h24:=hs.n
 have c76:=fun (i : Nat) (hi : i < s.ls.length)=>fn76 s (s.ls.getD i dRu) c (hs.r _ (getD_mem' dRu s.ls i hi)) hm hc hl
 (refine go0 ?_;try exact tTI)
 refine W_le (le_adopt 4 3 1 0 cI (by omega) rfl) ?_
 (refine sy1 ?_;try exact tTI)
 refine W_loopU (fun i : Nat=>[(12,iv i),(4,.row 8 (brkN s c i).length)]) (fun i=>[(8,.row (brkN s c i).length 3 1 0 cI (brkN s c i))]) (fun i=>i ≤ s.ls.length) (fun i=>s.ls.length - i) 0 (by omega) (by rfl) (by rfl) (fun i hi=>?_)
 have hbl:=brkN_len s c i
 have hbs:=brkN_succ s c i
 obtain ⟨B,hB⟩ : ∃ B,brkN s c i = B:=⟨_,rfl⟩
 rw [hB] at hbl hbs
 rw [hB]
 (refine sy1 ?_;try exact tTI)
 (refine go0 ?_;try exact tTI)
 refine W_condD (by rfl) (fun h=>?_) (fun h=>?_)
 ·have hlt : i < s.ls.length:=by omega
  have q:=c76 i hlt
  obtain ⟨X,hX⟩ : ∃ X,s.ls.getD i dRu = X:=⟨_,rfl⟩
  rw [hX] at q hbs
  generalize brkB s.mi X c = b at *
  (refine gofc hX q ?_;try exact tTI)
  refine W_cond (by rfl) (fun hb=>?_) (fun hb=>?_)
  ·rw [if_pos hb] at hbs
   (refine go0 ?_;try exact tTI)
   refine ⟨rfl,trivial,Int,0,cI,[s.ns.getD i 0],rfl,by omega,fun x _=>⟨rfl,rfl⟩,rfl,?_⟩
   (refine sy1 ?_;try exact tTI)
   refine ⟨rfl,⟨Nat.le_of_ble_eq_true rfl,rfl⟩,trivial,[s.ns.getD i 0],rfl,by first | omega | (simp;omega),by first | omega | (simp;omega),?_⟩
   (refine sy1 ?_;try exact tTI)
   (refine go0 ?_;try exact tTI)
   refine ⟨i + 1,by omega,by omega,by rfl,?_⟩
   rw [hbs,List.length_append,List.length_singleton]
   (refine syE ?_;try exact tTI)
  ·rw [hb,if_neg (by decide)] at hbs
   (refine go0 ?_;try exact tTI)
   refine ⟨i + 1,by omega,by omega,by rfl,?_⟩
   rw [hbs]
   (refine syE ?_;try exact tTI)
 ·obtain rfl : i = s.ls.length:=by omega
  have e : brkL s c = B:=hB
  rw [e]
  (refine go0 ?_;try exact tTI)
  exact W_ret ⟨_,_,⟨rfl,rfl⟩,rfl⟩
theorem fw45 (l : List Aut) (t : Trp) (p : Int) (c : Crs) (hl : l.length ≤ 140737488355328) (hg : ∀ a ∈ l,GrA a) (ht : t.ps.length ≤ 140737488355328) (hc : c.th.length ≤ 140737488355328) : FnN Try.prog 45 [aAu l,aTr t,iv p,.agg (cCr c)] (.tup [aI (bkV l t p c),iv (bkE l t p c)]):=by
 refine FnN_of_W mixed Xt45 rfl ?_
 have c66:=fn66 l t p hl hg ht
 have c51:=fn51 c hc
 by_cases h1 : fdE l t p = 0
 rotate_left
 ·have e : bkE l t p c = fdE l t p:=by unfold bkE;rw [if_neg h1]
  have e2 : bkV l t p c = []:=by unfold bkV;rw [e,if_neg h1]
  have e3 : fdV l t p = .v (.pointer none):=by unfold fdV;rw [if_neg h1]
  rw [e,e2]
  rw [e3] at c66
  generalize fdE l t p = E at *
  (refine go_c c66 ?_;try exact tTI)
  refine W_cond (by rfl) (fun _=>?_) (fun h=>absurd (by simpa using h) h1)
  (refine go0 ?_;try exact tTI)
  refine W_le (le_adopt 8 3 1 0 cI (by omega) rfl) ?_
  (refine sy1 ?_;try exact tTI)
  refine W_ret ⟨[_,_],⟨rfl,rfl,rfl⟩,?_,⟨fun x _=>rfl,⟨rfl,rfl⟩,trivial⟩⟩
  (refine syP ?_;try exact tTI)
 have e3 : fdV l t p = .fp (cRs (rlP l t p)) 0:=by unfold fdV;rw [if_pos h1];rfl
 have e4 : bkE l t p c = crE c:=by unfold bkE;rw [if_pos h1]
 rw [h1,e3] at c66
 obtain ⟨f1,f2,f3⟩:=fd_ok h1
 by_cases h2 : crE c = 0
 rotate_left
 ·have e2 : bkV l t p c = []:=by unfold bkV;rw [e4,if_neg h2]
  rw [e4,e2]
  generalize crE c = E at *
  (refine go_c c66 ?_;try exact tTI)
  refine W_cond (by rfl) (fun h=>by cases h) (fun _=>?_)
  (refine go_c c51 ?_;try exact tTI)
  refine W_cond (by rfl) (fun _=>?_) (fun h=>absurd (by simpa using h) h2)
  (refine go0 ?_;try exact tTI)
  refine W_le (le_adopt 8 3 1 0 cI (by omega) rfl) ?_
  (refine sy1 ?_;try exact tTI)
  refine W_ret ⟨[_,_],⟨rfl,rfl,rfl⟩,?_,⟨fun x _=>rfl,⟨rfl,rfl⟩,trivial⟩⟩
  (refine syP ?_;try exact tTI)
 have e2 : bkV l t p c = brkL (rlP l t p) c:=by unfold bkV;rw [e4,if_pos h2]
 obtain ⟨k1,k2,_⟩:=crE_ok h2
 have hr:=dk_rls f1 (i:=p.toNat) (by omega)
 have hn:=dk_lsns f1 (i:=p.toNat) (by omega)
 have c52:=fo52 (rlP l t p) c hr.1 hn (by have:=hr.2.2;exact this) k1 hc
 rw [e4,e2,h2]
 rw [h2] at c51
 generalize rlP l t p = R at *
 generalize brkL R c = B at *
 (refine go_c c66 ?_;try exact tTI)
 refine W_cond (by rfl) (fun h=>by cases h) (fun _=>?_)
 (refine go_c c51 ?_;try exact tTI)
 refine W_cond (by rfl) (fun h=>by cases h) (fun _=>?_)
 (refine go0 ?_;try exact tTI)
 refine CallC.row c52 ?_
 (refine sy1 ?_;try exact tTI)
 (refine go0 ?_;try exact tTI)
 refine W_ret ⟨[_,_],⟨rfl,rfl,rfl⟩,?_,⟨fun x _=>rfl,⟨rfl,rfl⟩,trivial⟩⟩
 (refine syP ?_;try exact tTI)
structure Rep where
 at' : Int
 kd : Int
 n : Int
 nm : ByteArray
 fr : Int
 to : Int
def cRp (r : Rep) : List AV:=[iv r.at',iv r.kd,iv r.n,stv r.nm,iv r.fr,iv r.to]
theorem nRp0 (x : Rep) : nth (cRp x) 0 = iv x.at':=rfl
theorem nRp1 (x : Rep) : nth (cRp x) 1 = iv x.kd:=rfl
theorem nRp2 (x : Rep) : nth (cRp x) 2 = iv x.n:=rfl
theorem nRp3 (x : Rep) : nth (cRp x) 3 = stv x.nm:=rfl
theorem nRp4 (x : Rep) : nth (cRp x) 4 = iv x.fr:=rfl
theorem nRp5 (x : Rep) : nth (cRp x) 5 = iv x.to:=rfl
theorem lRp (x : Rep) : (cRp x).length = 6:=rfl
theorem frRp (x : Rep) : frzAll (cRp x) = true:=rfl
theorem tRp (x : Rep) : List.take 6 (List.drop 0 (cRp x)) = cRp x:=rfl
theorem uRp (x : Rep) : List.take 6 (cRp x) = cRp x:=rfl
theorem iRp {m : Nat → Option Blk} {n : Nat} (x : Rep) : List.flatMap (ids m n) (cRp x) = []:=flat_frz n _ (frRp x)
theorem vRp {m : Nat → Option Blk} {n : Nat} (x : Rep) : List.map (view m n) (cRp x) = cRp x:=viewL_frz n _ (frRp x)
attribute [push_cast] nRp0 nRp1 nRp2 nRp3 nRp4 nRp5 lRp frRp tRp uRp iRp vRp
abbrev cvC (c : Cvy) (a b d : Nat) : List AV:=[iv c.now,iv c.nx,bv c.mv,iv c.bg,iv c.hd,iv c.rdy,aAu c.l,iv (c.t.sz 0),iv (c.t.sz 1),iv (c.t.sz 2),iv (c.t.sz 3),iv (c.t.sz 4),iv (c.t.sz 5),aPs c.t.ps,aCr c.pl,.row 11 a,.row 12 b,iv c.rp,.row 13 d]
def cvM (c : Cvy) (a b d : Nat) : Mem:=[(10,.cells (cvC c a b d)),(11,.row a 71 3 dCt cCt c.th),(12,.row b 97 3 dCo cCo c.cl),(13,.row d 47 5 dDv cDv c.dv)]
theorem cvM_bas (c : Cvy) (a b d : Nat) : Bas 60 (cvM c a b d):=bas_of rfl
def S85 (c : Cvy) (a b d : Nat) (r : Rep) (ko : Nat) (O : List Dev) (R : Mem) (nx : Nat) : S:=⟨[(0,.own 10 0),(3,.fp (cRp r) 0),(4,.row ko O.length)],cvM c a b d ++ (ko,.row O.length 47 5 dDv cDv O) :: R,nx⟩
def begC (c : Cvy) (r : Rep) : Cvy:={ c with mv:=true,bg:=r.at',hd:=0 }
theorem leStk {s : S} (ks : List Nat) (h : ∀ j,s.nx ≤ j → lm s.mem j = none) : le s ⟨keepL s.tm ks,s.mem,s.nx⟩:=le_keepL ks s.nx h
theorem noneko {b1 b2 b3 b4 X : Blk} {R : Mem} {ko j : Nat} (hk : 60 ≤ ko) (hj : ko < j) (hR : lm R j = none) : lm ((10,b1) :: (11,b2) :: (12,b3) :: (13,b4) :: (ko,X) :: R) j = none:=by
 rw [lm_cons_ne (by omega),lm_cons_ne (by omega),lm_cons_ne (by omega),lm_cons_ne (by omega),lm_cons_ne (by omega)];exact hR
theorem swapko {b1 b2 b3 b4 X : Blk} {R : Mem} {ko : Nat} (hk : 60 ≤ ko) (j : Nat) : lm ((10,b1) :: (11,b2) :: (12,b3) :: (13,b4) :: (ko,X) :: R) j = lm ((ko,X) :: (10,b1) :: (11,b2) :: (12,b3) :: (13,b4) :: R) j:=by
 simp only [lm]
 by_cases e : j = ko
 ·subst e
  rw [if_neg (by omega),if_neg (by omega),if_neg (by omega),if_neg (by omega)]
  simp
 ·simp only [if_neg e]
theorem extCons {a nx b : Nat} {R R2 : Mem} {g : Blk} (h : Ext a R nx R2) (h1 : a ≤ b) (h2 : b < nx) : Ext a R nx ((b,g) :: R2):=
 ⟨h.n,fun j hj=>by rw [lm_cons_ne (by omega)];exact h.eq j hj,fun j hj=>by rw [lm_cons_ne (by omega)];exact h.hi j hj⟩
theorem hasko {b1 b2 b3 b4 X : Blk} {R : Mem} {ko : Nat} (hk : 60 ≤ ko) : hasM ((10,b1) :: (11,b2) :: (12,b3) :: (13,b4) :: (ko,X) :: R) ko = true:=by
 rw [hasM_eq,lm_cons_ne (by omega),lm_cons_ne (by omega),lm_cons_ne (by omega),lm_cons_ne (by omega),lm_cons_eq];rfl
theorem le_dvn {s : S} (t : Nat) {x1 x2 x3 x4 : AV} (ht : lk s.tm t = .agg [x1,x2,x3,x4,.v (.slice none 0 0)]) : le s ⟨(t,.agg [x1,x2,x3,x4,aI []]) :: s.tm,s.mem,s.nx⟩:=
 le_slot t _ fun G E a w hS y hy=>by
  rw [ht] at hy
  simp only [sat,satL] at hy ⊢
  obtain ⟨vs,h1,y1,z1,rfl,o1,p1,y2,z2,rfl,o2,p2,y3,z3,rfl,o3,p3,y4,z4,rfl,o4,p4,y5,z5,rfl,o5,p5,rfl⟩:=hy
  exact ⟨_,h1,y1,_,rfl,o1,p1,y2,_,rfl,o2,p2,y3,_,rfl,o3,p3,y4,_,rfl,o4,p4,y5,_,rfl,o5,by subst p5;simp only [fsat];exact ⟨none,0,rfl,Nat.le_refl _,.inl rfl,.inl trivial⟩,rfl⟩
structure CvOK (c : Cvy) : Prop where
 dk : dskE c.l c.t = 0
 pl : c.pl.length = c.t.ps.length
 plt : ∀ x ∈ c.pl,(0 ≤ x.st ∧ x.st ≤ 1099511627776) ∧ x.th.length ≤ 6
 now : 0 ≤ c.now ∧ c.now ≤ 1099511627776
 nx : 0 ≤ c.nx ∧ c.nx ≤ c.t.ps.length
 mv : c.mv = true → c.nx < c.t.ps.length
 bg : 0 ≤ c.bg ∧ c.bg ≤ 1099511627776
 hd : 0 ≤ c.hd ∧ c.hd ≤ 10080 * c.rp
 rdy : 0 ≤ c.rdy ∧ c.rdy ≤ 1099511637856
 th : c.th.length ≤ 6
 cl : c.cl.length ≤ 16 ∧ ∀ x ∈ c.cl,CloOK x
 rp : 0 ≤ c.rp ∧ c.rp ≤ 400
 dv : c.dv.length ≤ 3 * c.rp.toNat ∧ ∀ x ∈ c.dv,x.cs.length ≤ 600
theorem CvOK.n {c : Cvy} (h : CvOK c) : (1 ≤ c.t.ps.length ∧ c.t.ps.length ≤ 24) ∧ c.l.length ≤ 8 ∧ (∀ p ∈ c.t.ps,OkP p) ∧ ∀ a ∈ c.l,GrA a:=by
 obtain ⟨h1,h2,h3,h4⟩:=dsk_ok h.dk
 obtain ⟨a1,a2,a3⟩:=allE_ok h1
 obtain ⟨t1,t2,t3⟩:=trpE_ok h2
 refine ⟨t1,a1.2,t3,fun a ha=>⟨by have:=(a2 a ha).n;omega,fun r hr=>?_⟩⟩
 have:=rulB_ok ((a2 a ha).ru r hr)
 exact ⟨by have:=this.rd;omega,by have:=this.wh;omega,by have:=this.cn;omega⟩
noncomputable def brkC (c : Cvy) (at' : Int) : List Int:=bkV c.l c.t c.nx ⟨at',c.th⟩
noncomputable def dv3 (c : Cvy) (r : Rep) (O : List Dev) : List Dev:=if 0 < (brkC c r.at').length then O ++ [⟨0,6,c.nx,0,brkC c r.at'⟩] else O
theorem w85b {c : Cvy} (h : CvOK c) {a b d : Nat} {r : Rep} {ko nx : Nat} {O : List Dev} {R : Mem} {Q : Ex → S → Prop} (hk : 60 ≤ ko) (hkn : ko < nx) (hRo : Opq 60 R nx) (hOl : O.length ≤ 1000)
  (hQ : ∀ R2 nx2,Ext nx R nx2 R2 → Q .r ⟨[(4,.row ko (dv3 c r O).length)],cvM (begC c r) a b d ++ (ko,.row (dv3 c r O).length 47 5 dDv cDv (dv3 c r O)) :: R2,nx2⟩) : W Try.prog 131 Xn32_23 (S85 c a b d r ko O R nx) Q:=by
 obtain ⟨q1,q2,q3,q4⟩:=h.n
 have c45:=fw45 c.l c.t c.nx ⟨r.at',c.th⟩ (by omega) q4 (by omega) (by have:=h.th;show c.th.length ≤ _;omega)
 have ed : dv3 c r O = if 0 < (brkC c r.at').length then O ++ [⟨0,6,c.nx,0,brkC c r.at'⟩] else O:=rfl
 change FnN Try.prog 45 [aAu c.l,aTr c.t,iv c.nx,.agg (cCr ⟨r.at',c.th⟩)] (.tup [aI (brkC c r.at'),iv (bkE c.l c.t c.nx ⟨r.at',c.th⟩)]) at c45
 generalize bkE c.l c.t c.nx ⟨r.at',c.th⟩ = E at *
 generalize brkC c r.at' = V at *
 unfold S85
 simp (maxSteps:=400000) (disch:=omega) only [push_cast,↓reduceIte,reduceCtorEq,Nat.reduceAdd,Nat.reduceSub,Nat.reduceEqDiff,Nat.reduceLeDiff,Nat.reduceLT,Nat.reduceBEq,Nat.reduceDiv,Nat.reduceMod,Nat.reducePow,Nat.reduceMul,Int.reduceToNat,Int.reduceLT,Int.reduceLE,ne_l,ne_r,bq_l,bq_r,ls_l,ls_r,lm_set_same,hasM_eq,Option.isSome_some,cvM,List.cons_append,List.nil_append]
 repeat' (first | refine w1g ?_ | refine w1l ?_ | refine w1q ?_ | refine w1b ?_ | refine w1p ?_ | ((first | refine w1r ?_ | refine w1k ?_ | refine w1e ?_);simp (maxSteps:=400000) (disch:=omega) only [push_cast,↓reduceIte,reduceCtorEq,Nat.reduceAdd,Nat.reduceSub,Nat.reduceEqDiff,Nat.reduceLeDiff,Nat.reduceLT,Nat.reduceBEq,Nat.reduceDiv,Nat.reduceMod,Nat.reducePow,Nat.reduceMul,Int.reduceToNat,Int.reduceLT,Int.reduceLE,ne_l,ne_r,bq_l,bq_r,ls_l,ls_r,lm_set_same,hasM_eq,Option.isSome_some,cvM,List.cons_append,List.nil_append]) | refine an2 ?_ | fail)
 refine CallC.new _ (fun _=>⟨trivial,c45⟩) ?_
 simp (maxSteps:=400000) (disch:=omega) only [push_cast,↓reduceIte,reduceCtorEq,Nat.reduceAdd,Nat.reduceSub,Nat.reduceEqDiff,Nat.reduceLeDiff,Nat.reduceLT,Nat.reduceBEq,Nat.reduceDiv,Nat.reduceMod,Nat.reducePow,Nat.reduceMul,Int.reduceToNat,Int.reduceLT,Int.reduceLE,ne_l,ne_r,bq_l,bq_r,ls_l,ls_r,lm_set_same,hasM_eq,Option.isSome_some,cvM,List.cons_append,List.nil_append]
 repeat' (first | refine w1g ?_ | refine w1l ?_ | refine w1q ?_ | refine w1b ?_ | refine w1p ?_ | ((first | refine w1r ?_ | refine w1k ?_ | refine w1e ?_);simp (maxSteps:=400000) (disch:=omega) only [push_cast,↓reduceIte,reduceCtorEq,Nat.reduceAdd,Nat.reduceSub,Nat.reduceEqDiff,Nat.reduceLeDiff,Nat.reduceLT,Nat.reduceBEq,Nat.reduceDiv,Nat.reduceMod,Nat.reducePow,Nat.reduceMul,Int.reduceToNat,Int.reduceLT,Int.reduceLE,ne_l,ne_r,bq_l,bq_r,ls_l,ls_r,lm_set_same,hasM_eq,Option.isSome_some,cvM,List.cons_append,List.nil_append]) | refine an2 ?_ | fail)
 refine W_condD (by rfl) (fun h5=>?_) (fun h5=>?_)
 ·rw [if_pos (by omega)] at ed
  repeat' (first | refine w1g ?_ | refine w1l ?_ | refine w1q ?_ | refine w1b ?_ | refine w1p ?_ | ((first | refine w1r ?_ | refine w1k ?_ | refine w1e ?_);simp (maxSteps:=400000) (disch:=omega) only [push_cast,↓reduceIte,reduceCtorEq,Nat.reduceAdd,Nat.reduceSub,Nat.reduceEqDiff,Nat.reduceLeDiff,Nat.reduceLT,Nat.reduceBEq,Nat.reduceDiv,Nat.reduceMod,Nat.reducePow,Nat.reduceMul,Int.reduceToNat,Int.reduceLT,Int.reduceLE,ne_l,ne_r,bq_l,bq_r,ls_l,ls_r,lm_set_same,hasM_eq,Option.isSome_some,cvM,List.cons_append,List.nil_append]) | refine an2 ?_ | fail)
  refine ⟨rfl,trivial,Dev,dDv,cDv,[⟨0,6,c.nx,0,V⟩],rfl,by omega,fun x _=>⟨rfl,rfl⟩,rfl,?_⟩
  simp (maxSteps:=400000) (disch:=omega) only [push_cast,↓reduceIte,reduceCtorEq,Nat.reduceAdd,Nat.reduceSub,Nat.reduceEqDiff,Nat.reduceLeDiff,Nat.reduceLT,Nat.reduceBEq,Nat.reduceDiv,Nat.reduceMod,Nat.reducePow,Nat.reduceMul,Int.reduceToNat,Int.reduceLT,Int.reduceLE,ne_l,ne_r,bq_l,bq_r,ls_l,ls_r,lm_set_same,hasM_eq,Option.isSome_some,cvM,List.cons_append,List.nil_append]
  refine ⟨rfl,⟨by first | omega | (dsimp only;omega),hasko hk⟩,trivial,[⟨0,6,c.nx,0,V⟩],rfl,by first | omega | (simp;omega),by first | omega | (simp;omega),?_⟩
  simp (maxSteps:=400000) (disch:=omega) only [push_cast,↓reduceIte,reduceCtorEq,Nat.reduceAdd,Nat.reduceSub,Nat.reduceEqDiff,Nat.reduceLeDiff,Nat.reduceLT,Nat.reduceBEq,Nat.reduceDiv,Nat.reduceMod,Nat.reducePow,Nat.reduceMul,Int.reduceToNat,Int.reduceLT,Int.reduceLE,ne_l,ne_r,bq_l,bq_r,ls_l,ls_r,lm_set_same,hasM_eq,Option.isSome_some,cvM,List.cons_append,List.nil_append]
  repeat' (first | refine w1g ?_ | refine w1l ?_ | refine w1q ?_ | refine w1b ?_ | refine w1p ?_ | ((first | refine w1r ?_ | refine w1k ?_ | refine w1e ?_);simp (maxSteps:=400000) (disch:=omega) only [push_cast,↓reduceIte,reduceCtorEq,Nat.reduceAdd,Nat.reduceSub,Nat.reduceEqDiff,Nat.reduceLeDiff,Nat.reduceLT,Nat.reduceBEq,Nat.reduceDiv,Nat.reduceMod,Nat.reducePow,Nat.reduceMul,Int.reduceToNat,Int.reduceLT,Int.reduceLE,ne_l,ne_r,bq_l,bq_r,ls_l,ls_r,lm_set_same,hasM_eq,Option.isSome_some,cvM,List.cons_append,List.nil_append]) | refine an2 ?_ | fail)
  simp only [ed,List.length_append,List.length_singleton] at hQ
  exact W_ret (hQ _ _ ((Ext.refl hRo).put (by omega) (by omega) (by omega)))
 ·rw [if_neg (by omega)] at ed
  refine w1k ?_
  simp (maxSteps:=400000) (disch:=omega) only [push_cast,↓reduceIte,reduceCtorEq,Nat.reduceAdd,Nat.reduceSub,Nat.reduceEqDiff,Nat.reduceLeDiff,Nat.reduceLT,Nat.reduceBEq,Nat.reduceDiv,Nat.reduceMod,Nat.reducePow,Nat.reduceMul,Int.reduceToNat,Int.reduceLT,Int.reduceLE,ne_l,ne_r,bq_l,bq_r,ls_l,ls_r,lm_set_same,hasM_eq,Option.isSome_some,cvM,List.cons_append,List.nil_append]
  repeat' (first | refine w1g ?_ | refine w1l ?_ | refine w1q ?_ | refine w1b ?_ | refine w1p ?_ | ((first | refine w1r ?_ | refine w1k ?_ | refine w1e ?_);simp (maxSteps:=400000) (disch:=omega) only [push_cast,↓reduceIte,reduceCtorEq,Nat.reduceAdd,Nat.reduceSub,Nat.reduceEqDiff,Nat.reduceLeDiff,Nat.reduceLT,Nat.reduceBEq,Nat.reduceDiv,Nat.reduceMod,Nat.reducePow,Nat.reduceMul,Int.reduceToNat,Int.reduceLT,Int.reduceLE,ne_l,ne_r,bq_l,bq_r,ls_l,ls_r,lm_set_same,hasM_eq,Option.isSome_some,cvM,List.cons_append,List.nil_append]) | refine an2 ?_ | fail)
  simp only [ed] at hQ
  exact W_ret (hQ _ _ ((Ext.refl hRo).up (by omega)))
def dv2 (c : Cvy) (r : Rep) (O : List Dev) : List Dev:=if 0 ≤ untV c c.nx r.at' then O ++ [⟨0,5,c.nx,0,[]⟩] else O
theorem w85a {c : Cvy} (h : CvOK c) (hlt : c.nx < c.t.ps.length) {a b d : Nat} {r : Rep} (hra : 0 ≤ r.at' ∧ r.at' ≤ 1099511627776) {ko nx : Nat} {O : List Dev} {R : Mem} {Q : Ex → S → Prop} (hk : 60 ≤ ko) (hkn : ko < nx) (hRo : Opq 60 R nx) (hOl : O.length ≤ 900)
  (hQ : ∀ R2 nx2,Ext nx R nx2 R2 → Q .r ⟨[(4,.row ko (dv3 c r (dv2 c r O)).length)],cvM (begC c r) a b d ++ (ko,.row (dv3 c r (dv2 c r O)).length 47 5 dDv cDv (dv3 c r (dv2 c r O))) :: R2,nx2⟩) : W Try.prog 131 Xn32_17 (S85 c a b d r ko O R nx) Q:=by
 obtain ⟨q1,q2,q3,q4⟩:=h.n
 have c46:=fn46 c c.nx r.at' ⟨h.nx.1,hlt⟩ q3 (by omega) (by have:=h.cl.1;omega)
 have ed : dv2 c r O = if 0 ≤ untV c c.nx r.at' then O ++ [⟨0,5,c.nx,0,[]⟩] else O:=rfl
 have w3:=fun (O2 : List Dev) (R2 : Mem) (nx2 : Nat) (ho : O2.length ≤ 1000) (hn : nx ≤ nx2) (hRo2 : Opq 60 R2 nx2)=>w85b (Q:=Q) h (a:=a) (b:=b) (d:=d) (r:=r) (O:=O2) hk (show ko < nx2 by omega) hRo2 ho
 generalize untV c c.nx r.at' = V at *
 unfold S85 at *
 simp (maxSteps:=400000) (disch:=omega) only [push_cast,↓reduceIte,reduceCtorEq,Nat.reduceAdd,Nat.reduceSub,Nat.reduceEqDiff,Nat.reduceLeDiff,Nat.reduceLT,Nat.reduceBEq,Nat.reduceDiv,Nat.reduceMod,Nat.reducePow,Nat.reduceMul,Int.reduceToNat,Int.reduceLT,Int.reduceLE,ne_l,ne_r,bq_l,bq_r,ls_l,ls_r,lm_set_same,hasM_eq,Option.isSome_some,cvM,List.cons_append,List.nil_append]
 repeat' (first | refine w1g ?_ | refine w1l ?_ | refine w1q ?_ | refine w1b ?_ | refine w1p ?_ | ((first | refine w1r ?_ | refine w1k ?_ | refine w1e ?_);simp (maxSteps:=400000) (disch:=omega) only [push_cast,↓reduceIte,reduceCtorEq,Nat.reduceAdd,Nat.reduceSub,Nat.reduceEqDiff,Nat.reduceLeDiff,Nat.reduceLT,Nat.reduceBEq,Nat.reduceDiv,Nat.reduceMod,Nat.reducePow,Nat.reduceMul,Int.reduceToNat,Int.reduceLT,Int.reduceLE,ne_l,ne_r,bq_l,bq_r,ls_l,ls_r,lm_set_same,hasM_eq,Option.isSome_some,cvM,List.cons_append,List.nil_append]) | refine an2 ?_ | fail)
 refine CallC.go _ (fun _=>⟨trivial,c46⟩) rfl ?_
 simp (maxSteps:=400000) (disch:=omega) only [push_cast,↓reduceIte,reduceCtorEq,Nat.reduceAdd,Nat.reduceSub,Nat.reduceEqDiff,Nat.reduceLeDiff,Nat.reduceLT,Nat.reduceBEq,Nat.reduceDiv,Nat.reduceMod,Nat.reducePow,Nat.reduceMul,Int.reduceToNat,Int.reduceLT,Int.reduceLE,ne_l,ne_r,bq_l,bq_r,ls_l,ls_r,lm_set_same,hasM_eq,Option.isSome_some,cvM,List.cons_append,List.nil_append]
 repeat' (first | refine w1g ?_ | refine w1l ?_ | refine w1q ?_ | refine w1b ?_ | refine w1p ?_ | ((first | refine w1r ?_ | refine w1k ?_ | refine w1e ?_);simp (maxSteps:=400000) (disch:=omega) only [push_cast,↓reduceIte,reduceCtorEq,Nat.reduceAdd,Nat.reduceSub,Nat.reduceEqDiff,Nat.reduceLeDiff,Nat.reduceLT,Nat.reduceBEq,Nat.reduceDiv,Nat.reduceMod,Nat.reducePow,Nat.reduceMul,Int.reduceToNat,Int.reduceLT,Int.reduceLE,ne_l,ne_r,bq_l,bq_r,ls_l,ls_r,lm_set_same,hasM_eq,Option.isSome_some,cvM,List.cons_append,List.nil_append]) | refine an2 ?_ | fail)
 refine W_condD (by rfl) (fun h5=>?_) (fun h5=>?_)
 ·rw [if_pos (by omega)] at ed
  refine W_regLO 7 (by decide) ?_
  simp (maxSteps:=400000) (disch:=omega) only [push_cast,↓reduceIte,reduceCtorEq,Nat.reduceAdd,Nat.reduceSub,Nat.reduceEqDiff,Nat.reduceLeDiff,Nat.reduceLT,Nat.reduceBEq,Nat.reduceDiv,Nat.reduceMod,Nat.reducePow,Nat.reduceMul,Int.reduceToNat,Int.reduceLT,Int.reduceLE,ne_l,ne_r,bq_l,bq_r,ls_l,ls_r,lm_set_same,hasM_eq,Option.isSome_some,cvM,List.cons_append,List.nil_append,List.take_succ_cons,List.take_zero]
  refine WOL_le (le_dvn 76 rfl) ?_
  refine WOL_end (by decide) ?_
  simp (maxSteps:=400000) (disch:=omega) only [push_cast,↓reduceIte,reduceCtorEq,Nat.reduceAdd,Nat.reduceSub,Nat.reduceEqDiff,Nat.reduceLeDiff,Nat.reduceLT,Nat.reduceBEq,Nat.reduceDiv,Nat.reduceMod,Nat.reducePow,Nat.reduceMul,Int.reduceToNat,Int.reduceLT,Int.reduceLE,ne_l,ne_r,bq_l,bq_r,ls_l,ls_r,lm_set_same,hasM_eq,Option.isSome_some,cvM,List.cons_append,List.nil_append,List.drop_succ_cons,List.drop_zero]
  refine ⟨rfl,trivial,Dev,dDv,cDv,[⟨0,5,c.nx,0,[]⟩],rfl,by omega,fun x _=>⟨rfl,rfl⟩,rfl,?_⟩
  simp (maxSteps:=400000) (disch:=omega) only [push_cast,↓reduceIte,reduceCtorEq,Nat.reduceAdd,Nat.reduceSub,Nat.reduceEqDiff,Nat.reduceLeDiff,Nat.reduceLT,Nat.reduceBEq,Nat.reduceDiv,Nat.reduceMod,Nat.reducePow,Nat.reduceMul,Int.reduceToNat,Int.reduceLT,Int.reduceLE,ne_l,ne_r,bq_l,bq_r,ls_l,ls_r,lm_set_same,hasM_eq,Option.isSome_some,cvM,List.cons_append,List.nil_append]
  refine ⟨rfl,⟨by first | omega | (dsimp only;omega),hasko hk⟩,trivial,[⟨0,5,c.nx,0,[]⟩],rfl,by first | omega | (simp;omega),by first | omega | (simp;omega),?_⟩
  simp (maxSteps:=400000) (disch:=omega) only [push_cast,↓reduceIte,reduceCtorEq,Nat.reduceAdd,Nat.reduceSub,Nat.reduceEqDiff,Nat.reduceLeDiff,Nat.reduceLT,Nat.reduceBEq,Nat.reduceDiv,Nat.reduceMod,Nat.reducePow,Nat.reduceMul,Int.reduceToNat,Int.reduceLT,Int.reduceLE,ne_l,ne_r,bq_l,bq_r,ls_l,ls_r,lm_set_same,hasM_eq,Option.isSome_some,cvM,List.cons_append,List.nil_append]
  simp only [ed] at hQ
  have w4:=w3 (O ++ [⟨0,5,c.nx,0,[]⟩])
  simp only [List.length_append,List.length_singleton] at w4
  exact WK_go (w4 _ _ (by omega) (by omega) (((Ext.refl hRo).put (by omega) (by omega) (by omega)).opq hRo) (fun R2 nx2 hE=>hQ R2 nx2 (((Ext.refl hRo).put (by omega) (by omega) (by omega)).trans hE)))
 ·rw [if_neg (by omega)] at ed
  simp only [ed] at hQ
  refine w1k ?_
  simp (maxSteps:=400000) (disch:=omega) only [push_cast,↓reduceIte,reduceCtorEq,Nat.reduceAdd,Nat.reduceSub,Nat.reduceEqDiff,Nat.reduceLeDiff,Nat.reduceLT,Nat.reduceBEq,Nat.reduceDiv,Nat.reduceMod,Nat.reducePow,Nat.reduceMul,Int.reduceToNat,Int.reduceLT,Int.reduceLE,ne_l,ne_r,bq_l,bq_r,ls_l,ls_r,lm_set_same,hasM_eq,Option.isSome_some,cvM,List.cons_append,List.nil_append]
  refine WK_go (W_le (leStk [0,3,4] (fun j hj=>noneko hk (by dsimp only at hj;omega) (hRo.hi j (by dsimp only at hj;omega)))) ?_)
  exact w3 O R _ (by omega) (by dsimp only;omega) (hRo.le (by dsimp only;omega)) (fun R2 nx2 hE=>hQ R2 nx2 (((Ext.refl hRo).up (by dsimp only;omega)).trans hE))
def stC (c : Cvy) : Int:=(c.pl.getD c.nx.toNat dCr).st
def dv1 (c : Cvy) (r : Rep) : List Dev:=if r.at' < stC c then [⟨0,1,c.nx,stC c - r.at',[]⟩] else if stC c < r.at' then [⟨0,2,c.nx,r.at' - stC c,[]⟩] else []
noncomputable def begO (c : Cvy) (r : Rep) : List Dev:=dv3 c r (dv2 c r (dv1 c r))
theorem i32 {c : Cvy} (h : CvOK c) (hlt : c.nx < c.t.ps.length) (hmv : c.mv = false) {a b d : Nat} {r : Rep} (hra : 0 ≤ r.at' ∧ r.at' ≤ 1099511627776) {tm : List (Nat × AV)} {R : Mem} {nx : Nat} (hR : Opq 60 R nx) :
  Inl Try.prog 32 [.own 10 0,.agg (cRp r)] ⟨tm,cvM c a b d ++ R,nx⟩ (MidZ 60 tm nx R fun x B' R2=>B' = cvM (begC c r) a b d ∧ ∃ ko,nx ≤ ko ∧ x = .row ko (begO c r).length ∧ lm R2 ko = some (.row (begO c r).length 47 5 dDv cDv (begO c r))):=by
 refine Inl_opqY mixed Xt32 rfl hR (cvM_bas c a b d) (fun R' nx' hR' hnx hE=>?_)
 generalize hQd : FinY 60 [RV.t 4] nx' R' _ = Q
 have hN:=hR'.n
 obtain ⟨q1,q2,q3,q4⟩:=h.n
 have hpl:=h.pl
 have hnx0:=h.nx
 have hst:=(h.plt _ (getD_mem' dCr c.pl c.nx.toNat (by omega))).1
 have c47:=fn47 c
 have hdon : donB c = false:=by unfold donB;exact beq_eq_false_iff_ne.2 (by omega)
 rw [hdon] at c47
 have c31:=fn31 10
 simp (maxSteps:=400000) (disch:=omega) only [push_cast,↓reduceIte,reduceCtorEq,Nat.reduceAdd,Nat.reduceSub,Nat.reduceEqDiff,Nat.reduceLeDiff,Nat.reduceLT,Nat.reduceBEq,Nat.reduceDiv,Nat.reduceMod,Nat.reducePow,Nat.reduceMul,Int.reduceToNat,Int.reduceLT,Int.reduceLE,ne_l,ne_r,bq_l,bq_r,ls_l,ls_r,lm_set_same,hasM_eq,Option.isSome_some,cvM,List.cons_append,List.nil_append,initT]
 repeat (first | refine w1g ?_ | refine w1l ?_ | refine w1q ?_ | refine w1b ?_)
 refine w1r ?_
 simp (maxSteps:=400000) (disch:=omega) only [push_cast,↓reduceIte,reduceCtorEq,Nat.reduceAdd,Nat.reduceSub,Nat.reduceEqDiff,Nat.reduceLeDiff,Nat.reduceLT,Nat.reduceBEq,Nat.reduceDiv,Nat.reduceMod,Nat.reducePow,Nat.reduceMul,Int.reduceToNat,Int.reduceLT,Int.reduceLE,ne_l,ne_r,bq_l,bq_r,ls_l,ls_r,lm_set_same,hasM_eq,Option.isSome_some,cvM,List.cons_append,List.nil_append]
 refine W_le (le_adopt 4 47 5 dDv cDv (by omega) rfl) ?_
 simp (maxSteps:=400000) (disch:=omega) only [push_cast,↓reduceIte,reduceCtorEq,Nat.reduceAdd,Nat.reduceSub,Nat.reduceEqDiff,Nat.reduceLeDiff,Nat.reduceLT,Nat.reduceBEq,Nat.reduceDiv,Nat.reduceMod,Nat.reducePow,Nat.reduceMul,Int.reduceToNat,Int.reduceLT,Int.reduceLE,ne_l,ne_r,bq_l,bq_r,ls_l,ls_r,lm_set_same,hasM_eq,Option.isSome_some,cvM,List.cons_append,List.nil_append]
 refine W_le (leS.le (leS_same _ _ (fun j=>swapko (by omega) j) (fun j hj=>noneko (by omega) hj (hR'.hi j (by omega))))) ?_
 obtain ⟨ko,hko⟩ : ∃ ko,nx' + 1 + 1 = ko:=⟨_,rfl⟩
 rw [hko]
 have hk : 60 ≤ ko:=by omega
 have hRo : Opq 60 R' (ko + 1):=hR'.le (by omega)
 have hQ : ∀ (R2 : Mem) (nx2 : Nat),Ext (ko + 1) R' nx2 R2 → Q .r ⟨[(4,.row ko (begO c r).length)],cvM (begC c r) a b d ++ (ko,.row (begO c r).length 47 5 dDv cDv (begO c r)) :: R2,nx2⟩:=fun R2 nx2 hX=>by
  have hn:=hX.n
  rw [← hQd]
  refine ⟨[_],cvM (begC c r) a b d,_,⟨rfl,rfl⟩,sameM.refl _,cvM_bas _ _ _ _,extCons (hX.dn (by omega)) (by omega) (by dsimp only;omega),fun R3 h3=>⟨rfl,ko,by omega,rfl,?_⟩⟩
  rw [h3 ko (by omega)]
  exact lm_cons_eq
 clear hQd
 simp (maxSteps:=400000) (disch:=omega) only [push_cast,↓reduceIte,reduceCtorEq,Nat.reduceAdd,Nat.reduceSub,Nat.reduceEqDiff,Nat.reduceLeDiff,Nat.reduceLT,Nat.reduceBEq,Nat.reduceDiv,Nat.reduceMod,Nat.reducePow,Nat.reduceMul,Int.reduceToNat,Int.reduceLT,Int.reduceLE,ne_l,ne_r,bq_l,bq_r,ls_l,ls_r,lm_set_same,hasM_eq,Option.isSome_some,cvM,List.cons_append,List.nil_append]
 repeat' (first | refine w1g ?_ | refine w1l ?_ | refine w1q ?_ | refine w1b ?_ | refine w1p ?_ | ((first | refine w1r ?_ | refine w1k ?_ | refine w1e ?_);simp (maxSteps:=400000) (disch:=omega) only [push_cast,↓reduceIte,reduceCtorEq,Nat.reduceAdd,Nat.reduceSub,Nat.reduceEqDiff,Nat.reduceLeDiff,Nat.reduceLT,Nat.reduceBEq,Nat.reduceDiv,Nat.reduceMod,Nat.reducePow,Nat.reduceMul,Int.reduceToNat,Int.reduceLT,Int.reduceLE,ne_l,ne_r,bq_l,bq_r,ls_l,ls_r,lm_set_same,hasM_eq,Option.isSome_some,cvM,List.cons_append,List.nil_append]) | refine an2 ?_ | fail)
 refine CallC.go _ (fun _=>⟨trivial,c47⟩) rfl ?_
 simp (maxSteps:=400000) (disch:=omega) only [push_cast,↓reduceIte,reduceCtorEq,Nat.reduceAdd,Nat.reduceSub,Nat.reduceEqDiff,Nat.reduceLeDiff,Nat.reduceLT,Nat.reduceBEq,Nat.reduceDiv,Nat.reduceMod,Nat.reducePow,Nat.reduceMul,Int.reduceToNat,Int.reduceLT,Int.reduceLE,ne_l,ne_r,bq_l,bq_r,ls_l,ls_r,lm_set_same,hasM_eq,Option.isSome_some,cvM,List.cons_append,List.nil_append]
 refine CallC.now (by rw [hmv];exact c31) ?_
 simp (maxSteps:=400000) (disch:=omega) only [push_cast,↓reduceIte,reduceCtorEq,Nat.reduceAdd,Nat.reduceSub,Nat.reduceEqDiff,Nat.reduceLeDiff,Nat.reduceLT,Nat.reduceBEq,Nat.reduceDiv,Nat.reduceMod,Nat.reducePow,Nat.reduceMul,Int.reduceToNat,Int.reduceLT,Int.reduceLE,ne_l,ne_r,bq_l,bq_r,ls_l,ls_r,lm_set_same,hasM_eq,Option.isSome_some,cvM,List.cons_append,List.nil_append]
 repeat' (first | refine w1g ?_ | refine w1l ?_ | refine w1q ?_ | refine w1b ?_ | refine w1p ?_ | ((first | refine w1r ?_ | refine w1k ?_ | refine w1e ?_);simp (maxSteps:=400000) (disch:=omega) only [push_cast,↓reduceIte,reduceCtorEq,Nat.reduceAdd,Nat.reduceSub,Nat.reduceEqDiff,Nat.reduceLeDiff,Nat.reduceLT,Nat.reduceBEq,Nat.reduceDiv,Nat.reduceMod,Nat.reducePow,Nat.reduceMul,Int.reduceToNat,Int.reduceLT,Int.reduceLE,ne_l,ne_r,bq_l,bq_r,ls_l,ls_r,lm_set_same,hasM_eq,Option.isSome_some,cvM,List.cons_append,List.nil_append]) | refine an2 ?_ | fail)
 have est : (c.pl.getD c.nx.toNat dCr).st = stC c:=rfl
 rw [est] at hst ⊢
 have w2:=fun (O : List Dev) (ho : O.length ≤ 900) (ed : dv1 c r = O) (R2 : Mem) (nx2 : Nat) (hX : Ext (ko + 1) R' nx2 R2) (hn : ko < nx2)=>w85a (Q:=Q) h hlt (a:=a) (b:=b) (d:=d) hra hk hn (hX.opq hRo) ho (O:=O) (fun R3 nx3 hX3=>by
  have:=hQ R3 nx3 (hX.trans hX3)
  unfold begO at this
  rw [ed] at this
  exact this)
 unfold S85 at w2
 refine W_condD (by rfl) (fun h5=>?_) (fun h5=>?_)
 ·have w3:=w2 [⟨0,1,c.nx,0 - (r.at' - stC c),[]⟩] (by simp) (by unfold dv1;rw [if_pos (by omega),show (0 : Int) - (r.at' - stC c) = stC c - r.at' by omega])
  refine W_regLO 9 (by decide) ?_
  simp (maxSteps:=400000) (disch:=omega) only [push_cast,↓reduceIte,reduceCtorEq,Nat.reduceAdd,Nat.reduceSub,Nat.reduceEqDiff,Nat.reduceLeDiff,Nat.reduceLT,Nat.reduceBEq,Nat.reduceDiv,Nat.reduceMod,Nat.reducePow,Nat.reduceMul,Int.reduceToNat,Int.reduceLT,Int.reduceLE,ne_l,ne_r,bq_l,bq_r,ls_l,ls_r,lm_set_same,hasM_eq,Option.isSome_some,cvM,List.cons_append,List.nil_append,List.take_succ_cons,List.take_zero]
  refine WOL_le (le_dvn 44 rfl) ?_
  refine WOL_end (by decide) ?_
  simp (maxSteps:=400000) (disch:=omega) only [push_cast,↓reduceIte,reduceCtorEq,Nat.reduceAdd,Nat.reduceSub,Nat.reduceEqDiff,Nat.reduceLeDiff,Nat.reduceLT,Nat.reduceBEq,Nat.reduceDiv,Nat.reduceMod,Nat.reducePow,Nat.reduceMul,Int.reduceToNat,Int.reduceLT,Int.reduceLE,ne_l,ne_r,bq_l,bq_r,ls_l,ls_r,lm_set_same,hasM_eq,Option.isSome_some,cvM,List.cons_append,List.nil_append,List.drop_succ_cons,List.drop_zero]
  refine ⟨rfl,trivial,Dev,dDv,cDv,[⟨0,1,c.nx,0 - (r.at' - stC c),[]⟩],rfl,by omega,fun x _=>⟨rfl,rfl⟩,rfl,?_⟩
  simp (maxSteps:=400000) (disch:=omega) only [push_cast,↓reduceIte,reduceCtorEq,Nat.reduceAdd,Nat.reduceSub,Nat.reduceEqDiff,Nat.reduceLeDiff,Nat.reduceLT,Nat.reduceBEq,Nat.reduceDiv,Nat.reduceMod,Nat.reducePow,Nat.reduceMul,Int.reduceToNat,Int.reduceLT,Int.reduceLE,ne_l,ne_r,bq_l,bq_r,ls_l,ls_r,lm_set_same,hasM_eq,Option.isSome_some,cvM,List.cons_append,List.nil_append]
  refine ⟨rfl,⟨by first | omega | (dsimp only;omega),hasko hk⟩,trivial,[⟨0,1,c.nx,0 - (r.at' - stC c),[]⟩],rfl,by first | omega | simp,by first | omega | simp,?_⟩
  simp (maxSteps:=400000) (disch:=omega) only [push_cast,↓reduceIte,reduceCtorEq,Nat.reduceAdd,Nat.reduceSub,Nat.reduceEqDiff,Nat.reduceLeDiff,Nat.reduceLT,Nat.reduceBEq,Nat.reduceDiv,Nat.reduceMod,Nat.reducePow,Nat.reduceMul,Int.reduceToNat,Int.reduceLT,Int.reduceLE,ne_l,ne_r,bq_l,bq_r,ls_l,ls_r,lm_set_same,hasM_eq,Option.isSome_some,cvM,List.cons_append,List.nil_append]
  simp only [List.length_singleton] at w3
  exact WK_go (w3 _ _ ((Ext.refl hRo).put (by omega) (by omega) (by omega)) (by omega))
 repeat' (first | refine w1g ?_ | refine w1l ?_ | refine w1q ?_ | refine w1b ?_ | refine w1p ?_ | ((first | refine w1r ?_ | refine w1k ?_ | refine w1e ?_);simp (maxSteps:=400000) (disch:=omega) only [push_cast,↓reduceIte,reduceCtorEq,Nat.reduceAdd,Nat.reduceSub,Nat.reduceEqDiff,Nat.reduceLeDiff,Nat.reduceLT,Nat.reduceBEq,Nat.reduceDiv,Nat.reduceMod,Nat.reducePow,Nat.reduceMul,Int.reduceToNat,Int.reduceLT,Int.reduceLE,ne_l,ne_r,bq_l,bq_r,ls_l,ls_r,lm_set_same,hasM_eq,Option.isSome_some,cvM,List.cons_append,List.nil_append]) | refine an2 ?_ | fail)
 refine W_condD (by rfl) (fun h6=>?_) (fun h6=>?_)
 ·have w3:=w2 [⟨0,2,c.nx,r.at' - stC c,[]⟩] (by simp) (by unfold dv1;rw [if_neg (by omega),if_pos (by omega)])
  refine W_regLO 8 (by decide) ?_
  simp (maxSteps:=400000) (disch:=omega) only [push_cast,↓reduceIte,reduceCtorEq,Nat.reduceAdd,Nat.reduceSub,Nat.reduceEqDiff,Nat.reduceLeDiff,Nat.reduceLT,Nat.reduceBEq,Nat.reduceDiv,Nat.reduceMod,Nat.reducePow,Nat.reduceMul,Int.reduceToNat,Int.reduceLT,Int.reduceLE,ne_l,ne_r,bq_l,bq_r,ls_l,ls_r,lm_set_same,hasM_eq,Option.isSome_some,cvM,List.cons_append,List.nil_append,List.take_succ_cons,List.take_zero]
  refine WOL_le (le_dvn 57 rfl) ?_
  refine WOL_end (by decide) ?_
  simp (maxSteps:=400000) (disch:=omega) only [push_cast,↓reduceIte,reduceCtorEq,Nat.reduceAdd,Nat.reduceSub,Nat.reduceEqDiff,Nat.reduceLeDiff,Nat.reduceLT,Nat.reduceBEq,Nat.reduceDiv,Nat.reduceMod,Nat.reducePow,Nat.reduceMul,Int.reduceToNat,Int.reduceLT,Int.reduceLE,ne_l,ne_r,bq_l,bq_r,ls_l,ls_r,lm_set_same,hasM_eq,Option.isSome_some,cvM,List.cons_append,List.nil_append,List.drop_succ_cons,List.drop_zero]
  refine ⟨rfl,trivial,Dev,dDv,cDv,[⟨0,2,c.nx,r.at' - stC c,[]⟩],rfl,by omega,fun x _=>⟨rfl,rfl⟩,rfl,?_⟩
  simp (maxSteps:=400000) (disch:=omega) only [push_cast,↓reduceIte,reduceCtorEq,Nat.reduceAdd,Nat.reduceSub,Nat.reduceEqDiff,Nat.reduceLeDiff,Nat.reduceLT,Nat.reduceBEq,Nat.reduceDiv,Nat.reduceMod,Nat.reducePow,Nat.reduceMul,Int.reduceToNat,Int.reduceLT,Int.reduceLE,ne_l,ne_r,bq_l,bq_r,ls_l,ls_r,lm_set_same,hasM_eq,Option.isSome_some,cvM,List.cons_append,List.nil_append]
  refine ⟨rfl,⟨by first | omega | (dsimp only;omega),hasko hk⟩,trivial,[⟨0,2,c.nx,r.at' - stC c,[]⟩],rfl,by first | omega | simp,by first | omega | simp,?_⟩
  simp (maxSteps:=400000) (disch:=omega) only [push_cast,↓reduceIte,reduceCtorEq,Nat.reduceAdd,Nat.reduceSub,Nat.reduceEqDiff,Nat.reduceLeDiff,Nat.reduceLT,Nat.reduceBEq,Nat.reduceDiv,Nat.reduceMod,Nat.reducePow,Nat.reduceMul,Int.reduceToNat,Int.reduceLT,Int.reduceLE,ne_l,ne_r,bq_l,bq_r,ls_l,ls_r,lm_set_same,hasM_eq,Option.isSome_some,cvM,List.cons_append,List.nil_append]
  simp only [List.length_singleton] at w3
  exact WK_go (w3 _ _ ((Ext.refl hRo).put (by omega) (by omega) (by omega)) (by omega))
 ·have w3:=w2 [] (by simp) (by unfold dv1;rw [if_neg (by omega),if_neg (by omega)])
  refine w1k ?_
  simp (maxSteps:=400000) (disch:=omega) only [push_cast,↓reduceIte,reduceCtorEq,Nat.reduceAdd,Nat.reduceSub,Nat.reduceEqDiff,Nat.reduceLeDiff,Nat.reduceLT,Nat.reduceBEq,Nat.reduceDiv,Nat.reduceMod,Nat.reducePow,Nat.reduceMul,Int.reduceToNat,Int.reduceLT,Int.reduceLE,ne_l,ne_r,bq_l,bq_r,ls_l,ls_r,lm_set_same,hasM_eq,Option.isSome_some,cvM,List.cons_append,List.nil_append]
  refine WK_go (W_le (leStk [0,3,4] (fun j hj=>noneko hk (by dsimp only at hj;omega) (hR'.hi j (by dsimp only at hj;omega)))) ?_)
  exact w3 R' _ ((Ext.refl hRo).up (by dsimp only;omega)) (by dsimp only;omega)
theorem sameF (k : Nat) (b : Blk) (R : Mem) (j : Nat) : lm ((k,b) :: R) j = lm (setm R k b) j:=by
 by_cases e : j = k
 ·rw [e,lm_cons_eq,lm_set_same]
 ·rw [lm_cons_ne e,lm_set_other _ _ e]
abbrev KO (c : Cvy) (a b d nx : Nat) (O : List Dev) : AV → Mem → Mem → Prop:=fun x B' R2=>B' = cvM c a b d ∧ ∃ ko,nx ≤ ko ∧ x = .row ko O.length ∧ lm R2 ko = some (.row O.length 47 5 dDv cDv O)
def holC (c : Cvy) (r : Rep) : Cvy:=if c.mv = true then { c with hd:=c.hd + r.n } else { c with rdy:=max c.rdy (r.at' + r.n) }
theorem fin0 {c : Cvy} {a b d nx nx' nx2 : Nat} {R' : Mem} (hR' : Opq 60 R' nx') (hnx : nx ≤ nx') (h : nx' ≤ nx2) {T : List (Nat × AV)} :
  FinY 60 [.t 4] nx' R' (KO c a b d nx []) .r ⟨(4,.row nx2 0) :: T,(nx2,.row 0 47 5 dDv cDv []) :: (cvM c a b d ++ R'),nx2 + 1⟩:=by
 have hN:=hR'.n
 refine ⟨[_],cvM c a b d,(nx2,.row 0 47 5 dDv cDv []) :: R',⟨rfl,rfl⟩,fun j=>swapko (by omega) j,cvM_bas _ _ _ _,extCons ((Ext.refl hR').up (by dsimp only;omega)) (by omega) (by dsimp only;omega),fun R3 h3=>⟨rfl,nx2,by omega,rfl,?_⟩⟩
 rw [h3 nx2 h]
 exact lm_cons_eq
theorem i34 {c : Cvy} {a b d : Nat} {r : Rep} (h1 : 0 ≤ c.hd ∧ c.hd ≤ 1099511627776) (h2 : 0 ≤ r.n ∧ r.n ≤ 1099511627776) (h3 : 0 ≤ r.at' ∧ r.at' ≤ 1099511627776) {tm : List (Nat × AV)} {R : Mem} {nx : Nat} (hR : Opq 60 R nx) :
  Inl Try.prog 34 [.own 10 0,.agg (cRp r)] ⟨tm,cvM c a b d ++ R,nx⟩ (MidZ 60 tm nx R (KO (holC c r) a b d nx [])):=by
 refine Inl_opqY mixed Xt34 rfl hR (cvM_bas c a b d) (fun R' nx' hR' hnx hE=>?_)
 have hF : ∀ (c' : Cvy) (nx2 : Nat) (T : List (Nat × AV)),c' = holC c r → nx' ≤ nx2 → FinY 60 [.t 4] nx' R' (KO (holC c r) a b d nx []) .r ⟨(4,.row nx2 0) :: T,(nx2,.row 0 47 5 dDv cDv []) :: (cvM c' a b d ++ R'),nx2 + 1⟩:=fun c' nx2 T hc h=>by subst hc;exact fin0 hR' (Nat.le_of_lt hnx) h
 generalize FinY 60 [RV.t 4] nx' R' _ = Q at *
 simp (maxSteps:=400000) (disch:=omega) only [push_cast,↓reduceIte,reduceCtorEq,Nat.reduceAdd,Nat.reduceSub,Nat.reduceEqDiff,Nat.reduceLeDiff,Nat.reduceLT,Nat.reduceBEq,Nat.reduceDiv,Nat.reduceMod,Nat.reducePow,Nat.reduceMul,Int.reduceToNat,Int.reduceLT,Int.reduceLE,ne_l,ne_r,bq_l,bq_r,ls_l,ls_r,lm_set_same,hasM_eq,Option.isSome_some,cvM,List.cons_append,List.nil_append,initT]
 repeat' (first | refine w1g ?_ | refine w1l ?_ | refine w1q ?_ | refine w1b ?_ | refine w1p ?_ | ((first | refine w1r ?_ | refine w1k ?_ | refine w1e ?_);simp (maxSteps:=400000) (disch:=omega) only [push_cast,↓reduceIte,reduceCtorEq,Nat.reduceAdd,Nat.reduceSub,Nat.reduceEqDiff,Nat.reduceLeDiff,Nat.reduceLT,Nat.reduceBEq,Nat.reduceDiv,Nat.reduceMod,Nat.reducePow,Nat.reduceMul,Int.reduceToNat,Int.reduceLT,Int.reduceLE,ne_l,ne_r,bq_l,bq_r,ls_l,ls_r,lm_set_same,hasM_eq,Option.isSome_some,cvM,List.cons_append,List.nil_append]) | refine an2 ?_ | fail)
 refine W_cond (by rfl) (fun h=>?_) (fun h=>?_)
 ·repeat' (first | refine w1g ?_ | refine w1l ?_ | refine w1q ?_ | refine w1b ?_ | refine w1p ?_ | ((first | refine w1r ?_ | refine w1k ?_ | refine w1e ?_);simp (maxSteps:=400000) (disch:=omega) only [push_cast,↓reduceIte,reduceCtorEq,Nat.reduceAdd,Nat.reduceSub,Nat.reduceEqDiff,Nat.reduceLeDiff,Nat.reduceLT,Nat.reduceBEq,Nat.reduceDiv,Nat.reduceMod,Nat.reducePow,Nat.reduceMul,Int.reduceToNat,Int.reduceLT,Int.reduceLE,ne_l,ne_r,bq_l,bq_r,ls_l,ls_r,lm_set_same,hasM_eq,Option.isSome_some,cvM,List.cons_append,List.nil_append]) | refine an2 ?_ | fail)
  refine W_le (le_adopt 4 47 5 dDv cDv (by omega) rfl) ?_
  exact W_ret (hF { c with hd:=c.hd + r.n } _ _ (by unfold holC;rw [if_pos h]) (by first | omega | (dsimp only;omega)))
 ·repeat' (first | refine w1g ?_ | refine w1l ?_ | refine w1q ?_ | refine w1b ?_ | refine w1p ?_ | ((first | refine w1r ?_ | refine w1k ?_ | refine w1e ?_);simp (maxSteps:=400000) (disch:=omega) only [push_cast,↓reduceIte,reduceCtorEq,Nat.reduceAdd,Nat.reduceSub,Nat.reduceEqDiff,Nat.reduceLeDiff,Nat.reduceLT,Nat.reduceBEq,Nat.reduceDiv,Nat.reduceMod,Nat.reducePow,Nat.reduceMul,Int.reduceToNat,Int.reduceLT,Int.reduceLE,ne_l,ne_r,bq_l,bq_r,ls_l,ls_r,lm_set_same,hasM_eq,Option.isSome_some,cvM,List.cons_append,List.nil_append]) | refine an2 ?_ | fail)
  refine W_le (le_adopt 4 47 5 dDv cDv (by omega) rfl) ?_
  exact W_ret (hF { c with rdy:=max c.rdy (r.at' + r.n) } _ _ (by unfold holC;rw [h,if_neg (by decide)]) (by first | omega | (dsimp only;omega)))
abbrev TakeR (f : Nat) (c c' : Cvy) (a b d a' b' d' : Nat) (r : Rep) (O : List Dev) : Prop:=∀ {tm : List (Nat × AV)} {R : Mem} {nx : Nat},Opq 60 R nx → Inl Try.prog f [.own 10 0,.agg (cRp r)] ⟨tm,cvM c a b d ++ R,nx⟩ (MidZ 60 tm nx R (KO c' a' b' d' nx O))
theorem same44 {b1 b2 b3 b4 X Y : Blk} {R : Mem} {k4 k5 : Nat} (h4 : 60 ≤ k4) (h5 : 60 ≤ k5) (h : k4 ≠ k5) (j : Nat) :
  lm ((10,b1) :: (11,b2) :: (12,b3) :: (13,b4) :: setm (setm R k4 X) k5 Y) j = lm ((10,b1) :: (11,b2) :: (12,b3) :: (13,b4) :: (k4,X) :: (k5,Y) :: R) j:=by
 have e : lm (setm (setm R k4 X) k5 Y) j = lm ((k4,X) :: (k5,Y) :: R) j:=by
  by_cases e5 : j = k5
  ·rw [e5,lm_set_same,lm_cons_ne (fun h'=>h h'.symm),lm_cons_eq]
  ·rw [lm_set_other _ _ e5]
   by_cases e4 : j = k4
   ·rw [e4,lm_set_same,lm_cons_eq]
   ·rw [lm_set_other _ _ e4,lm_cons_ne e4,lm_cons_ne e5]
 simp only [lm] at e ⊢
 rw [e]
theorem none44 {b1 b2 b3 b4 X Y : Blk} {R : Mem} {k4 k5 j : Nat} (h4 : 60 ≤ k4) (h5 : k4 < k5) (hj : k5 < j) (hR : lm R j = none) :
  lm ((10,b1) :: (11,b2) :: (12,b3) :: (13,b4) :: (k4,X) :: (k5,Y) :: R) j = none:=by
 rw [lm_cons_ne (by omega),lm_cons_ne (by omega),lm_cons_ne (by omega),lm_cons_ne (by omega),lm_cons_ne (by omega),lm_cons_ne (by omega)];exact hR
theorem has44 {b1 b2 b3 b4 X Y Z : Blk} {R : Mem} {k4 k5 ko : Nat} (h4 : 60 ≤ k4) (h5 : k4 < k5) (ho : k5 < ko) : hasM ((10,b1) :: (11,b2) :: (12,b3) :: (13,b4) :: (k4,X) :: (k5,Y) :: (ko,Z) :: R) ko = true:=by
 rw [hasM_eq,lm_cons_ne (by omega),lm_cons_ne (by omega),lm_cons_ne (by omega),lm_cons_ne (by omega),lm_cons_ne (by omega),lm_cons_ne (by omega),lm_cons_eq];rfl
def repS (n : Int) (o : List Dev) (i : Nat) : List Dev:=o.set i { o.getD i dDv with rp:=n }
def repL (n : Int) (O : List Dev) : Nat → List Dev
 |0=>O
 |i + 1=>repS n (repL n O i) i
theorem repL_succ (n : Int) (O : List Dev) (i : Nat) : repL n O (i + 1) = repS n (repL n O i) i:=rfl
theorem repL_len (n : Int) (O : List Dev) : ∀ i,(repL n O i).length = O.length
 |0=>rfl
 |i + 1=>by rw [repL_succ,repS,List.length_set];exact repL_len n O i
theorem repL_cs (n : Int) {O : List Dev} {N : Nat} (h : ∀ x ∈ O,x.cs.length ≤ N) : ∀ i,∀ x ∈ repL n O i,x.cs.length ≤ N
 |0=>h
 |i + 1=>fun x hx=>by
  rw [repL_succ,repS] at hx
  have ih:=repL_cs n h i
  rcases List.mem_or_eq_of_mem_set hx with hx | rfl
  ·exact ih x hx
  ·show ((repL n O i).getD i dDv).cs.length ≤ N
   by_cases hi : i < (repL n O i).length
   ·exact ih _ (getD_mem' dDv _ i hi)
   ·rw [List.getD_eq_getElem?_getD,List.getElem?_eq_none (by omega)];exact Nat.zero_le _
theorem lm44 {b1 b2 b3 b4 X : Blk} {R : Mem} {k4 : Nat} (h4 : 60 ≤ k4) : lm ((10,b1) :: (11,b2) :: (12,b3) :: (13,b4) :: (k4,X) :: R) k4 = some X:=by
 rw [lm_cons_ne (by omega),lm_cons_ne (by omega),lm_cons_ne (by omega),lm_cons_ne (by omega),lm_cons_eq]
theorem lmo44 {b1 b2 b3 b4 X Y Z : Blk} {R : Mem} {k4 k5 ko : Nat} (h4 : 60 ≤ k4) (h5 : k4 < k5) (ho : k5 < ko) : lm ((10,b1) :: (11,b2) :: (12,b3) :: (13,b4) :: (k4,X) :: (k5,Y) :: (ko,Z) :: R) ko = some Z:=by
 rw [lm_cons_ne (by omega),lm_cons_ne (by omega),lm_cons_ne (by omega),lm_cons_ne (by omega),lm_cons_ne (by omega),lm_cons_ne (by omega),lm_cons_eq]
theorem put44 {b1 b2 b3 b4 X Y Z : Blk} {R : Mem} {k4 k5 ko : Nat} (h4 : 60 ≤ k4) (h5 : 60 ≤ k5) (ho : 60 ≤ ko) (e4 : lm R k4 = some X) (e5 : lm R k5 = some Y) (eo : lm R ko = some Z) (j : Nat) :
  lm ((10,b1) :: (11,b2) :: (12,b3) :: (13,b4) :: (k4,X) :: (k5,Y) :: (ko,Z) :: R) j = lm ((10,b1) :: (11,b2) :: (12,b3) :: (13,b4) :: R) j:=by
 have e : lm ((k4,X) :: (k5,Y) :: (ko,Z) :: R) j = lm R j:=by
  by_cases q4 : j = k4
  ·rw [q4,lm_cons_eq,e4]
  ·by_cases q5 : j = k5
   ·rw [lm_cons_ne q4,q5,lm_cons_eq,e5]
   ·by_cases qo : j = ko
    ·rw [lm_cons_ne q4,lm_cons_ne q5,qo,lm_cons_eq,eo]
    ·rw [lm_cons_ne q4,lm_cons_ne q5,lm_cons_ne qo]
 simp only [lm] at e ⊢
 rw [e]
theorem hid44 {b1 b2 b3 b4 X Y Z : Blk} {R : Mem} {k4 k5 ko nx j : Nat} (h4 : 60 ≤ nx) (h5 : k4 < nx ∧ k5 < nx) (ho : ko < nx) (hj : nx ≤ j) (hR : lm R j = none) :
  lm ((10,b1) :: (11,b2) :: (12,b3) :: (13,b4) :: (k4,X) :: (k5,Y) :: (ko,Z) :: R) j = none:=by
 rw [lm_cons_ne (by omega),lm_cons_ne (by omega),lm_cons_ne (by omega),lm_cons_ne (by omega),lm_cons_ne (by omega),lm_cons_ne (by omega),lm_cons_ne (by omega)];exact hR
def takR (c c' : Cvy) (r : Rep) (O : List Dev) : Cvy:={ c' with now:=r.at',rp:=c'.rp + 1,dv:=c'.dv ++ repL c.rp O O.length }
theorem i8 {c c' : Cvy} {a b d a' b' d' : Nat} {r : Rep} {O : List Dev} (hv : 0 < c.pl.length) (h83 : Sy.Fn Try.prog 30 [.agg (cRp r)] (.tup [])) (hnow : c.now ≤ r.at') (hrp : 0 ≤ c.rp ∧ c.rp < 400)
  (hk : (r.kd = 1 ∧ TakeR 32 c c' a b d a' b' d' r O) ∨ (r.kd = 2 ∧ TakeR 33 c c' a b d a' b' d' r O) ∨ (r.kd = 3 ∧ TakeR 34 c c' a b d a' b' d' r O) ∨ (r.kd = 4 ∧ TakeR 35 c c' a b d a' b' d' r O) ∨ (r.kd = 5 ∧ TakeR 36 c c' a b d a' b' d' r O) ∨ (r.kd = 6 ∧ TakeR 37 c c' a b d a' b' d' r O))
  (hO : O.length ≤ 1000) (hOc : ∀ x ∈ O,x.cs.length ≤ 1000000) (hrp' : c'.rp = c.rp) (hdv : c'.dv.length ≤ 10000) {tm : List (Nat × AV)} {R : Mem} {nx : Nat} (hR : Opq 60 R nx) :
  Inl Try.prog 8 [.own 10 0,.agg (cRp r)] ⟨tm,cvM c a b d ++ R,nx⟩ (MidZ 60 tm nx R fun x B' R2=>B' = cvM (takR c c' r O) a' b' (d' + 1) ∧ x = .tup [aDv (repL c.rp O O.length),iv 0]):=by
 refine Inl_opqY2 mixed Xt8 rfl hR (cvM_bas c a b d) (fun R' nx' hR' hnx hE=>?_)
 generalize hQd : FinY 60 [RV.c 4 1 false,RV.c 5 1 false] nx' R' _ = Q
 have hN:=hR'.n
 have c28:=fn28 c hv
 have c84a:=fn31 13
 have c84b:=fn31 11
 refine W2_seq ?_
 simp (maxSteps:=400000) (disch:=omega) only [push_cast,↓reduceIte,reduceCtorEq,Nat.reduceAdd,Nat.reduceSub,Nat.reduceEqDiff,Nat.reduceLeDiff,Nat.reduceLT,Nat.reduceBEq,Nat.reduceDiv,Nat.reduceMod,Nat.reducePow,Nat.reduceMul,Int.reduceToNat,Int.reduceLT,Int.reduceLE,ne_l,ne_r,bq_l,bq_r,ls_l,ls_r,lm_set_same,hasM_eq,Option.isSome_some,cvM,List.cons_append,List.nil_append,initT]
 repeat' (first | refine w1g ?_ | refine w1l ?_ | refine w1q ?_ | refine w1b ?_ | refine w1p ?_ | ((first | refine w1r ?_ | refine w1k ?_ | refine w1e ?_);simp (maxSteps:=400000) (disch:=omega) only [push_cast,↓reduceIte,reduceCtorEq,Nat.reduceAdd,Nat.reduceSub,Nat.reduceEqDiff,Nat.reduceLeDiff,Nat.reduceLT,Nat.reduceBEq,Nat.reduceDiv,Nat.reduceMod,Nat.reducePow,Nat.reduceMul,Int.reduceToNat,Int.reduceLT,Int.reduceLE,ne_l,ne_r,bq_l,bq_r,ls_l,ls_r,lm_set_same,hasM_eq,Option.isSome_some,cvM,List.cons_append,List.nil_append]) | refine an2 ?_ | fail)
 refine W2_le (leS.le (leS_same _ (nx' + 1 + 1 + 1 + 1) (fun j=>(same44 (k4:=nx' + 1) (k5:=nx' + 1 + 1) (by omega) (by omega) (by omega) j).symm) (fun j hj=>none44 (by omega) (by omega) (by omega) (hR'.hi j (by omega))))) ?_
 generalize hk4 : nx' + 1 = k4
 generalize hk5 : k4 + 1 = k5
 refine W2_seq ?_
 unfold Xn8_1
 refine W_seq ?_
 repeat' (first | refine w1g ?_ | refine w1l ?_ | refine w1q ?_ | refine w1b ?_ | refine w1p ?_ | ((first | refine w1r ?_ | refine w1k ?_ | refine w1e ?_);simp (maxSteps:=400000) (disch:=omega) only [push_cast,↓reduceIte,reduceCtorEq,Nat.reduceAdd,Nat.reduceSub,Nat.reduceEqDiff,Nat.reduceLeDiff,Nat.reduceLT,Nat.reduceBEq,Nat.reduceDiv,Nat.reduceMod,Nat.reducePow,Nat.reduceMul,Int.reduceToNat,Int.reduceLT,Int.reduceLE,ne_l,ne_r,bq_l,bq_r,ls_l,ls_r,lm_set_same,hasM_eq,Option.isSome_some,cvM,List.cons_append,List.nil_append]) | refine an2 ?_ | fail)
 refine CallC.go _ (fun _=>⟨trivial,c28⟩) rfl ?_
 simp (maxSteps:=400000) (disch:=omega) only [push_cast,↓reduceIte,reduceCtorEq,Nat.reduceAdd,Nat.reduceSub,Nat.reduceEqDiff,Nat.reduceLeDiff,Nat.reduceLT,Nat.reduceBEq,Nat.reduceDiv,Nat.reduceMod,Nat.reducePow,Nat.reduceMul,Int.reduceToNat,Int.reduceLT,Int.reduceLE,ne_l,ne_r,bq_l,bq_r,ls_l,ls_r,lm_set_same,hasM_eq,Option.isSome_some,cvM,List.cons_append,List.nil_append]
 repeat' (first | refine w1g ?_ | refine w1l ?_ | refine w1q ?_ | refine w1b ?_ | refine w1p ?_ | ((first | refine w1r ?_ | refine w1k ?_ | refine w1e ?_);simp (maxSteps:=400000) (disch:=omega) only [push_cast,↓reduceIte,reduceCtorEq,Nat.reduceAdd,Nat.reduceSub,Nat.reduceEqDiff,Nat.reduceLeDiff,Nat.reduceLT,Nat.reduceBEq,Nat.reduceDiv,Nat.reduceMod,Nat.reducePow,Nat.reduceMul,Int.reduceToNat,Int.reduceLT,Int.reduceLE,ne_l,ne_r,bq_l,bq_r,ls_l,ls_r,lm_set_same,hasM_eq,Option.isSome_some,cvM,List.cons_append,List.nil_append]) | refine an2 ?_ | fail)
 refine W_cond (by rfl) (fun h=>by cases h) (fun _=>?_)
 repeat' (first | refine w1g ?_ | refine w1l ?_ | refine w1q ?_ | refine w1b ?_ | refine w1p ?_ | ((first | refine w1r ?_ | refine w1k ?_ | refine w1e ?_);simp (maxSteps:=400000) (disch:=omega) only [push_cast,↓reduceIte,reduceCtorEq,Nat.reduceAdd,Nat.reduceSub,Nat.reduceEqDiff,Nat.reduceLeDiff,Nat.reduceLT,Nat.reduceBEq,Nat.reduceDiv,Nat.reduceMod,Nat.reducePow,Nat.reduceMul,Int.reduceToNat,Int.reduceLT,Int.reduceLE,ne_l,ne_r,bq_l,bq_r,ls_l,ls_r,lm_set_same,hasM_eq,Option.isSome_some,cvM,List.cons_append,List.nil_append]) | refine an2 ?_ | fail)
 refine W2_dfr nop82 ?_
 simp (maxSteps:=400000) (disch:=omega) only [push_cast,↓reduceIte,reduceCtorEq,Nat.reduceAdd,Nat.reduceSub,Nat.reduceEqDiff,Nat.reduceLeDiff,Nat.reduceLT,Nat.reduceBEq,Nat.reduceDiv,Nat.reduceMod,Nat.reducePow,Nat.reduceMul,Int.reduceToNat,Int.reduceLT,Int.reduceLE,ne_l,ne_r,bq_l,bq_r,ls_l,ls_r,lm_set_same,hasM_eq,Option.isSome_some,cvM,List.cons_append,List.nil_append]
 refine W2_seq ?_
 repeat' (first | refine w1g ?_ | refine w1l ?_ | refine w1q ?_ | refine w1b ?_ | refine w1p ?_ | ((first | refine w1r ?_ | refine w1k ?_ | refine w1e ?_ | refine CallC.now (h83) ?_);simp (maxSteps:=400000) (disch:=omega) only [push_cast,↓reduceIte,reduceCtorEq,Nat.reduceAdd,Nat.reduceSub,Nat.reduceEqDiff,Nat.reduceLeDiff,Nat.reduceLT,Nat.reduceBEq,Nat.reduceDiv,Nat.reduceMod,Nat.reducePow,Nat.reduceMul,Int.reduceToNat,Int.reduceLT,Int.reduceLE,ne_l,ne_r,bq_l,bq_r,ls_l,ls_r,lm_set_same,hasM_eq,Option.isSome_some,cvM,List.cons_append,List.nil_append]) | refine an2 ?_ | fail)
 have e1 : decide (r.at' < c.now) = false:=decide_eq_false (by omega)
 have e2 : (c.rp == 400) = false:=beq_eq_false_iff_ne.2 (by omega)
 refine W2_seq ?_
 repeat' (first | refine w1g ?_ | refine w1l ?_ | refine w1q ?_ | refine w1b ?_ | refine w1p ?_ | ((first | refine w1r ?_ | refine w1k ?_ | refine w1e ?_ | refine CallC.now (c84a) ?_);simp (maxSteps:=400000) (disch:=omega) only [push_cast,↓reduceIte,reduceCtorEq,Nat.reduceAdd,Nat.reduceSub,Nat.reduceEqDiff,Nat.reduceLeDiff,Nat.reduceLT,Nat.reduceBEq,Nat.reduceDiv,Nat.reduceMod,Nat.reducePow,Nat.reduceMul,Int.reduceToNat,Int.reduceLT,Int.reduceLE,ne_l,ne_r,bq_l,bq_r,ls_l,ls_r,lm_set_same,hasM_eq,Option.isSome_some,cvM,List.cons_append,List.nil_append,e1]) | refine an2 ?_ | fail)
 refine W2_seq ?_
 repeat' (first | refine w1g ?_ | refine w1l ?_ | refine w1q ?_ | refine w1b ?_ | refine w1p ?_ | ((first | refine w1r ?_ | refine w1k ?_ | refine w1e ?_ | refine CallC.now (c84b) ?_);simp (maxSteps:=400000) (disch:=omega) only [push_cast,↓reduceIte,reduceCtorEq,Nat.reduceAdd,Nat.reduceSub,Nat.reduceEqDiff,Nat.reduceLeDiff,Nat.reduceLT,Nat.reduceBEq,Nat.reduceDiv,Nat.reduceMod,Nat.reducePow,Nat.reduceMul,Int.reduceToNat,Int.reduceLT,Int.reduceLE,ne_l,ne_r,bq_l,bq_r,ls_l,ls_r,lm_set_same,hasM_eq,Option.isSome_some,cvM,List.cons_append,List.nil_append,e2]) | refine an2 ?_ | fail)
 refine W2_seq ?_
 repeat' (first | refine w1g ?_ | refine w1l ?_ | refine w1q ?_ | refine w1b ?_ | refine w1p ?_ | ((first | refine w1r ?_ | refine w1k ?_ | refine w1e ?_);simp (maxSteps:=400000) (disch:=omega) only [push_cast,↓reduceIte,reduceCtorEq,Nat.reduceAdd,Nat.reduceSub,Nat.reduceEqDiff,Nat.reduceLeDiff,Nat.reduceLT,Nat.reduceBEq,Nat.reduceDiv,Nat.reduceMod,Nat.reducePow,Nat.reduceMul,Int.reduceToNat,Int.reduceLT,Int.reduceLE,ne_l,ne_r,bq_l,bq_r,ls_l,ls_r,lm_set_same,hasM_eq,Option.isSome_some,cvM,List.cons_append,List.nil_append]) | refine an2 ?_ | fail)
 generalize hk6 : k5 + 1 + 1 + 1 + 1 + 1 + 1 + 1 + 1 + 1 + 1 + 1 + 1 + 1 + 1 + 1 + 1 + 1 + 1 + 1 + 1 + 1 + 1 + 1 + 1 + 1 + 1 + 1 + 1 + 1 + 1 + 1 + 1 + 1 + 1 + 1 = k6
 have hkb : 1 ≤ r.kd ∧ r.kd ≤ 6:=by
  rcases hk with h | h | h | h | h | h <;> omega
 obtain ⟨f,e3,hT⟩ : ∃ f,nth [.v .nilFunc,.cq 32 [.own 10 0] [],.cq 33 [.own 10 0] [],.cq 34 [.own 10 0] [],.cq 35 [.own 10 0] [],.cq 36 [.own 10 0] [],.cq 37 [.own 10 0] []] (r.kd.toNat * 1) = .cq f [.own 10 0] [] ∧ TakeR f c c' a b d a' b' d' r O:=by
  rcases hk with ⟨h,q⟩ | ⟨h,q⟩ | ⟨h,q⟩ | ⟨h,q⟩ | ⟨h,q⟩ | ⟨h,q⟩ <;> rw [h] <;> exact ⟨_,rfl,q⟩
 clear hk
 refine W2_seq ?_
 repeat' (first | refine w1g ?_ | refine w1l ?_ | refine w1q ?_ | refine w1b ?_ | refine w1p ?_ | ((first | refine W_regS 5 (by decide) (by decide) ?_ | refine w1r ?_ | refine w1k ?_ | refine w1e ?_);simp (maxSteps:=400000) (disch:=omega) only [push_cast,↓reduceIte,reduceCtorEq,Nat.reduceAdd,Nat.reduceSub,Nat.reduceEqDiff,Nat.reduceLeDiff,Nat.reduceLT,Nat.reduceBEq,Nat.reduceDiv,Nat.reduceMod,Nat.reducePow,Nat.reduceMul,Int.reduceToNat,Int.reduceLT,Int.reduceLE,ne_l,ne_r,bq_l,bq_r,ls_l,ls_r,lm_set_same,hasM_eq,Option.isSome_some,cvM,List.cons_append,List.nil_append,e3]) | refine an2 ?_ | fail)
 generalize hk7 : k6 + 1 + 1 + 1 + 1 + 1 + 1 + 1 = k7
 generalize hM6 : (k4,Blk.cells [.v (.slice none 0 0)]) :: (k5,Blk.cells [.v (.int .i64 0)]) :: setm R' k6 _ = M6
 have hM6l : ∀ j,j ≠ k4 → j ≠ k5 → j ≠ k6 → lm M6 j = lm R' j:=fun j h4 h5 h6=>by
  rw [← hM6,lm_cons_ne h4,lm_cons_ne h5,lm_set_other _ _ h6]
 have hM64 : lm M6 k4 = some (.cells [.v (.slice none 0 0)]):=by rw [← hM6];exact lm_cons_eq
 have hM65 : lm M6 k5 = some (.cells [.v (.int .i64 0)]):=by rw [← hM6,lm_cons_ne (by omega)];exact lm_cons_eq
 clear hM6
 have hR6 : Opq 60 M6 k7:=⟨by omega,fun j hj=>by rw [hM6l j (by omega) (by omega) (by omega)];exact hR'.lo j hj,fun j hj=>by
  rw [hM6l j (by omega) (by omega) (by omega)];exact hR'.hi j (by omega)⟩
 refine CallC.inl (Inl_le' (hT hR6) ?_)
 rintro x s' ⟨B',R2,nx2,hB',hX,⟨rfl,ko,hko,rfl,hrow⟩,hl⟩
 have h24:=(hX.eq k4 (by omega)).trans hM64
 have h25:=(hX.eq k5 (by omega)).trans hM65
 have hXn:=hX.n
 have hko2 : ko < nx2:=by
  rcases Nat.lt_or_ge ko nx2 with h | h
  ·exact h
  ·rw [hX.hi ko h] at hrow;cases hrow
 have hX2 : Ext nx' R' nx2 R2:=⟨by omega,fun j hj=>by rw [hX.eq j (by omega)];exact hM6l j (by omega) (by omega) (by omega),hX.hi⟩
 refine ⟨⟨_,cvM c' a' b' d' ++ (k4,.cells [.v (.slice none 0 0)]) :: (k5,.cells [.v (.int .i64 0)]) :: (ko,.row O.length 47 5 dDv cDv O) :: R2,nx2⟩,?_,hl.trans (leS_same _ nx2 (fun j=>put44 (by omega) (by omega) (by omega) h24 h25 hrow j) (fun j hj=>hid44 (by omega) (by omega) (by omega) hj (hX.hi j hj)))⟩
 clear hl hM64 hM65 hM6l hR6
 simp (maxSteps:=400000) (disch:=omega) only [push_cast,↓reduceIte,reduceCtorEq,Nat.reduceAdd,Nat.reduceSub,Nat.reduceEqDiff,Nat.reduceLeDiff,Nat.reduceLT,Nat.reduceBEq,Nat.reduceDiv,Nat.reduceMod,Nat.reducePow,Nat.reduceMul,Int.reduceToNat,Int.reduceLT,Int.reduceLE,ne_l,ne_r,bq_l,bq_r,ls_l,ls_r,lm_set_same,hasM_eq,Option.isSome_some,cvM,List.cons_append,List.nil_append]
 refine ⟨by omega,?_⟩
 refine W2_seq ?_
 unfold Xn8_13
 refine W_seq ?_
 repeat' (first | refine w1g ?_ | refine w1l ?_ | refine w1q ?_ | refine w1b ?_ | refine w1p ?_ | ((first | refine w1r ?_ | refine w1k ?_ | refine w1e ?_);simp (maxSteps:=400000) (disch:=omega) only [push_cast,↓reduceIte,reduceCtorEq,Nat.reduceAdd,Nat.reduceSub,Nat.reduceEqDiff,Nat.reduceLeDiff,Nat.reduceLT,Nat.reduceBEq,Nat.reduceDiv,Nat.reduceMod,Nat.reducePow,Nat.reduceMul,Int.reduceToNat,Int.reduceLT,Int.reduceLE,ne_l,ne_r,bq_l,bq_r,ls_l,ls_r,lm_set_same,hasM_eq,Option.isSome_some,cvM,List.cons_append,List.nil_append]) | refine an2 ?_ | fail)
 have hRn : ∀ j,nx2 ≤ j → lm R2 j = none:=hX.hi
 refine W_loopM (fun i : Nat=>[(50,iv i)]) (fun i=>cvM c' a' b' d' ++ (k4,.cells [.row ko O.length]) :: (k5,.cells [.v (.int .i64 0)]) :: (ko,.row O.length 47 5 dDv cDv (repL c.rp O i)) :: R2) (fun i=>i ≤ O.length) (fun i=>O.length - i) (nx2 + 30) (fun i _ j hj=>hid44 (nx:=nx2 + 30) (by omega) (by omega) (by omega) hj (hRn j (by omega))) 0 (by omega) (by rfl) (by rfl) (fun i hi=>?_)
 have hrl:=repL_len c.rp O i
 have hrs:=repL_succ c.rp O i
 obtain ⟨P,hP⟩ : ∃ P,repL c.rp O i = P:=⟨_,rfl⟩
 rw [hP] at hrl hrs
 rw [hP]
 simp (maxSteps:=400000) (disch:=omega) only [push_cast,↓reduceIte,reduceCtorEq,Nat.reduceAdd,Nat.reduceSub,Nat.reduceEqDiff,Nat.reduceLeDiff,Nat.reduceLT,Nat.reduceBEq,Nat.reduceDiv,Nat.reduceMod,Nat.reducePow,Nat.reduceMul,Int.reduceToNat,Int.reduceLT,Int.reduceLE,ne_l,ne_r,bq_l,bq_r,ls_l,ls_r,lm_set_same,hasM_eq,Option.isSome_some,cvM,List.cons_append,List.nil_append,keepL]
 repeat' (first | refine w1g ?_ | refine w1l ?_ | refine w1q ?_ | refine w1b ?_ | refine w1p ?_ | ((first | refine w1r ?_ | refine w1k ?_ | refine w1e ?_);simp (maxSteps:=400000) (disch:=omega) only [push_cast,↓reduceIte,reduceCtorEq,Nat.reduceAdd,Nat.reduceSub,Nat.reduceEqDiff,Nat.reduceLeDiff,Nat.reduceLT,Nat.reduceBEq,Nat.reduceDiv,Nat.reduceMod,Nat.reducePow,Nat.reduceMul,Int.reduceToNat,Int.reduceLT,Int.reduceLE,ne_l,ne_r,bq_l,bq_r,ls_l,ls_r,lm_set_same,hasM_eq,Option.isSome_some,cvM,List.cons_append,List.nil_append,keepL]) | refine an2 ?_ | fail)
 refine W_condD (by rfl) (fun h=>?_) (fun h=>?_)
 ·have hlt : i < O.length:=by omega
  repeat' (first | refine w1g ?_ | refine w1l ?_ | refine w1q ?_ | refine w1b ?_ | refine w1p ?_ | ((first | refine w1r ?_ | refine w1k ?_ | refine w1e ?_);simp (maxSteps:=400000) (disch:=omega) only [push_cast,↓reduceIte,reduceCtorEq,Nat.reduceAdd,Nat.reduceSub,Nat.reduceEqDiff,Nat.reduceLeDiff,Nat.reduceLT,Nat.reduceBEq,Nat.reduceDiv,Nat.reduceMod,Nat.reducePow,Nat.reduceMul,Int.reduceToNat,Int.reduceLT,Int.reduceLE,ne_l,ne_r,bq_l,bq_r,ls_l,ls_r,lm_set_same,hasM_eq,Option.isSome_some,cvM,List.cons_append,List.nil_append,keepL]) | refine an2 ?_ | fail)
  refine ⟨rfl,⟨by first | omega | (dsimp only;omega),has44 (by omega) (by omega) (by omega)⟩,by omega,{ P.getD i dDv with rp:=c.rp },by rw [← hrp'];rfl,rfl,?_⟩
  rw [show P.set i { P.getD i dDv with rp:=c.rp } = repL c.rp O (i + 1) from hrs.symm]
  simp (maxSteps:=400000) (disch:=omega) only [push_cast,↓reduceIte,reduceCtorEq,Nat.reduceAdd,Nat.reduceSub,Nat.reduceEqDiff,Nat.reduceLeDiff,Nat.reduceLT,Nat.reduceBEq,Nat.reduceDiv,Nat.reduceMod,Nat.reducePow,Nat.reduceMul,Int.reduceToNat,Int.reduceLT,Int.reduceLE,ne_l,ne_r,bq_l,bq_r,ls_l,ls_r,lm_set_same,hasM_eq,Option.isSome_some,cvM,List.cons_append,List.nil_append,keepL]
  repeat' (first | refine w1g ?_ | refine w1l ?_ | refine w1q ?_ | refine w1b ?_ | refine w1p ?_ | ((first | refine w1r ?_ | refine w1k ?_ | refine w1e ?_);simp (maxSteps:=400000) (disch:=omega) only [push_cast,↓reduceIte,reduceCtorEq,Nat.reduceAdd,Nat.reduceSub,Nat.reduceEqDiff,Nat.reduceLeDiff,Nat.reduceLT,Nat.reduceBEq,Nat.reduceDiv,Nat.reduceMod,Nat.reducePow,Nat.reduceMul,Int.reduceToNat,Int.reduceLT,Int.reduceLE,ne_l,ne_r,bq_l,bq_r,ls_l,ls_r,lm_set_same,hasM_eq,Option.isSome_some,cvM,List.cons_append,List.nil_append,keepL]) | refine an2 ?_ | fail)
  exact ⟨i + 1,by omega,by omega,by rfl,by rfl⟩
 ·obtain rfl : i = O.length:=by omega
  repeat' (first | refine w1g ?_ | refine w1l ?_ | refine w1q ?_ | refine w1b ?_ | refine w1p ?_ | ((first | refine w1r ?_ | refine w1k ?_ | refine w1e ?_);simp (maxSteps:=400000) (disch:=omega) only [push_cast,↓reduceIte,reduceCtorEq,Nat.reduceAdd,Nat.reduceSub,Nat.reduceEqDiff,Nat.reduceLeDiff,Nat.reduceLT,Nat.reduceBEq,Nat.reduceDiv,Nat.reduceMod,Nat.reducePow,Nat.reduceMul,Int.reduceToNat,Int.reduceLT,Int.reduceLE,ne_l,ne_r,bq_l,bq_r,ls_l,ls_r,lm_set_same,hasM_eq,Option.isSome_some,cvM,List.cons_append,List.nil_append]) | refine an2 ?_ | fail)
  have hrp2 : 0 ≤ c'.rp ∧ c'.rp < 400:=hrp' ▸ hrp
  refine W2_seq ?_
  repeat' (first | refine w1g ?_ | refine w1l ?_ | refine w1q ?_ | refine w1b ?_ | refine w1p ?_ | ((first | refine w1r ?_ | refine w1k ?_ | refine w1e ?_);simp (maxSteps:=400000) (disch:=omega) only [push_cast,↓reduceIte,reduceCtorEq,Nat.reduceAdd,Nat.reduceSub,Nat.reduceEqDiff,Nat.reduceLeDiff,Nat.reduceLT,Nat.reduceBEq,Nat.reduceDiv,Nat.reduceMod,Nat.reducePow,Nat.reduceMul,Int.reduceToNat,Int.reduceLT,Int.reduceLE,ne_l,ne_r,bq_l,bq_r,ls_l,ls_r,lm_set_same,hasM_eq,Option.isSome_some,cvM,List.cons_append,List.nil_append]) | refine an2 ?_ | fail)
  refine W2_seq ?_
  repeat' (first | refine w1g ?_ | refine w1l ?_ | refine w1q ?_ | refine w1b ?_ | refine w1p ?_ | ((first | refine w1r ?_ | refine w1k ?_ | refine w1e ?_);simp (maxSteps:=400000) (disch:=omega) only [push_cast,↓reduceIte,reduceCtorEq,Nat.reduceAdd,Nat.reduceSub,Nat.reduceEqDiff,Nat.reduceLeDiff,Nat.reduceLT,Nat.reduceBEq,Nat.reduceDiv,Nat.reduceMod,Nat.reducePow,Nat.reduceMul,Int.reduceToNat,Int.reduceLT,Int.reduceLE,ne_l,ne_r,bq_l,bq_r,ls_l,ls_r,lm_set_same,hasM_eq,Option.isSome_some,cvM,List.cons_append,List.nil_append]) | refine an2 ?_ | fail)
  have hPc:=repL_cs c.rp hOc O.length
  rw [hP] at hPc
  have c38:=fn38 P (by omega) hPc
  refine W2_le (le_frzC k4 0 ko O.length 47 5 dDv cDv P [.row ko O.length] (lm44 (by omega)) rfl (Nat.zero_lt_one) (lmo44 (by omega) (by omega) (by omega))) ?_
  simp (maxSteps:=400000) (disch:=omega) only [push_cast,↓reduceIte,reduceCtorEq,Nat.reduceAdd,Nat.reduceSub,Nat.reduceEqDiff,Nat.reduceLeDiff,Nat.reduceLT,Nat.reduceBEq,Nat.reduceDiv,Nat.reduceMod,Nat.reducePow,Nat.reduceMul,Int.reduceToNat,Int.reduceLT,Int.reduceLE,ne_l,ne_r,bq_l,bq_r,ls_l,ls_r,lm_set_same,hasM_eq,Option.isSome_some,cvM,List.cons_append,List.nil_append]
  refine W2_seq ?_
  repeat' (first | refine w1g ?_ | refine w1l ?_ | refine w1q ?_ | refine w1b ?_ | refine w1p ?_ | ((first | refine w1r ?_ | refine w1k ?_ | refine w1e ?_ | refine CallC.now (c38) ?_);simp (maxSteps:=400000) (disch:=omega) only [push_cast,↓reduceIte,reduceCtorEq,Nat.reduceAdd,Nat.reduceSub,Nat.reduceEqDiff,Nat.reduceLeDiff,Nat.reduceLT,Nat.reduceBEq,Nat.reduceDiv,Nat.reduceMod,Nat.reducePow,Nat.reduceMul,Int.reduceToNat,Int.reduceLT,Int.reduceLE,ne_l,ne_r,bq_l,bq_r,ls_l,ls_r,lm_set_same,hasM_eq,Option.isSome_some,cvM,List.cons_append,List.nil_append]) | refine an2 ?_ | fail)
  refine ⟨rfl,⟨by first | omega | (dsimp only;omega),by rw [hasM_eq];rfl⟩,trivial,P,rfl,by first | omega | (push_cast;omega),by omega,?_⟩
  simp (maxSteps:=400000) (disch:=omega) only [push_cast,↓reduceIte,reduceCtorEq,Nat.reduceAdd,Nat.reduceSub,Nat.reduceEqDiff,Nat.reduceLeDiff,Nat.reduceLT,Nat.reduceBEq,Nat.reduceDiv,Nat.reduceMod,Nat.reducePow,Nat.reduceMul,Int.reduceToNat,Int.reduceLT,Int.reduceLE,ne_l,ne_r,bq_l,bq_r,ls_l,ls_r,lm_set_same,hasM_eq,Option.isSome_some,cvM,List.cons_append,List.nil_append]
  repeat' (first | refine w1g ?_ | refine w1l ?_ | refine w1q ?_ | refine w1b ?_ | refine w1p ?_ | ((first | refine w1r ?_ | refine w1k ?_ | refine w1e ?_);simp (maxSteps:=400000) (disch:=omega) only [push_cast,↓reduceIte,reduceCtorEq,Nat.reduceAdd,Nat.reduceSub,Nat.reduceEqDiff,Nat.reduceLeDiff,Nat.reduceLT,Nat.reduceBEq,Nat.reduceDiv,Nat.reduceMod,Nat.reducePow,Nat.reduceMul,Int.reduceToNat,Int.reduceLT,Int.reduceLE,ne_l,ne_r,bq_l,bq_r,ls_l,ls_r,lm_set_same,hasM_eq,Option.isSome_some,cvM,List.cons_append,List.nil_append]) | refine an2 ?_ | fail)
  refine W2_seq ?_
  repeat' (first | refine w1g ?_ | refine w1l ?_ | refine w1q ?_ | refine w1b ?_ | refine w1p ?_ | ((first | refine w1r ?_ | refine w1k ?_ | refine w1e ?_);simp (maxSteps:=400000) (disch:=omega) only [push_cast,↓reduceIte,reduceCtorEq,Nat.reduceAdd,Nat.reduceSub,Nat.reduceEqDiff,Nat.reduceLeDiff,Nat.reduceLT,Nat.reduceBEq,Nat.reduceDiv,Nat.reduceMod,Nat.reducePow,Nat.reduceMul,Int.reduceToNat,Int.reduceLT,Int.reduceLE,ne_l,ne_r,bq_l,bq_r,ls_l,ls_r,lm_set_same,hasM_eq,Option.isSome_some,cvM,List.cons_append,List.nil_append]) | refine an2 ?_ | fail)
  refine W2_c ?_
  rw [← hQd]
  refine W_ret ⟨[aDv P,iv 0],cvM (takR c c' r O) a' b' (d' + 1),(k4,Blk.cells [AV.sl 5 dDv cDv P]) :: (k5,Blk.cells [AV.v (Value.int IntKind.i64 0)]) :: (ko,Blk.row (O.length + 1) 47 5 dDv cDv []) :: R2,⟨?_,?_,?_⟩,?_,cvM_bas _ _ _ _,extCons (extCons (extCons (hX2.up (by dsimp only;omega)) (by omega) (by dsimp only;omega)) (by omega) (by dsimp only;omega)) (by omega) (by dsimp only;omega),fun R3 hR3=>⟨rfl,by rw [hP];rfl⟩⟩
  ·dsimp only
   simp (maxSteps:=400000) (disch:=omega) only [push_cast,↓reduceIte,reduceCtorEq,Nat.reduceAdd,Nat.reduceSub,Nat.reduceEqDiff,Nat.reduceLeDiff,Nat.reduceLT,Nat.reduceBEq,Nat.reduceDiv,Nat.reduceMod,Nat.reducePow,Nat.reduceMul,Int.reduceToNat,Int.reduceLT,Int.reduceLE,ne_l,ne_r,bq_l,bq_r,ls_l,ls_r,lm_set_same,hasM_eq,Option.isSome_some,cvM,List.cons_append,List.nil_append,isOK]
  ·dsimp only
   simp (maxSteps:=400000) (disch:=omega) only [push_cast,↓reduceIte,reduceCtorEq,Nat.reduceAdd,Nat.reduceSub,Nat.reduceEqDiff,Nat.reduceLeDiff,Nat.reduceLT,Nat.reduceBEq,Nat.reduceDiv,Nat.reduceMod,Nat.reducePow,Nat.reduceMul,Int.reduceToNat,Int.reduceLT,Int.reduceLE,ne_l,ne_r,bq_l,bq_r,ls_l,ls_r,lm_set_same,hasM_eq,Option.isSome_some,cvM,List.cons_append,List.nil_append,isOK]
  ·rfl
  ·dsimp only [takR]
   rw [hP]
   exact sameM.refl _
theorem fn74c (x lo hi : Int) : Sy.Fn Try.prog 60 [iv x,iv lo,iv hi] (bv (inR x lo hi)):=by
 refine Fn_of_W mixed Xt60 rfl ?_
 (refine go0 ?_;try exact tTI)
 exact W_ret ⟨[_],⟨rfl,rfl⟩,rfl⟩
def nmT (s : ByteArray) : Trp:=⟨fun _=>0,[⟨s,s,1⟩]⟩
def nmB (s : ByteArray) : Bool:=trpE (nmT s) == 0
theorem fn61 (s : ByteArray) : Sy.Fn Try.prog 61 [stv s] (bv (nmB s)):=by
 refine Fn_of_W mixed Xt61 rfl ?_
 have c68:=fn68 (nmT s) (by show 1 ≤ _;omega)
 (refine go0 ?_;try exact tTI)
 refine ⟨rfl,trivial,Psg,dPs,cPs,[⟨s,s,1⟩],rfl,by omega,fun x _=>⟨rfl,rfl⟩,rfl,?_⟩
 (refine sy1 ?_;try exact tTI)
 (refine go0 ?_;try exact tTI)
 refine CallC.go _ (fun _=>⟨trivial,c68⟩) rfl ?_
 (refine sy1 ?_;try exact tTI)
 (refine go0 ?_;try exact tTI)
 exact W_ret ⟨[_],⟨rfl,rfl⟩,rfl⟩
def repB (r : Rep) : Bool:=inR r.at' 0 1099511627776 && decide (1 ≤ r.kd) && decide (r.kd ≤ 6) && (if r.kd = 3 then inR r.n 1 10080 else if r.kd = 4 then nmB r.nm && inR r.n 0 1000 else if r.kd = 5 then nmB r.nm && decide (0 ≤ r.fr) && decide (r.fr < r.to) && decide (r.to ≤ 1099511627776) else true)
theorem fn30 (r : Rep) (h : repB r = true) : Sy.Fn Try.prog 30 [.agg (cRp r)] (.tup []):=by
 unfold repB at h
 simp only [Bool.and_eq_true,decide_eq_true_eq] at h
 obtain ⟨⟨⟨h1,h2⟩,h3⟩,h4⟩:=h
 refine Fn_of_W mixed Xt30 rfl ?_
 have c31:=fn31 2
 have c0:=fn74c r.at' 0 1099511627776
 rw [h1] at c0
 have e2 : decide (1 ≤ r.kd) = true:=decide_eq_true h2
 have e3 : decide (r.kd ≤ 6) = true:=decide_eq_true h3
 (refine gofc (ad2 e2 e3) c0 ?_;try exact tTI)
 refine W_cond (by rfl) (fun h5=>?_) (fun h5=>?_)
 ·have q3 : r.kd = 3:=by simpa using h5
  rw [if_pos q3] at h4
  have c3:=fn74c r.n 1 10080
  rw [h4] at c3
  (refine go_cc c3 c31 ?_;try exact tTI)
  exact ⟨[],rfl,rfl⟩
 have q3 : ¬ r.kd = 3:=by simpa using h5
 rw [if_neg q3] at h4
 (refine go0 ?_;try exact tTI)
 refine W_cond (by rfl) (fun h5=>?_) (fun h5=>?_)
 ·have q4 : r.kd = 4:=by simpa using h5
  rw [if_pos q4] at h4
  rw [Bool.and_eq_true] at h4
  obtain ⟨h6,h7⟩:=h4
  have c3:=fn74c r.n 0 1000
  have c4:=fn61 r.nm
  rw [h7] at c3
  rw [h6] at c4
  (refine go_ccc c4 c3 c31 ?_;try exact tTI)
  exact ⟨[],rfl,rfl⟩
 have q4 : ¬ r.kd = 4:=by simpa using h5
 rw [if_neg q4] at h4
 (refine go0 ?_;try exact tTI)
 refine W_cond (by rfl) (fun h5=>?_) (fun h5=>?_)
 ·have q5 : r.kd = 5:=by simpa using h5
  rw [if_pos q5] at h4
  simp only [Bool.and_eq_true] at h4
  obtain ⟨⟨⟨h6,h7⟩,h8⟩,h9⟩:=h4
  have c4:=fn61 r.nm
  rw [h6] at c4
  (refine gofcc (ad3 h7 h8 h9) c4 c31 ?_;try exact tTI)
  exact ⟨[],rfl,rfl⟩
 ·(refine go_c c31 ?_;try exact tTI)
  exact ⟨[],rfl,rfl⟩
theorem inN_cd {P : Rul → Bool} {ru : List Rul} {i k : Int} {s : In} : ∀ m,∀ x ∈ (inN P ru i k s m).cd,x ∈ s.cd ∨ (x.p = i ∧ x.a = k ∧ 0 ≤ x.r ∧ x.r < m)
 |0,x,h=>.inl h
 |m + 1,x,h=>by
  rw [inN_succ] at h
  have ih:=inN_cd (P:=P) (ru:=ru) (i:=i) (k:=k) (s:=s) m x
  unfold inS at h
  split at h
  ·rcases List.mem_append.1 h with h | h
   ·rcases ih h with q | ⟨q1,q2,q3,q4⟩
    ·exact .inl q
    ·exact .inr ⟨q1,q2,q3,by omega⟩
   ·rw [List.mem_singleton] at h
    subst h
    exact .inr ⟨rfl,rfl,by show (0 : Int) ≤ m;omega,by show (m : Int) < _;omega⟩
  ·rcases ih h with q | ⟨q1,q2,q3,q4⟩
   ·exact .inl q
   ·exact .inr ⟨q1,q2,q3,by omega⟩
theorem dk_cd {l : List Aut} {t : Trp} : ∀ n,(∀ j,j < n → 0 ≤ kA l (t.ps.getD j dPs)) → ∀ x ∈ (dkN l t n).cd,(0 ≤ x.p ∧ x.p < n) ∧ (0 ≤ x.a ∧ x.a < l.length) ∧ 0 ≤ x.r ∧ x.r < (l.getD x.a.toNat dAu).ru.length
 |0,_,x,h=>by cases h
 |n + 1,hk,x,h=>by
  rw [dkN_succ] at h
  have h0:=hk n (by omega)
  have hr:=idxF_rng (fun a=>a.nm == (t.ps.getD n dPs).au) l
  rcases inN_cd _ x h with q | ⟨q1,q2,q3,q4⟩
  ·obtain ⟨a1,a2,a3⟩:=dk_cd n (fun j hj=>hk j (by omega)) x q
   exact ⟨by omega,a2,a3⟩
  ·rw [q2]
   unfold kA at h0 ⊢
   exact ⟨by omega,by omega,q3,by unfold kA at q4;exact q4⟩
def hvV (L : List Cnt) (s : ByteArray) : Int:=if 0 ≤ thI L s then (L.getD (thI L s).toNat dCt).lo else 0
def cntO (L : List Cnt) (n : Cnt) : Bool:=inR (hvV L n.th) n.lo n.hi
def ruC (c : Cvy) (x : Cnd) : Rul:=(c.l.getD x.a.toNat dAu).ru.getD x.r.toNat dRu
def cndO (c : Cvy) (i : Int) (x : Cnd) : Bool:=!(x.p == i) || (ruC c x).cn.all (cntO c.th)
def ctdB (c : Cvy) (cd : List Cnd) (i : Int) : Bool:=cd.all (cndO c i)
theorem all_pre {α : Type} {d : α} {l : List α} {p : α → Bool} (h : ∀ j,j < l.length → p (l.getD j d) = true) : l.all p = true:=by
 rw [List.all_eq_true]
 intro x hx
 obtain ⟨j,hj,rfl⟩:=List.mem_iff_getElem.1 hx
 have:=h j hj
 rwa [List.getD_eq_getElem?_getD,List.getElem?_eq_getElem hj] at this
theorem all_not {α : Type} {d : α} {l : List α} {p : α → Bool} {j : Nat} (hj : j < l.length) (h : p (l.getD j d) = false) : l.all p = false:=by
 cases ha : l.all p with
 |false=>rfl
 |true=>rw [List.all_eq_true.1 ha _ (getD_mem' d l j hj)] at h;cases h
theorem pre_succ {p : Nat → Prop} {k : Nat} (h : ∀ j,j < k → p j) (hk : p k) : ∀ j,j < k + 1 → p j:=fun j hj=>by
 by_cases e : j = k
 ·rw [e];exact hk
 ·exact h j (by omega)
theorem fn41 (c : Cvy) (cd : List Cnd) (fe no i : Int) (hcd : ∀ x ∈ cd,(0 ≤ x.a ∧ x.a < c.l.length) ∧ 0 ≤ x.r ∧ x.r < (c.l.getD x.a.toNat dAu).ru.length) (hl : cd.length ≤ 140737488355328) (hcn : ∀ x ∈ cd,(ruC c x).cn.length ≤ 140737488355328) (hth : c.th.length ≤ 140737488355328) : Sy.Fn Try.prog 41 [pCv c,.agg [aCd cd,iv fe,iv no],iv i] (bv (ctdB c cd i)):=by
 refine Fn_of_W mixed Xt41 rfl ?_
 have c27:=fun s=>fn27 c s hth
 (refine go0 ?_;try exact tTI)
 refine W_loopU (fun k : Nat=>[(16,iv k)]) (fun k=>[]) (fun k=>k ≤ cd.length ∧ ∀ j,j < k → cndO c i (cd.getD j dCd) = true) (fun k=>cd.length - k) 0 ⟨by omega,fun j hj=>by omega⟩ (by rfl) (by rfl) (fun k hk=>?_)
 obtain ⟨hk,hp⟩:=hk
 (refine sy1 ?_;try exact tTI)
 (refine go0 ?_;try exact tTI)
 refine W_condD (by rfl) (fun h=>?_) (fun h=>?_)
 ·have hlt : k < cd.length:=by omega
  have hcx:=hcd _ (getD_mem' dCd cd k hlt)
  have hcnx:=hcn _ (getD_mem' dCd cd k hlt)
  have hcase : cndO c i (cd.getD k dCd) = (!((cd.getD k dCd).p == i) || (ruC c (cd.getD k dCd)).cn.all (cntO c.th)):=rfl
  have hru : ruC c (cd.getD k dCd) = (c.l.getD (cd.getD k dCd).a.toNat dAu).ru.getD (cd.getD k dCd).r.toNat dRu:=rfl
  obtain ⟨X,hX⟩ : ∃ X,cd.getD k dCd = X:=⟨_,rfl⟩
  rw [hX] at hcx hcnx hcase hru
  obtain ⟨A,hA⟩ : ∃ A,c.l.getD X.a.toNat dAu = A:=⟨_,rfl⟩
  rw [hA] at hcx hru
  obtain ⟨R,hR⟩ : ∃ R,A.ru.getD X.r.toNat dRu = R:=⟨_,rfl⟩
  rw [hR] at hru
  rw [hru] at hcnx hcase
  have hnx:=fun q=>pre_succ (p:=fun j=>cndO c i (cd.getD j dCd) = true) hp (by show cndO c i (cd.getD k dCd) = true;rw [hX];exact q)
  have hbad:=fun q=>all_not (d:=dCd) (p:=cndO c i) hlt (by rw [hX];exact q)
  (refine gof hX ?_;try exact tTI)
  refine W_cond (by rfl) (fun hb=>?_) (fun hb=>?_)
  ·have e : cndO c i X = true:=by
    rw [hcase]
    have : (X.p == i) = false:=by simpa [bne] using hb
    rw [this];rfl
   (refine go0 ?_;try exact tTI)
   refine ⟨k + 1,⟨by omega,hnx e⟩,by omega,by rfl,?_⟩
   (refine syE ?_;try exact tTI)
  have hp0 : (X.p == i) = true:=by simpa [bne] using hb
  rw [hp0] at hcase
  (refine gof (ad2 hA hR) ?_;try exact tTI)
  refine W_loopU (fun m : Nat=>[(39,iv m)]) (fun m=>[]) (fun m=>m ≤ R.cn.length ∧ ∀ j,j < m → cntO c.th (R.cn.getD j dCt) = true) (fun m=>R.cn.length - m) 0 ⟨by omega,fun j hj=>by omega⟩ (by rfl) (by rfl) (fun m hm=>?_)
  obtain ⟨hm,hq⟩:=hm
  (refine sy1 ?_;try exact tTI)
  (refine go0 ?_;try exact tTI)
  refine W_condD (by rfl) (fun h2=>?_) (fun h2=>?_)
  ·have hlt2 : m < R.cn.length:=by omega
   have ec : cntO c.th (R.cn.getD m dCt) = inR (hvV c.th (R.cn.getD m dCt).th) (R.cn.getD m dCt).lo (R.cn.getD m dCt).hi:=rfl
   have hnx2:=fun q=>pre_succ (p:=fun j=>cntO c.th (R.cn.getD j dCt) = true) hq (k:=m) q
   have hbad2:=fun q=>all_not (d:=dCt) (p:=cntO c.th) hlt2 q
   obtain ⟨Y,hY⟩ : ∃ Y,R.cn.getD m dCt = Y:=⟨_,rfl⟩
   rw [hY] at ec hnx2 hbad2
   have c27:=c27 Y.th
   have ehv : hvV c.th Y.th = if 0 ≤ thI c.th Y.th then (c.th.getD (thI c.th Y.th).toNat dCt).lo else 0:=rfl
   have hti : -1 ≤ thI c.th Y.th ∧ thI c.th Y.th < c.th.length:=idxF_rng (fun y : Cnt=>y.th == Y.th) c.th
   generalize thI c.th Y.th = T at *
   have c60:=fn74c (hvV c.th Y.th) Y.lo Y.hi
   rw [← ec] at c60
   generalize cntO c.th Y = B at *
   (refine gofc hY c27 ?_;try exact tTI)
   refine W_cond (by rfl) (fun h3=>?_) (fun h3=>?_)
   ·have h3 : 0 ≤ T:=by simpa using h3
    rw [if_pos h3] at ehv
    rw [ehv] at c60
    (refine go_c c60 ?_;try exact tTI)
    refine W_cond (by rfl) (fun h4=>?_) (fun h4=>?_)
    ·have e : ctdB c cd i = false:=hbad (by rw [hcase,hbad2 (by simpa using h4)];rfl)
     rw [e]
     (refine go0 ?_;try exact tTI)
     exact W_ret ⟨[_],⟨rfl,rfl⟩,rfl⟩
    ·(refine go0 ?_;try exact tTI)
     refine ⟨m + 1,⟨by omega,hnx2 (by simpa using h4)⟩,by omega,by rfl,?_⟩
     (refine syE ?_;try exact tTI)
   ·have h3 : ¬ 0 ≤ T:=by simpa using h3
    rw [if_neg h3] at ehv
    rw [ehv] at c60
    (refine go_c c60 ?_;try exact tTI)
    refine W_cond (by rfl) (fun h4=>?_) (fun h4=>?_)
    ·have e : ctdB c cd i = false:=hbad (by rw [hcase,hbad2 (by simpa using h4)];rfl)
     rw [e]
     (refine go0 ?_;try exact tTI)
     exact W_ret ⟨[_],⟨rfl,rfl⟩,rfl⟩
    ·(refine go0 ?_;try exact tTI)
     refine ⟨m + 1,⟨by omega,hnx2 (by simpa using h4)⟩,by omega,by rfl,?_⟩
     (refine syE ?_;try exact tTI)
  ·obtain rfl : m = R.cn.length:=by omega
   have e : cndO c i X = true:=by
    rw [hcase,all_pre hq];rfl
   (refine go0 ?_;try exact tTI)
   refine ⟨k + 1,⟨by omega,hnx e⟩,by omega,by rfl,?_⟩
   (refine syE ?_;try exact tTI)
 ·obtain rfl : k = cd.length:=by omega
  have : ctdB c cd i = true:=all_pre hp
  rw [this]
  (refine go0 ?_;try exact tTI)
  exact W_ret ⟨[_],⟨rfl,rfl⟩,rfl⟩
noncomputable def srN (c : Cvy) (i e : Int) : Nat → Int → Option Int
 |0,_=>none
 |n + 1,f=>if f < e then (if nxE c.l c.t i f = 0 ∧ nxV c.l c.t i f < e ∧ nxV c.l c.t i f ≤ 1099511627776 then (if untV c i (nxV c.l c.t i f) < 0 then some (nxV c.l c.t i f) else srN c i e n (untV c i (nxV c.l c.t i f))) else none) else none
noncomputable def srV (c : Cvy) (i f : Int) : Option Int:=srN c i ((f / 1440 + 400) * 1440) 600000 f
theorem unS_gt {r : ByteArray} {mi s : Int} {l : List Clo} : ∀ n,unS r mi s l n = -1 ∨ s < unS r mi s l n
 |0=>.inl rfl
 |n + 1=>by
  have ih:=unS_gt (r:=r) (mi:=mi) (s:=s) (l:=l) n
  rw [unS_succ]
  split
  ·rename_i h
   unfold cloB at h
   simp only [Bool.and_eq_true,decide_eq_true_eq] at h
   right
   omega
  ·exact ih
theorem nx_ge {l : List Aut} {t : Trp} {p a : Int} (h : nxE l t p a = 0) : (0 ≤ a ∧ a ≤ 1099511627776) ∧ a ≤ nxV l t p a:=by
 have h0:=h
 unfold nxE at h
 by_cases h1 : fdE l t p = 0
 ·rw [if_pos h1] at h
  by_cases h2 : inR a 0 1099511627776 = true
  ·rw [if_pos h2] at h
   refine ⟨inR_iff.1 h2,?_⟩
   unfold nxV
   rw [if_pos h0]
   cases hn : nxR l t p a with
   |none=>rw [hn,if_pos rfl] at h;cases h
   |some z=>
    unfold nxR at hn
    exact (lst_some hn).1.1
  ·rw [if_neg h2] at h;cases h
 ·rw [if_neg h1] at h;exact absurd h h1
theorem fn42 (c : Cvy) (i f : Int) (hi : 0 ≤ i ∧ i < c.t.ps.length) (hf : 0 ≤ f ∧ f ≤ 1099520000000) (hl : c.l.length ≤ 140737488355328) (hg : ∀ a ∈ c.l,GrA a) (ht : c.t.ps.length ≤ 140737488355328) (hm : ∀ p ∈ c.t.ps,OkP p) (hcl : c.cl.length ≤ 140737488355328) (hc : ∀ x ∈ c.cl,CloOK x) :
  Sy.Fn Try.prog 42 [pCv c,iv i,iv f] (.tup [iv ((srV c i f).getD 0),bv (srV c i f).isSome]):=by
 refine Fn_of_W mixed Xt42 rfl ?_
 have c65:=fun a=>fn65 c.l c.t i a hl hg ht
 have c46:=fun s hs=>fn46 c i s hi hm hs hcl
 have e0 : f.tdiv 1440 = f / 1440:=Int.tdiv_eq_ediv_of_nonneg (by omega)
 have hV : srV c i f = srN c i ((f / 1440 + 400) * 1440) 600000 f:=rfl
 obtain ⟨e,he⟩ : ∃ e,(f / 1440 + 400) * 1440 = e:=⟨_,rfl⟩
 rw [he] at hV
 generalize srV c i f = V at *
 (refine gof e0 ?_;try exact tTI)
 rw [he]
 refine W_loopU (ι:=Int) (fun q=>[(2,iv q)]) (fun q=>[]) (fun q=>(0 ≤ q ∧ q ≤ 1099520000000) ∧ ∃ n : Nat,e - q < n ∧ V = srN c i e n q) (fun q=>(e - q).toNat) f ⟨hf,600000,by omega,hV⟩ (by rfl) (by rfl) (fun q hq=>?_)
 obtain ⟨hq,n,hn,hVn⟩:=hq
 (refine sy1 ?_;try exact tTI)
 (refine go0 ?_;try exact tTI)
 refine W_condD (by rfl) (fun h=>?_) (fun h=>?_)
 ·obtain ⟨m,rfl⟩ : ∃ m,n = m + 1:=⟨n - 1,by omega⟩
  have c65:=c65 q
  have hge:=nx_ge (l:=c.l) (t:=c.t) (p:=i) (a:=q)
  unfold srN at hVn
  rw [if_pos h] at hVn
  generalize nxE c.l c.t i q = E at *
  generalize nxV c.l c.t i q = N at *
  (refine go_c c65 ?_;try exact tTI)
  refine W_cond (by rfl) (fun h3=>?_) (fun h3=>?_)
  ·rw [if_neg (fun h4=>by
    simp only [Bool.or_eq_true,decide_eq_true_eq,bne_iff_ne] at h3
    omega)] at hVn
   rw [hVn]
   (refine go0 ?_;try exact tTI)
   exact W_ret ⟨[_,_],⟨rfl,rfl,rfl⟩,rfl⟩
  ·have h4 : E = 0 ∧ N < e ∧ N ≤ 1099511627776:=by
    simp only [Bool.or_eq_false_iff,decide_eq_false_iff_not,bne_eq_false_iff_eq] at h3
    omega
   rw [if_pos h4] at hVn
   have hge:=hge h4.1
   have c46:=c46 N (by omega)
   have hu1:=unS_gt (r:=(c.t.ps.getD i.toNat dPs).rd) (mi:=miC c i) (s:=N) (l:=c.cl) c.cl.length
   have hu2:=unS_rng (r:=(c.t.ps.getD i.toNat dPs).rd) (mi:=miC c i) (s:=N) hc _ (Nat.le_refl _)
   change untV c i N = -1 ∨ N < untV c i N at hu1
   change -1 ≤ untV c i N ∧ untV c i N ≤ 1099511627776 at hu2
   generalize untV c i N = U at *
   (refine go_c c46 ?_;try exact tTI)
   refine W_condD (by rfl) (fun h5=>?_) (fun h5=>?_)
   ·rw [if_pos h5] at hVn
    rw [hVn]
    (refine go0 ?_;try exact tTI)
    exact W_ret ⟨[_,_],⟨rfl,rfl,rfl⟩,rfl⟩
   ·rw [if_neg h5] at hVn
    (refine go0 ?_;try exact tTI)
    refine ⟨U,⟨by omega,m,by omega,hVn⟩,by omega,by rfl,?_⟩
    (refine syE ?_;try exact tTI)
 ·have e1 : V = none:=by
   rw [hVn]
   cases n with
   |zero=>rfl
   |succ m=>unfold srN;rw [if_neg h]
  rw [e1]
  (refine go0 ?_;try exact tTI)
  exact W_ret ⟨[_,_],⟨rfl,rfl,rfl⟩,rfl⟩
noncomputable def cvD (c : Cvy) : List Cnd:=(dkN c.l c.t c.t.ps.length).cd
noncomputable def rpG (c : Cvy) (r0 : Int) : Nat → Nat → Int → List Crs → Int × List Crs × Int
 |0,_,_,out=>(r0,out,0)
 |m + 1,n,f,out=>if ctdB c (cvD c) (r0 + n) = true then (match srV c (r0 + n) f with | some s=>rpG c r0 m (n + 1) (s + miC c (r0 + n)) (out ++ [⟨s,c.th⟩]) | none=>(r0 + n,[],22)) else (r0 + n,[],21)
noncomputable def rpV (c : Cvy) : Int × List Crs × Int:=rpG c (frsV c) ((c.t.ps.length : Int) - frsV c).toNat 0 (freeV c) []
theorem srN_rng {c : Cvy} {i e : Int} : ∀ n (f s : Int),srN c i e n f = some s → f ≤ s ∧ (0 ≤ s ∧ s ≤ 1099511627776)
 |0,f,s,h=>by cases h
 |n + 1,f,s,h=>by
  unfold srN at h
  split at h
  ·split at h
   ·rename_i h1
    have hg:=nx_ge h1.1
    split at h
    ·cases h
     omega
    ·rename_i h2
     have q:=srN_rng n _ s h
     have hu:=unS_gt (r:=(c.t.ps.getD i.toNat dPs).rd) (mi:=miC c i) (s:=nxV c.l c.t i f) (l:=c.cl) c.cl.length
     change untV c i (nxV c.l c.t i f) = -1 ∨ nxV c.l c.t i f < untV c i (nxV c.l c.t i f) at hu
     omega
   ·cases h
  ·cases h
theorem fn9 (c : Cvy) (h : CvOK c) : Sy.Fn Try.prog 9 [pCv c] (.tup [iv (rpV c).1,aCr (rpV c).2.1,iv (rpV c).2.2]):=by
 refine Fn_of_W mixed Xt9 rfl ?_
 obtain ⟨q1,q2,q3,q4⟩:=h.n
 have hpl:=h.pl
 have hnx:=h.nx
 have hmv:=h.mv
 have hdk:=dsk_ok h.dk
 have c28:=fn28 c (by omega)
 have c39:=fn39 c.l c.t (by omega) q4 (by omega)
 rw [h.dk] at c39
 have epm : pmV c.l c.t = [aCd (cvD c),iv (dkN c.l c.t c.t.ps.length).fe,iv (dkN c.l c.t c.t.ps.length).no]:=by unfold pmV;rw [if_pos h.dk];rfl
 rw [epm] at c39
 have hcd:=dk_cd (l:=c.l) (t:=c.t) c.t.ps.length hdk.2.2.1
 have hcl:=hdk.2.2.2.cd
 have c41:=fun i=>fn41 c (cvD c) (dkN c.l c.t c.t.ps.length).fe (dkN c.l c.t c.t.ps.length).no i (fun x hx=>(hcd x hx).2) (by show (dkN c.l c.t c.t.ps.length).cd.length ≤ _;omega) (fun x hx=>by
  obtain ⟨_,a1,a2,a3⟩:=hcd x hx
  have:=(q4 _ (getD_mem' dAu c.l x.a.toNat (by omega))).2 _ (getD_mem' dRu (c.l.getD x.a.toNat dAu).ru x.r.toNat (by omega))
  exact this.cn) (by have:=h.th;omega)
 have c40:=fn40 c (by omega)
 have c10:=fn10 c (by omega) (fun hv=>⟨hnx.1,hmv hv⟩) q3 h.bg (by have:=h.hd;have:=h.rp;omega)
 have c43:=fn43 c.th (by have:=h.th;omega)
 have hV : rpV c = rpG c (frsV c) ((c.t.ps.length : Int) - frsV c).toNat 0 (freeV c) []:=rfl
 have c42:=fun i f hi hf=>fn42 c i f hi hf (by omega) q4 (by omega) q3 (by have:=h.cl.1;omega) h.cl.2
 have c44:=fun i hi=>fn44 c i hi
 have hfr : 0 ≤ frsV c ∧ frsV c ≤ c.t.ps.length:=by
  unfold frsV
  split
  ·rename_i hv;have:=hmv hv;omega
  ·omega
 have hfv : 0 ≤ freeV c ∧ freeV c ≤ 1099520000000:=by
  have h1:=h.now;have h2:=h.bg;have h3:=h.hd;have h4:=h.rdy;have h5:=h.rp
  unfold freeV
  split
  ·rename_i hv
   have hmi:=(q3 _ (getD_mem' dPs c.t.ps c.nx.toNat (by have:=hmv hv;omega))).mi
   have em : miC c c.nx = (c.t.ps.getD c.nx.toNat dPs).mi:=rfl
   rw [← em] at hmi
   omega
  ·omega
 generalize rpV c = V at *
 generalize frsV c = F at *
 generalize freeV c = T at *
 obtain ⟨PM,hPM⟩ : ∃ PM,[aCd (cvD c),iv (dkN c.l c.t c.t.ps.length).fe,iv (dkN c.l c.t c.t.ps.length).no] = PM:=⟨_,rfl⟩
 (refine go_c c28 ?_;try exact tTI)
 refine W_cond (by rfl) (fun h=>by cases h) (fun _=>?_)
 (refine go_ccc c39 c40 c10 ?_;try exact tTI)
 refine W_le (le_adopt 9 50 2 dCr cCr (by omega) rfl) ?_
 (refine sy1 ?_;try exact tTI)
 refine W_loopU (ι:=Nat × Int × List Crs) (fun q=>[(40,iv q.1),(8,iv q.2.1),(9,.row 37 q.2.2.length)]) (fun q=>[(37,.row q.2.2.length 50 2 dCr cCr q.2.2)]) (fun q=>(q.1 : Int) ≤ c.t.ps.length - F ∧ q.2.2.length = q.1 ∧ (0 ≤ q.2.1 ∧ q.2.1 ≤ 1099520000000) ∧ V = rpG c F ((c.t.ps.length : Int) - F - q.1).toNat q.1 q.2.1 q.2.2) (fun q=>((c.t.ps.length : Int) - F - q.1).toNat) (0,T,[]) ⟨by dsimp only;omega,rfl,hfv,by show V = rpG c F ((c.t.ps.length : Int) - F - ((0 : Nat) : Int)).toNat 0 T [];rw [hV,show ((c.t.ps.length : Int) - F - ((0 : Nat) : Int)) = c.t.ps.length - F by omega]⟩ (by rfl) (by rfl) (fun q hq=>?_)
 obtain ⟨n,f,O⟩:=q
 obtain ⟨hn,hO,hf,hVn⟩:=hq
 dsimp only at hn hO hf hVn ⊢
 (refine sy1 ?_;try exact tTI)
 (refine go0 ?_;try exact tTI)
 refine W_condD (by rfl) (fun h5=>?_) (fun h5=>?_)
 ·obtain ⟨m,hm⟩ : ∃ m,((c.t.ps.length : Int) - F - n).toNat = m + 1:=⟨((c.t.ps.length : Int) - F - n).toNat - 1,by omega⟩
  have hm2 : ((c.t.ps.length : Int) - F - ((n + 1 : Nat) : Int)).toNat = m:=by omega
  rw [hm] at hVn
  unfold rpG at hVn
  have c41:=c41 (F + n)
  have c42:=c42 (F + n) f (by omega) hf
  have c44:=c44 (F + n) (by omega)
  have hmi:=(q3 _ (getD_mem' dPs c.t.ps (F + n).toNat (by omega))).mi
  have em : miC c (F + n) = (c.t.ps.getD (F + n).toNat dPs).mi:=rfl
  rw [← em] at hmi
  have hsr:=srN_rng (c:=c) (i:=F + n) (e:=(f / 1440 + 400) * 1440) 600000 f
  change ∀ s,srV c (F + n) f = some s → _ at hsr
  generalize miC c (F + n) = M at *
  generalize ctdB c (cvD c) (F + n) = B at *
  generalize srV c (F + n) f = Z at *
  (refine go_c c41 ?_;try exact tTI)
  refine W_cond (by rfl) (fun h6=>?_) (fun h6=>?_)
  ·have h6 : B = false:=by simpa using h6
   rw [h6,if_neg (by decide)] at hVn
   rw [hVn]
   (refine go0 ?_;try exact tTI)
   refine W_le (le_adopt 3 50 2 dCr cCr (by omega) rfl) ?_
   (refine sy1 ?_;try exact tTI)
   refine W_ret ⟨[_,_,_],⟨rfl,rfl,rfl,rfl⟩,?_⟩
   (refine syP ?_;try exact tTI)
  have h6 : B = true:=by simpa using h6
  rw [h6,if_pos rfl] at hVn
  cases Z with
  |none=>
   simp only [Option.getD_none,Option.isSome_none] at c42 hVn
   (refine go_c c42 ?_;try exact tTI)
   refine W_cond (by rfl) (fun _=>?_) (fun h=>by cases h)
   rw [hVn]
   (refine go0 ?_;try exact tTI)
   refine W_le (le_adopt 3 50 2 dCr cCr (by omega) rfl) ?_
   (refine sy1 ?_;try exact tTI)
   refine W_ret ⟨[_,_,_],⟨rfl,rfl,rfl,rfl⟩,?_⟩
   (refine syP ?_;try exact tTI)
  |some z=>
   have hsr:=hsr z rfl
   simp only [Option.getD_some,Option.isSome_some] at c42 hVn
   (refine go_c c42 ?_;try exact tTI)
   refine W_cond (by rfl) (fun h=>by cases h) (fun _=>?_)
   (refine go_c c43 ?_;try exact tTI)
   refine ⟨rfl,trivial,Crs,dCr,cCr,[⟨z,c.th⟩],rfl,by omega,fun x _=>⟨rfl,rfl⟩,rfl,?_⟩
   (refine sy1 ?_;try exact tTI)
   refine ⟨rfl,⟨Nat.le_of_ble_eq_true rfl,rfl⟩,trivial,[⟨z,c.th⟩],rfl,by first | omega | (simp;omega),by first | omega | (simp;omega),?_⟩
   (refine sy1 ?_;try exact tTI)
   (refine go_c c44 ?_;try exact tTI)
   refine ⟨(n + 1,z + M,O ++ [⟨z,c.th⟩]),⟨by dsimp only;omega,by dsimp only;rw [List.length_append,List.length_singleton];omega,by dsimp only;omega,by dsimp only;rw [hm2];exact hVn⟩,by dsimp only;omega,by rfl,?_⟩
   dsimp only
   rw [List.length_append,List.length_singleton]
   (refine syE ?_;try exact tTI)
 ·have hz : ((c.t.ps.length : Int) - F - n).toNat = 0:=by omega
  rw [hz] at hVn
  have hVn : V = (F,O,0):=hVn
  rw [hVn]
  (refine go0 ?_;try exact tTI)
  refine W_ret ⟨[_,_,_],⟨rfl,rfl,rfl,rfl⟩,?_⟩
  (refine syP ?_;try exact tTI)
abbrev sA1 : ByteArray:=⟨#[97,49]⟩
abbrev sEsc : ByteArray:=⟨#[101,115,99,111,114,116]⟩
abbrev sNi : ByteArray:=⟨#[110,105,103,104,116]⟩
abbrev sDa : ByteArray:=⟨#[100,97,121]⟩
abbrev sCo : ByteArray:=⟨#[99,111,117,110,116,121]⟩
def exN : Rul:=⟨sNi,[sA1],[⟨1,3500⟩],1320,360,127,0,0,false,[⟨sEsc,1,10⟩],30⟩
def exD : Rul:=⟨sDa,[sA1],[⟨2,60000⟩],360,1200,31,0,0,false,[],0⟩
def exC : Aut:=⟨sCo,120,2880,[exN,exD]⟩
def exP : Psg:=⟨sCo,sA1,90⟩
def exS (w : Int) (k : Nat) : Int:=[4200,4000,w,9000,30000,15000].getD k 0
def exT2 : Trp:=⟨exS 40000,[exP,exP]⟩
def exH : List Cnt:=[⟨sEsc,1,0⟩]
def exL : List Crs:=[⟨4200,exH⟩,⟨4290,exH⟩]
theorem satL_rep {E : Env} {w : World} {x x' : AV} (h : ∀ y,sat E w x y → sat E w x' y) {post : List AV} : ∀ (pre : List AV) (vs : List Value),satL E w (pre ++ x :: post) vs → satL E w (pre ++ x' :: post) vs
 |[],vs,hs=>by
  simp only [List.nil_append,satL] at hs ⊢
  obtain ⟨y,ys,e,h1,h2,h3⟩:=hs
  exact ⟨y,ys,e,h1,h y h2,h3⟩
 |p :: pre,vs,hs=>by
  simp only [List.cons_append,satL] at hs ⊢
  obtain ⟨y,ys,e,h1,h2,h3⟩:=hs
  exact ⟨y,ys,e,h1,h2,satL_rep h pre ys h3⟩
theorem le_nilA {s : S} (t n : Nat) (pre post : List AV) {α : Type} (d : α) (f : α → List AV) (ht : lk s.tm t = .agg (pre ++ .v (.slice none 0 0) :: post)) : le s ⟨(t,.agg (pre ++ .sl n d f [] :: post)) :: s.tm,s.mem,s.nx⟩:=
 le_slot t _ fun G E a w hS y hy=>by
  rw [ht] at hy
  simp only [sat] at hy ⊢
  obtain ⟨vs,h1,h2⟩:=hy
  refine ⟨vs,h1,satL_rep (fun y hy=>?_) pre vs h2⟩
  simp only [sat] at hy ⊢
  subst hy
  simp only [fsat]
  exact ⟨none,0,rfl,Nat.le_refl _,.inl rfl,.inl trivial⟩
theorem fn22 : Sy.Fn Try.prog 22 [] (.agg (cAu exC)):=by
 refine Fn_of_W mixed Xt22 rfl ?_
 repeat (first | refine w1g ?_ | refine w1l ?_ | refine w1q ?_ | refine w1b ?_)
 refine w1r ?_
 (refine sy1 ?_;try exact tTI)
 repeat (first | refine w1g ?_ | refine w1l ?_ | refine w1q ?_ | refine w1b ?_)
 refine W_regLO 1 (by decide) ?_
 simp (maxSteps:=400000) (disch:=omega) only [push_cast,↓reduceIte,reduceCtorEq,Nat.reduceAdd,Nat.reduceSub,Nat.reduceEqDiff,Nat.reduceLeDiff,Nat.reduceLT,Nat.reduceBEq,Nat.reduceDiv,Nat.reduceMod,Nat.reducePow,Nat.reduceMul,Int.reduceToNat,Int.reduceLT,Int.reduceLE,List.take_succ_cons,List.take_zero]
 refine ⟨rfl,trivial,ByteArray,dSt,cSt,[sA1],rfl,by omega,fun x _=>⟨rfl,rfl⟩,rfl,?_⟩
 (refine sy1 ?_;try exact tTI)
 refine WOL_le (le_frzR 1 [0] [0] 1 1 0 9 1 dSt cSt [sA1] rfl rfl rfl (by rfl)) ?_
 refine WOL_to 3 (by decide) (by decide) ?_
 simp (maxSteps:=400000) (disch:=omega) only [push_cast,↓reduceIte,reduceCtorEq,Nat.reduceAdd,Nat.reduceSub,Nat.reduceEqDiff,Nat.reduceLeDiff,Nat.reduceLT,Nat.reduceBEq,Nat.reduceDiv,Nat.reduceMod,Nat.reducePow,Nat.reduceMul,Int.reduceToNat,Int.reduceLT,Int.reduceLE,List.drop_succ_cons,List.drop_zero,List.take_succ_cons,List.take_zero]
 refine ⟨rfl,trivial,Whn,dWh,cWh,[⟨1,3500⟩],rfl,by omega,fun x _=>⟨rfl,rfl⟩,rfl,?_⟩
 (refine sy1 ?_;try exact tTI)
 refine WOL_le (le_frzR 3 [0,1] [0] 1 2 0 100 2 dWh cWh [⟨1,3500⟩] rfl rfl rfl (by rfl)) ?_
 refine WOL_to 6 (by decide) (by decide) ?_
 simp (maxSteps:=400000) (disch:=omega) only [push_cast,↓reduceIte,reduceCtorEq,Nat.reduceAdd,Nat.reduceSub,Nat.reduceEqDiff,Nat.reduceLeDiff,Nat.reduceLT,Nat.reduceBEq,Nat.reduceDiv,Nat.reduceMod,Nat.reducePow,Nat.reduceMul,Int.reduceToNat,Int.reduceLT,Int.reduceLE,List.drop_succ_cons,List.drop_zero,List.take_succ_cons,List.take_zero]
 refine ⟨rfl,trivial,Cnt,dCt,cCt,[⟨sEsc,1,10⟩],rfl,by omega,fun x _=>⟨rfl,rfl⟩,rfl,?_⟩
 (refine sy1 ?_;try exact tTI)
 refine WOL_le (le_frzR 6 [0,1,3,4] [0] 1 3 0 71 3 dCt cCt [⟨sEsc,1,10⟩] rfl rfl rfl (by rfl)) ?_
 refine WOL_to 8 (by decide) (by decide) ?_
 simp (maxSteps:=400000) (disch:=omega) only [push_cast,↓reduceIte,reduceCtorEq,Nat.reduceAdd,Nat.reduceSub,Nat.reduceEqDiff,Nat.reduceLeDiff,Nat.reduceLT,Nat.reduceBEq,Nat.reduceDiv,Nat.reduceMod,Nat.reducePow,Nat.reduceMul,Int.reduceToNat,Int.reduceLT,Int.reduceLE,List.drop_succ_cons,List.drop_zero,List.take_succ_cons,List.take_zero]
 refine ⟨rfl,trivial,ByteArray,dSt,cSt,[sA1],rfl,by omega,fun x _=>⟨rfl,rfl⟩,rfl,?_⟩
 (refine sy1 ?_;try exact tTI)
 refine WOL_le (le_frzR 8 [0,7] [0] 1 2 0 9 1 dSt cSt [sA1] rfl rfl rfl (by rfl)) ?_
 refine WOL_to 10 (by decide) (by decide) ?_
 simp (maxSteps:=400000) (disch:=omega) only [push_cast,↓reduceIte,reduceCtorEq,Nat.reduceAdd,Nat.reduceSub,Nat.reduceEqDiff,Nat.reduceLeDiff,Nat.reduceLT,Nat.reduceBEq,Nat.reduceDiv,Nat.reduceMod,Nat.reducePow,Nat.reduceMul,Int.reduceToNat,Int.reduceLT,Int.reduceLE,List.drop_succ_cons,List.drop_zero,List.take_succ_cons,List.take_zero]
 refine ⟨rfl,trivial,Whn,dWh,cWh,[⟨2,60000⟩],rfl,by omega,fun x _=>⟨rfl,rfl⟩,rfl,?_⟩
 (refine sy1 ?_;try exact tTI)
 refine WOL_le (le_frzR 10 [0,7,8] [0] 1 2 0 100 2 dWh cWh [⟨2,60000⟩] rfl rfl rfl (by rfl)) ?_
 refine WOL_to 12 (by decide) (by decide) ?_
 simp (maxSteps:=400000) (disch:=omega) only [push_cast,↓reduceIte,reduceCtorEq,Nat.reduceAdd,Nat.reduceSub,Nat.reduceEqDiff,Nat.reduceLeDiff,Nat.reduceLT,Nat.reduceBEq,Nat.reduceDiv,Nat.reduceMod,Nat.reducePow,Nat.reduceMul,Int.reduceToNat,Int.reduceLT,Int.reduceLE,List.drop_succ_cons,List.drop_zero,List.take_succ_cons,List.take_zero]
 refine WOL_le (le_nilA 12 3 [stv sDa,aSt [sA1],aWh [⟨2,60000⟩],iv 360,iv 1200,iv 31,iv 0,iv 0,bv false] [iv 0] dCt cCt rfl) ?_
 refine WOL_end (by decide) ?_
 simp (maxSteps:=400000) (disch:=omega) only [push_cast,↓reduceIte,reduceCtorEq,Nat.reduceAdd,Nat.reduceSub,Nat.reduceEqDiff,Nat.reduceLeDiff,Nat.reduceLT,Nat.reduceBEq,Nat.reduceDiv,Nat.reduceMod,Nat.reducePow,Nat.reduceMul,Int.reduceToNat,Int.reduceLT,Int.reduceLE,List.drop_succ_cons,List.drop_zero]
 refine ⟨rfl,trivial,Rul,dRu,cRu,[exN,exD],rfl,by omega,fun x _=>⟨rfl,rfl⟩,rfl,?_⟩
 (refine sy1 ?_;try exact tTI)
 (refine go0 ?_;try exact tTI)
 refine W_ret ⟨[_],⟨⟨by simp,rfl⟩,rfl⟩,?_⟩
 (refine syP ?_;try exact tTI)
 rfl
theorem fn5 : Sy.Fn Try.prog 5 [] (.tup [aTr exT2,aCr exL]):=by
 refine Fn_of_W mixed Xt5 rfl ?_
 (refine go0 ?_;try exact tTI)
 refine CallC.inl (Inl_of_W mixed Xt21 rfl (fun vs=>?_))
 simp (maxSteps:=400000) (disch:=omega) only [push_cast,↓reduceIte,reduceCtorEq,Nat.reduceAdd,Nat.reduceSub,Nat.reduceEqDiff,Nat.reduceLeDiff,Nat.reduceLT,Nat.reduceBEq,Nat.reduceDiv,Nat.reduceMod,Nat.reducePow,Nat.reduceMul,Int.reduceToNat,Int.reduceLT,Int.reduceLE,initT]
 (refine go0 ?_;try exact tTI)
 refine ⟨rfl,trivial,Psg,dPs,cPs,[exP],rfl,by omega,fun x _=>⟨rfl,rfl⟩,rfl,?_⟩
 (refine sy1 ?_;try exact tTI)
 (refine go0 ?_;try exact tTI)
 refine W_ret ⟨[_],_,⟨⟨by simp,rfl⟩,rfl⟩,rfl,?_⟩
 (refine syP ?_;try exact tTI)
 (refine go0 ?_;try exact tTI)
 refine ⟨rfl,trivial,Psg,dPs,cPs,[exP],rfl,by omega,fun x _=>⟨rfl,rfl⟩,rfl,?_⟩
 (refine sy1 ?_;try exact tTI)
 refine ⟨rfl,⟨Nat.le_of_ble_eq_true rfl,rfl⟩,trivial,[exP],rfl,by simp,by simp,?_⟩
 (refine sy1 ?_;try exact tTI)
 (refine go0 ?_;try exact tTI)
 refine ⟨rfl,trivial,Cnt,dCt,cCt,exH,rfl,by omega,fun x _=>⟨rfl,rfl⟩,rfl,?_⟩
 (refine sy1 ?_;try exact tTI)
 refine W_le (le_frzR 3 [0,2] [0,7,11] 31 24 0 71 3 dCt cCt exH rfl rfl rfl (by rfl)) ?_
 (refine sy1 ?_;try exact tTI)
 (refine go0 ?_;try exact tTI)
 refine ⟨rfl,trivial,Crs,dCr,cCr,exL,rfl,by omega,fun x _=>⟨rfl,rfl⟩,rfl,?_⟩
 (refine sy1 ?_;try exact tTI)
 (refine go0 ?_;try exact tTI)
 refine W_ret ⟨[_,_],⟨⟨by simp,rfl⟩,rfl,rfl⟩,?_⟩
 (refine syP ?_;try exact tTI)
 rfl
theorem ex_dsk : dskE [exC] exT2 = 0:=by
 have h1 : allE [exC] = 0:=by
  unfold allE
  rw [if_neg (by decide),if_pos (by kernel_rfl),if_neg]
  rw [show ([exC] : List Aut).length = (nmA [exC]).length from rfl,nub_len]
  simp [nmA]
 unfold dskE
 rw [if_pos h1,if_pos (by kernel_rfl),if_pos (by kernel_rfl)]
theorem ex_tp : (tpE [exC] exT2 0 exL).2 = 0:=by
 unfold tpE
 rw [if_pos ex_dsk,if_pos (by kernel_rfl),if_pos (by kernel_rfl)]
 kernel_rfl
theorem ex_fd (p : Int) (h : 0 ≤ p ∧ p < 2) : fdE [exC] exT2 p = 0:=by
 unfold fdE
 rw [if_pos ex_dsk,if_pos (show 0 ≤ p ∧ p < (exT2.ps.length : Int) from h)]
def ex0 : Cvy:=⟨0,0,false,0,0,0,[exC],exT2,exL,exH,[],0,[]⟩
def exR1 : Rep:=⟨4200,1,0,dSt,0,0⟩
def exR2 : Rep:=⟨4250,3,30,dSt,0,0⟩
def ex1 : Cvy:=takR ex0 (begC ex0 exR1) exR1 []
def ex2 : Cvy:=takR ex1 (holC ex1 exR2) exR2 []
theorem ex_th : thN (exL.getD 0 dCr).th (exL.getD 0 dCr).th.length = exH:=by kernel_rfl
theorem ex_psz (p : Psg) (h : p ∈ exT2.ps) : p = exP:=by
 simp [exT2] at h
 exact h
theorem ex_ok0 : CvOK ex0:=by
 refine ⟨ex_dsk,rfl,fun x hx=>?_,by decide,by decide,(fun h=>by cases h),by decide,by decide,by decide,by decide,⟨by decide,(fun x hx=>by cases hx)⟩,by decide,⟨by decide,(fun x hx=>by cases hx)⟩⟩
 have : x = ⟨4200,exH⟩ ∨ x = ⟨4290,exH⟩:=by
  have hx : x ∈ exL:=hx
  simpa [exL] using hx
 rcases this with rfl | rfl <;> decide
theorem ex_brk : brkC ex0 exR1.at' = []:=by
 unfold brkC bkV
 rw [if_pos]
 ·kernel_rfl
 ·unfold bkE
  rw [if_pos (show fdE ex0.l ex0.t ex0.nx = 0 from ex_fd 0 (by decide))]
  kernel_rfl
theorem ex_beg : begO ex0 exR1 = []:=by
 have e1 : dv1 ex0 exR1 = []:=by
  unfold dv1
  rw [if_neg (by decide),if_neg (by decide)]
 have e2 : dv2 ex0 exR1 [] = []:=by
  unfold dv2
  rw [if_neg (by decide)]
 have e3 : dv3 ex0 exR1 [] = []:=by
  unfold dv3
  rw [ex_brk,if_neg (by decide)]
 unfold begO
 rw [e1,e2,e3]
theorem ex_nxR : nxR [exC] exT2 1 4320 = some 4320:=by
 unfold nxR
 refine lst_at ⟨Int.le_refl _,by decide,fun x h1 h2=>?_⟩ (fun s' h=>h.1)
 have h3 : (rlA [exC] exT2 1).mi = 90:=by kernel_rfl
 rw [h3] at h2
 have h4 : ((List.range 90).all fun k=>allB (rlA [exC] exT2 1).ls (4320 + (k : Int))) = true:=by kernel_rfl
 have h5:=List.all_eq_true.1 h4 (x - 4320).toNat (List.mem_range.2 (by omega))
 rw [show (4320 : Int) + ((x - 4320).toNat : Int) = x by omega] at h5
 exact h5
theorem ex_nxE : nxE [exC] exT2 1 4320 = 0:=by
 unfold nxE
 rw [if_pos (ex_fd 1 (by decide)),if_pos (by kernel_rfl),ex_nxR,if_neg (by simp)]
theorem ex_nxV : nxV [exC] exT2 1 4320 = 4320:=by
 unfold nxV
 rw [if_pos ex_nxE,ex_nxR];rfl
theorem ex_sr : srV ex2 1 4320 = some 4320:=by
 unfold srV
 rw [show (600000 : Nat) = 599999 + 1 from rfl]
 unfold srN
 have e1 : nxE ex2.l ex2.t 1 4320 = 0:=ex_nxE
 have e2 : nxV ex2.l ex2.t 1 4320 = 4320:=ex_nxV
 rw [if_pos (by decide),e1,e2,if_pos (by decide),if_pos (by decide)]
theorem ex_rp : rpV ex2 = (1,[⟨4320,exH⟩],0):=by
 unfold rpV
 have e1 : frsV ex2 = 1:=by kernel_rfl
 have e2 : freeV ex2 = 4320:=by kernel_rfl
 have e3 : ((ex2.t.ps.length : Int) - 1).toNat = 1:=by kernel_rfl
 rw [e1,e2,e3]
 unfold rpG
 have e4 : ctdB ex2 (cvD ex2) (1 + ((0 : Nat) : Int)) = true:=by kernel_rfl
 have e5 : srV ex2 (1 + ((0 : Nat) : Int)) 4320 = some 4320:=ex_sr
 rw [if_pos e4,e5]
 rfl
theorem ex_free : freeV ex2 = 4320:=by kernel_rfl
def newC (l : List Aut) (t : Trp) (pl : List Crs) (th : List Cnt) : Cvy:=⟨0,0,false,0,0,0,l,t,pl,th,[],0,[]⟩
theorem le_base {s : S} {kc kt n : Nat} {l : List Aut} {t : Trp} {pl : List Crs} {th : List Cnt} (T : List (Nat × AV)) (hc : lm s.mem kc = some (.cells (cvN l t pl kt n))) (ht : lm s.mem kt = some (.row n 71 3 dCt cCt th)) (hkc : kc < s.nx) (hkt : kt < s.nx) (hne : kc ≠ kt)
  (h1 : okTm [10,11,12,13] T = true) (h2 : RenT s (sgF [(10,kc),(11,kt),(12,s.nx),(13,s.nx + 1)]) T) : le s ⟨T,cvM (newC l t pl th) n 0 0,60⟩:=by
 refine (le_adoptC kc 16 97 3 dCo cCo (by omega) _ hc rfl (by simp)).trans ?_
 have e1 : lm ((s.nx,Blk.row 0 97 3 dCo cCo []) :: setm s.mem kc (.cells (setL (cvN l t pl kt n) 16 [.row s.nx 0]))) kc = some (.cells (setL (cvN l t pl kt n) 16 [.row s.nx 0])):=by rw [lm_cons_ne (by omega),lm_set_same]
 refine (le_adoptC kc 18 47 5 dDv cDv (by omega) _ e1 rfl (by simp [setL])).trans ?_
 refine le_ren [(10,kc),(11,kt),(12,s.nx),(13,s.nx + 1)] T _ 60 h1 ?_ ?_ ?_ (by rfl)
 ·revert h2
  generalize sgF _ = σ
  intro h2
  induction T with
  |nil=>exact trivial
  |cons x T ih=>
   have h1' : okTm [10,11,12,13] T = true:=by
    have h1 : (onlyB [10,11,12,13] x.2 && okTm [10,11,12,13] T) = true:=h1
    exact ((Bool.and_eq_true _ _).mp h1).2
   exact ⟨h2.1,ih h1' h2.2⟩
 ·refine ⟨rfl,?_,rfl,?_,rfl,?_,rfl,?_,trivial⟩
  ·show lm ((s.nx + 1,_) :: setm ((s.nx,_) :: setm s.mem kc _) kc _) kc = _
   rw [lm_cons_ne (by omega),lm_set_same]
   rfl
  ·show lm ((s.nx + 1,_) :: setm ((s.nx,_) :: setm s.mem kc _) kc _) kt = _
   rw [lm_cons_ne (by omega),lm_set_other _ _ (Ne.symm hne),lm_cons_ne (by omega),lm_set_other _ _ (Ne.symm hne),ht]
   rfl
  ·show lm ((s.nx + 1,_) :: setm ((s.nx,_) :: setm s.mem kc _) kc _) s.nx = _
   rw [lm_cons_ne (by omega),lm_set_other _ _ (by omega),lm_cons_eq]
   rfl
  ·show lm ((s.nx + 1,_) :: setm ((s.nx,_) :: setm s.mem kc _) kc _) (s.nx + 1) = _
   rw [lm_cons_eq]
   rfl
 ·show [kc,kt,s.nx,s.nx + 1].Nodup
  simp
  omega
theorem ex_okP (p : Psg) (h : p ∈ exT2.ps) : OkP p:=by
 rw [ex_psz p h]
 exact ex_ok0.n.2.2.1 exP (by simp [ex0,exT2])
theorem ex_ok2 : CvOK ex2:=by
 refine ⟨ex_dsk,rfl,ex_ok0.plt,by decide,by decide,(fun _=>by decide),by decide,by decide,by decide,by decide,⟨by decide,(fun x hx=>by cases hx)⟩,by decide,⟨by decide,(fun x hx=>by cases hx)⟩⟩
theorem opq_e {n : Nat} (h : 60 ≤ n) : Opq 60 ([] : Mem) n:=⟨h,fun j hj=>rfl,fun j hj=>rfl⟩
theorem ex_t1 : TakeR 32 ex0 (begC ex0 exR1) 1 0 0 1 0 0 exR1 []:=fun {tm} {R} {nx} hR=>by
 have h:=i32 ex_ok0 (by decide) rfl (a:=1) (b:=0) (d:=0) (r:=exR1) (by decide) (tm:=tm) hR
 rw [ex_beg] at h
 exact h
theorem ex_t2 : TakeR 34 ex1 (holC ex1 exR2) 1 0 1 1 0 1 exR2 []:=fun hR=>i34 (by decide) (by decide) (by decide) hR
theorem fn11 : Sy.Fn Try.prog 11 [] (bv true):=by
 refine Fn_of_W mixed Xt11 rfl ?_
 have c5:=fn5
 have c22:=fn22
 have hg : ∀ a ∈ [exC],GrA a:=fun a ha=>by
  rw [List.mem_singleton] at ha
  rw [ha]
  exact ⟨by decide,fun x hx=>by
   have : x = exN ∨ x = exD:=by simpa [exC] using hx
   rcases this with rfl | rfl <;> exact ⟨by decide,by decide,by decide⟩⟩
 repeat (first | refine w1g ?_ | refine w1l ?_ | refine w1q ?_ | refine w1b ?_)
 refine w1r ?_
 simp (maxSteps:=400000) (disch:=omega) only [push_cast,↓reduceIte,reduceCtorEq,Nat.reduceAdd,Nat.reduceSub,Nat.reduceEqDiff,Nat.reduceLeDiff,Nat.reduceLT,Nat.reduceBEq,Nat.reduceDiv,Nat.reduceMod,Nat.reducePow,Nat.reduceMul,Int.reduceToNat,Int.reduceLT,Int.reduceLE,ne_l,ne_r,bq_l,bq_r,ls_l,ls_r,lm_set_same,hasM_eq,Option.isSome_some,cvM,List.cons_append,List.nil_append]
 repeat (first | refine w1g ?_ | refine w1l ?_ | refine w1q ?_ | refine w1b ?_)
 refine w1r ?_
 simp (maxSteps:=400000) (disch:=omega) only [push_cast,↓reduceIte,reduceCtorEq,Nat.reduceAdd,Nat.reduceSub,Nat.reduceEqDiff,Nat.reduceLeDiff,Nat.reduceLT,Nat.reduceBEq,Nat.reduceDiv,Nat.reduceMod,Nat.reducePow,Nat.reduceMul,Int.reduceToNat,Int.reduceLT,Int.reduceLE,ne_l,ne_r,bq_l,bq_r,ls_l,ls_r,lm_set_same,hasM_eq,Option.isSome_some,cvM,List.cons_append,List.nil_append]
 refine CallC.now c5 ?_
 simp (maxSteps:=400000) (disch:=omega) only [push_cast,↓reduceIte,reduceCtorEq,Nat.reduceAdd,Nat.reduceSub,Nat.reduceEqDiff,Nat.reduceLeDiff,Nat.reduceLT,Nat.reduceBEq,Nat.reduceDiv,Nat.reduceMod,Nat.reducePow,Nat.reduceMul,Int.reduceToNat,Int.reduceLT,Int.reduceLE,ne_l,ne_r,bq_l,bq_r,ls_l,ls_r,lm_set_same,hasM_eq,Option.isSome_some,cvM,List.cons_append,List.nil_append]
 repeat (first | refine w1g ?_ | refine w1l ?_ | refine w1q ?_ | refine w1b ?_)
 refine W_regTP 4 2 3 (by rfl) (by decide) (by rfl) ?_
 simp (maxSteps:=400000) (disch:=omega) only [push_cast,↓reduceIte,reduceCtorEq,Nat.reduceAdd,Nat.reduceSub,Nat.reduceEqDiff,Nat.reduceLeDiff,Nat.reduceLT,Nat.reduceBEq,Nat.reduceDiv,Nat.reduceMod,Nat.reducePow,Nat.reduceMul,Int.reduceToNat,Int.reduceLT,Int.reduceLE,ne_l,ne_r,bq_l,bq_r,ls_l,ls_r,lm_set_same,hasM_eq,Option.isSome_some,cvM,List.cons_append,List.nil_append,List.take_succ_cons,List.take_zero,List.drop_succ_cons,List.drop_zero]
 refine CallC.now c22 ?_
 simp (maxSteps:=400000) (disch:=omega) only [push_cast,↓reduceIte,reduceCtorEq,Nat.reduceAdd,Nat.reduceSub,Nat.reduceEqDiff,Nat.reduceLeDiff,Nat.reduceLT,Nat.reduceBEq,Nat.reduceDiv,Nat.reduceMod,Nat.reducePow,Nat.reduceMul,Int.reduceToNat,Int.reduceLT,Int.reduceLE,ne_l,ne_r,bq_l,bq_r,ls_l,ls_r,lm_set_same,hasM_eq,Option.isSome_some,cvM,List.cons_append,List.nil_append]
 refine ⟨rfl,trivial,Aut,dAu,cAu,[exC],rfl,by omega,fun x _=>⟨rfl,rfl⟩,rfl,?_⟩
 simp (maxSteps:=400000) (disch:=omega) only [push_cast,↓reduceIte,reduceCtorEq,Nat.reduceAdd,Nat.reduceSub,Nat.reduceEqDiff,Nat.reduceLeDiff,Nat.reduceLT,Nat.reduceBEq,Nat.reduceDiv,Nat.reduceMod,Nat.reducePow,Nat.reduceMul,Int.reduceToNat,Int.reduceLT,Int.reduceLE,ne_l,ne_r,bq_l,bq_r,ls_l,ls_r,lm_set_same,hasM_eq,Option.isSome_some,cvM,List.cons_append,List.nil_append]
 refine ⟨_,le_frzR 18 [19,20] [] 60 9 0 31 4 dAu cAu [exC] rfl rfl rfl (by rfl),?_⟩
 simp (maxSteps:=400000) (disch:=omega) only [push_cast,↓reduceIte,reduceCtorEq,Nat.reduceAdd,Nat.reduceSub,Nat.reduceEqDiff,Nat.reduceLeDiff,Nat.reduceLT,Nat.reduceBEq,Nat.reduceDiv,Nat.reduceMod,Nat.reducePow,Nat.reduceMul,Int.reduceToNat,Int.reduceLT,Int.reduceLE,ne_l,ne_r,bq_l,bq_r,ls_l,ls_r,lm_set_same,hasM_eq,Option.isSome_some,cvM,List.cons_append,List.nil_append]
 refine CallC.inl (Inl_le' (i7 [exC] exT2 0 exL (by decide) hg (by decide) (by decide) (fun c hc=>by
  have : c = ⟨4200,exH⟩ ∨ c = ⟨4290,exH⟩:=by simpa [exL] using hc
  rcases this with rfl | rfl <;> decide) ex_tp (R:=[]) (nx:=60) ⟨Nat.le_refl _,fun j hj=>rfl,fun j hj=>rfl⟩) ?_)
 rintro x s' ⟨B',R2,nx2,hB',hX,⟨rfl,kt,kc,rfl,hkt,hkc,hne,h1,h2⟩,hl⟩
 rw [ex_th] at h1 h2
 have hlt : kc < nx2 ∧ kt < nx2:=by
  refine ⟨?_,?_⟩
  ·rcases Nat.lt_or_ge kc nx2 with h | h
   ·exact h
   ·rw [hX.hi kc h] at h1;cases h1
  ·rcases Nat.lt_or_ge kt nx2 with h | h
   ·exact h
   ·rw [hX.hi kt h] at h2;cases h2
 refine ⟨_,?_,hl⟩
 simp (maxSteps:=400000) (disch:=omega) only [push_cast,↓reduceIte,reduceCtorEq,Nat.reduceAdd,Nat.reduceSub,Nat.reduceEqDiff,Nat.reduceLeDiff,Nat.reduceLT,Nat.reduceBEq,Nat.reduceDiv,Nat.reduceMod,Nat.reducePow,Nat.reduceMul,Int.reduceToNat,Int.reduceLT,Int.reduceLE,ne_l,ne_r,bq_l,bq_r,ls_l,ls_r,lm_set_same,hasM_eq,Option.isSome_some,cvM,List.cons_append,List.nil_append]
 refine W_le (le_base [(3,.own 10 0),(4,iv 0)] h1 h2 (by dsimp only;omega) (by dsimp only;omega) hne rfl ⟨rfl,rfl,trivial⟩) ?_
 clear h1 h2 hl hX hB' hlt hkt hkc hne
 show W _ _ _ ⟨_,cvM ex0 1 0 0,60⟩ _
 simp (maxSteps:=400000) (disch:=omega) only [push_cast,↓reduceIte,reduceCtorEq,Nat.reduceAdd,Nat.reduceSub,Nat.reduceEqDiff,Nat.reduceLeDiff,Nat.reduceLT,Nat.reduceBEq,Nat.reduceDiv,Nat.reduceMod,Nat.reducePow,Nat.reduceMul,Int.reduceToNat,Int.reduceLT,Int.reduceLE,ne_l,ne_r,bq_l,bq_r,ls_l,ls_r,lm_set_same,hasM_eq,Option.isSome_some,cvM,List.cons_append,List.nil_append]
 repeat' (first | refine w1g ?_ | refine w1l ?_ | refine w1q ?_ | refine w1b ?_ | refine w1p ?_ | ((first | refine w1r ?_ | refine w1k ?_ | refine w1e ?_);simp (maxSteps:=400000) (disch:=omega) only [push_cast,↓reduceIte,reduceCtorEq,Nat.reduceAdd,Nat.reduceSub,Nat.reduceEqDiff,Nat.reduceLeDiff,Nat.reduceLT,Nat.reduceBEq,Nat.reduceDiv,Nat.reduceMod,Nat.reducePow,Nat.reduceMul,Int.reduceToNat,Int.reduceLT,Int.reduceLE,ne_l,ne_r,bq_l,bq_r,ls_l,ls_r,lm_set_same,hasM_eq,Option.isSome_some,cvM,List.cons_append,List.nil_append]) | refine an2 ?_ | fail)
 refine CallC.inl (Inl_le' (i8 (c:=ex0) (r:=exR1) (O:=[]) (R:=[]) (by decide) (fn30 exR1 (by kernel_rfl)) (by decide) (by decide) (.inl ⟨rfl,ex_t1⟩) (by decide) (fun x hx=>by cases hx) rfl (by decide) ⟨by omega,fun j hj=>rfl,fun j hj=>rfl⟩) ?_)
 rintro x s' ⟨B',R2,nx2,hB',hX,⟨rfl,rfl⟩,hl⟩
 refine ⟨_,?_,hl⟩
 show chain _ _ _ (S.app ⟨_,cvM ex1 1 0 1 ++ R2,nx2⟩ _ _ _ _) _
 have hR2:=hX.opq (opq_e (by omega))
 clear hl hX hB'
 simp (maxSteps:=400000) (disch:=omega) only [push_cast,↓reduceIte,reduceCtorEq,Nat.reduceAdd,Nat.reduceSub,Nat.reduceEqDiff,Nat.reduceLeDiff,Nat.reduceLT,Nat.reduceBEq,Nat.reduceDiv,Nat.reduceMod,Nat.reducePow,Nat.reduceMul,Int.reduceToNat,Int.reduceLT,Int.reduceLE,ne_l,ne_r,bq_l,bq_r,ls_l,ls_r,lm_set_same,hasM_eq,Option.isSome_some,cvM,List.cons_append,List.nil_append]
 repeat' (first | refine w1g ?_ | refine w1l ?_ | refine w1q ?_ | refine w1b ?_ | refine w1p ?_ | ((first | refine w1r ?_ | refine w1k ?_ | refine w1e ?_);simp (maxSteps:=400000) (disch:=omega) only [push_cast,↓reduceIte,reduceCtorEq,Nat.reduceAdd,Nat.reduceSub,Nat.reduceEqDiff,Nat.reduceLeDiff,Nat.reduceLT,Nat.reduceBEq,Nat.reduceDiv,Nat.reduceMod,Nat.reducePow,Nat.reduceMul,Int.reduceToNat,Int.reduceLT,Int.reduceLE,ne_l,ne_r,bq_l,bq_r,ls_l,ls_r,lm_set_same,hasM_eq,Option.isSome_some,cvM,List.cons_append,List.nil_append]) | refine an2 ?_ | fail)
 refine CallC.inl (Inl_le' (i8 (c:=ex1) (r:=exR2) (O:=[]) (R:=R2) (by decide) (fn30 exR2 (by kernel_rfl)) (by decide) (by decide) (.inr (.inr (.inl ⟨rfl,ex_t2⟩))) (by decide) (fun x hx=>by cases hx) (by kernel_rfl) (by decide) (hR2.le (by omega))) ?_)
 rintro x s' ⟨B',R3,nx3,hB',hX,⟨rfl,rfl⟩,hl⟩
 refine ⟨_,?_,hl⟩
 show chain _ _ _ (S.app ⟨_,cvM ex2 1 0 2 ++ R3,nx3⟩ _ _ _ _) _
 clear hl hX hB'
 have e5 : repL ex0.rp [] 0 = []:=rfl
 simp (maxSteps:=400000) (disch:=omega) only [push_cast,↓reduceIte,reduceCtorEq,Nat.reduceAdd,Nat.reduceSub,Nat.reduceEqDiff,Nat.reduceLeDiff,Nat.reduceLT,Nat.reduceBEq,Nat.reduceDiv,Nat.reduceMod,Nat.reducePow,Nat.reduceMul,Int.reduceToNat,Int.reduceLT,Int.reduceLE,ne_l,ne_r,bq_l,bq_r,ls_l,ls_r,lm_set_same,hasM_eq,Option.isSome_some,cvM,List.cons_append,List.nil_append,e5]
 refine W_le (le_ren [] [(3,.own 10 0),(4,iv 0),(5,aDv []),(6,iv 0),(8,iv 0)] (cvM ex2 1 0 2) 60 rfl ⟨rfl,rfl,rfl,rfl,rfl,trivial⟩ ⟨rfl,rfl,rfl,rfl,rfl,rfl,rfl,rfl,trivial⟩ (by decide) rfl) ?_
 refine W_le (le_frzC 10 15 11 1 71 3 dCt cCt ex2.th (cvC ex2 1 0 2) rfl rfl (by decide) rfl) ?_
 refine W_le (le_frzC 10 16 12 0 97 3 dCo cCo ex2.cl _ rfl rfl (by decide) rfl) ?_
 refine W_le (le_frzC 10 18 13 2 47 5 dDv cDv ex2.dv _ rfl rfl (by decide) rfl) ?_
 refine W_le (le_frz 3 [4,5,6,8] [] 60 10 0 (cCv ex2) rfl rfl rfl rfl (by rfl)) ?_
 simp (maxSteps:=400000) (disch:=omega) only [push_cast,↓reduceIte,reduceCtorEq,Nat.reduceAdd,Nat.reduceSub,Nat.reduceEqDiff,Nat.reduceLeDiff,Nat.reduceLT,Nat.reduceBEq,Nat.reduceDiv,Nat.reduceMod,Nat.reducePow,Nat.reduceMul,Int.reduceToNat,Int.reduceLT,Int.reduceLE,ne_l,ne_r,bq_l,bq_r,ls_l,ls_r,lm_set_same,hasM_eq,Option.isSome_some,cvM,List.cons_append,List.nil_append]
 have c9:=fn9 ex2 ex_ok2
 rw [ex_rp] at c9
 have c10:=fn10 ex2 (by decide) (fun _=>by decide) (fun p hp=>ex_okP p hp) (by decide) (by decide)
 rw [ex_free] at c10
 repeat' (first | refine w1g ?_ | refine w1l ?_ | refine w1q ?_ | refine w1b ?_ | refine w1p ?_ | ((first | refine w1r ?_ | refine w1k ?_ | refine w1e ?_ | refine CallC.now (c9) ?_ | refine CallC.go _ (fun _=>⟨trivial,c10⟩) rfl ?_);simp (maxSteps:=400000) (disch:=omega) only [push_cast,↓reduceIte,reduceCtorEq,Nat.reduceAdd,Nat.reduceSub,Nat.reduceEqDiff,Nat.reduceLeDiff,Nat.reduceLT,Nat.reduceBEq,Nat.reduceDiv,Nat.reduceMod,Nat.reducePow,Nat.reduceMul,Int.reduceToNat,Int.reduceLT,Int.reduceLE,ne_l,ne_r,bq_l,bq_r,ls_l,ls_r,lm_set_same,hasM_eq,Option.isSome_some,cvM,List.cons_append,List.nil_append]) | refine an2 ?_ | fail)
 exact W_ret ⟨[_],⟨rfl,rfl⟩,rfl⟩
theorem i9 {c : Cvy} (h : CvOK c) {a b d : Nat} {tm : List (Nat × AV)} {R : Mem} {nx : Nat} (hR : Opq 60 R nx) :
  Inl Try.prog 9 [.own 10 0] ⟨tm,cvM c a b d ++ R,nx⟩ (MidZ 60 tm nx R fun x B' R2=>B' = cvM c a b d ∧ x = .tup [iv (rpV c).1,aCr (rpV c).2.1,iv (rpV c).2.2]):=by
 refine Inl_opqY mixed Xt9 rfl hR (cvM_bas c a b d) (fun R' nx' hR' hnx hE=>?_)
 generalize hQd : FinY 60 [RV.t 2,RV.t 3,RV.t 4] nx' R' _ = Q
 have hN:=hR'.n
 obtain ⟨q1,q2,q3,q4⟩:=h.n
 have hpl:=h.pl
 have hnx:=h.nx
 have hmv:=h.mv
 have hdk:=dsk_ok h.dk
 have c28:=fn28 c (by omega)
 have c39:=fn39 c.l c.t (by omega) q4 (by omega)
 rw [h.dk] at c39
 have epm : pmV c.l c.t = [aCd (cvD c),iv (dkN c.l c.t c.t.ps.length).fe,iv (dkN c.l c.t c.t.ps.length).no]:=by unfold pmV;rw [if_pos h.dk];rfl
 rw [epm] at c39
 have hcd:=dk_cd (l:=c.l) (t:=c.t) c.t.ps.length hdk.2.2.1
 have hcl:=hdk.2.2.2.cd
 have c41:=fun i=>fn41 c (cvD c) (dkN c.l c.t c.t.ps.length).fe (dkN c.l c.t c.t.ps.length).no i (fun x hx=>(hcd x hx).2) (by show (dkN c.l c.t c.t.ps.length).cd.length ≤ _;omega) (fun x hx=>by
  obtain ⟨_,a1,a2,a3⟩:=hcd x hx
  have:=(q4 _ (getD_mem' dAu c.l x.a.toNat (by omega))).2 _ (getD_mem' dRu (c.l.getD x.a.toNat dAu).ru x.r.toNat (by omega))
  exact this.cn) (by have:=h.th;omega)
 have c40:=fn40 c (by omega)
 have c10:=fn10 c (by omega) (fun hv=>⟨hnx.1,hmv hv⟩) q3 h.bg (by have:=h.hd;have:=h.rp;omega)
 have c43:=fn43 c.th (by have:=h.th;omega)
 have hV : rpV c = rpG c (frsV c) ((c.t.ps.length : Int) - frsV c).toNat 0 (freeV c) []:=rfl
 have c42:=fun i f hi hf=>fn42 c i f hi hf (by omega) q4 (by omega) q3 (by have:=h.cl.1;omega) h.cl.2
 have c44:=fun i hi=>fn44 c i hi
 have hfr : 0 ≤ frsV c ∧ frsV c ≤ c.t.ps.length:=by
  unfold frsV
  split
  ·rename_i hv;have:=hmv hv;omega
  ·omega
 have hfv : 0 ≤ freeV c ∧ freeV c ≤ 1099520000000:=by
  have h1:=h.now;have h2:=h.bg;have h3:=h.hd;have h4:=h.rdy;have h5:=h.rp
  unfold freeV
  split
  ·rename_i hv
   have hmi:=(q3 _ (getD_mem' dPs c.t.ps c.nx.toNat (by have:=hmv hv;omega))).mi
   have em : miC c c.nx = (c.t.ps.getD c.nx.toNat dPs).mi:=rfl
   rw [← em] at hmi
   omega
  ·omega
 generalize rpV c = V at *
 generalize frsV c = F at *
 generalize freeV c = T at *
 simp (maxSteps:=400000) (disch:=omega) only [push_cast,↓reduceIte,reduceCtorEq,Nat.reduceAdd,Nat.reduceSub,Nat.reduceEqDiff,Nat.reduceLeDiff,Nat.reduceLT,Nat.reduceBEq,Nat.reduceDiv,Nat.reduceMod,Nat.reducePow,Nat.reduceMul,Int.reduceToNat,Int.reduceLT,Int.reduceLE,ne_l,ne_r,bq_l,bq_r,ls_l,ls_r,lm_set_same,hasM_eq,Option.isSome_some,cvM,List.cons_append,List.nil_append,initT]
 repeat' (first | refine w1g ?_ | refine w1l ?_ | refine w1q ?_ | refine w1b ?_ | refine w1p ?_ | ((first | refine w1r ?_ | refine w1k ?_ | refine w1e ?_ | refine CallC.go _ (fun _=>⟨trivial,c28⟩) rfl ?_);simp (maxSteps:=400000) (disch:=omega) only [push_cast,↓reduceIte,reduceCtorEq,Nat.reduceAdd,Nat.reduceSub,Nat.reduceEqDiff,Nat.reduceLeDiff,Nat.reduceLT,Nat.reduceBEq,Nat.reduceDiv,Nat.reduceMod,Nat.reducePow,Nat.reduceMul,Int.reduceToNat,Int.reduceLT,Int.reduceLE,ne_l,ne_r,bq_l,bq_r,ls_l,ls_r,lm_set_same,hasM_eq,Option.isSome_some,cvM,List.cons_append,List.nil_append]) | refine an2 ?_ | fail)
 refine W_cond (by rfl) (fun h=>by cases h) (fun _=>?_)
 repeat' (first | refine w1g ?_ | refine w1l ?_ | refine w1q ?_ | refine w1b ?_ | refine w1p ?_ | ((first | refine w1r ?_ | refine w1k ?_ | refine w1e ?_ | refine CallC.now (c39) ?_ | refine CallC.go _ (fun _=>⟨trivial,c40⟩) rfl ?_ | refine CallC.go _ (fun _=>⟨trivial,c10⟩) rfl ?_);simp (maxSteps:=400000) (disch:=omega) only [push_cast,↓reduceIte,reduceCtorEq,Nat.reduceAdd,Nat.reduceSub,Nat.reduceEqDiff,Nat.reduceLeDiff,Nat.reduceLT,Nat.reduceBEq,Nat.reduceDiv,Nat.reduceMod,Nat.reducePow,Nat.reduceMul,Int.reduceToNat,Int.reduceLT,Int.reduceLE,ne_l,ne_r,bq_l,bq_r,ls_l,ls_r,lm_set_same,hasM_eq,Option.isSome_some,cvM,List.cons_append,List.nil_append]) | refine an2 ?_ | fail)
 refine W_le (le_adopt 9 50 2 dCr cCr (by omega) rfl) ?_
 simp (maxSteps:=400000) (disch:=omega) only [push_cast,↓reduceIte,reduceCtorEq,Nat.reduceAdd,Nat.reduceSub,Nat.reduceEqDiff,Nat.reduceLeDiff,Nat.reduceLT,Nat.reduceBEq,Nat.reduceDiv,Nat.reduceMod,Nat.reducePow,Nat.reduceMul,Int.reduceToNat,Int.reduceLT,Int.reduceLE,ne_l,ne_r,bq_l,bq_r,ls_l,ls_r,lm_set_same,hasM_eq,Option.isSome_some,cvM,List.cons_append,List.nil_append]
 generalize hk5 : nx' + 1 + 1 + 1 + 1 + 1 + 1 + 1 + 1 + 1 + 1 + 1 + 1 + 1 + 1 + 1 + 1 + 1 + 1 = k5
 generalize hko : k5 + 1 + 1 + 1 + 1 + 1 + 1 + 1 + 1 + 1 + 1 + 1 + 1 + 1 + 1 + 1 + 1 + 1 + 1 + 1 = ko
 clear c39 epm
 generalize (dkN c.l c.t c.t.ps.length).fe = fe at *
 generalize (dkN c.l c.t c.t.ps.length).no = no at *
 obtain ⟨M0,hM0⟩ : ∃ M0,cvM c a b d ++ setm R' k5 (.cells [aCd (cvD c),iv fe,iv no]) = M0:=⟨_,rfl⟩
 have m10 : lm M0 10 = some (.cells (cvC c a b d)):=by rw [← hM0];rfl
 have m11 : lm M0 11 = some (.row a 71 3 dCt cCt c.th):=by rw [← hM0];rfl
 have m12 : lm M0 12 = some (.row b 97 3 dCo cCo c.cl):=by rw [← hM0];rfl
 have m13 : lm M0 13 = some (.row d 47 5 dDv cDv c.dv):=by rw [← hM0];rfl
 have m5 : lm M0 k5 = some (.cells [aCd (cvD c),iv fe,iv no]):=by
  rw [← hM0,lm_app_r (cvM_bas c a b d k5 (by omega)),lm_set_same]
 have mn : ∀ j,ko ≤ j → lm M0 j = none:=fun j hj=>by
  rw [← hM0,lm_app_r (cvM_bas c a b d j (by omega)),lm_set_other _ _ (by omega)];exact hR'.hi j (by omega)
 have T1:=one_blk M0 (N0:=ko + 1) (k:=ko) (by omega) (fun j hj=>mn j (by omega))
 obtain ⟨B,hB⟩ : ∃ B : Blk → Mem,(fun a=>setm M0 ko a) = B:=⟨_,rfl⟩
 have hBd : ∀ x,B x = setm M0 ko x:=fun x=>by rw [← hB]
 rw [hB] at T1
 have hl : ∀ (x : Blk) (R1 : Mem) (j : Nat) (bl : Blk),j ≠ ko → lm M0 j = some bl → lm (B x ++ R1) j = some bl:=fun x R1 j bl hj hm=>by
  rw [lm_app,hBd,lm_set_other _ _ hj,hm]
 have l10:=fun x R1=>hl x R1 10 _ (by omega) m10
 have l11:=fun x R1=>hl x R1 11 _ (by omega) m11
 have l12:=fun x R1=>hl x R1 12 _ (by omega) m12
 have l13:=fun x R1=>hl x R1 13 _ (by omega) m13
 have l5:=fun x R1=>hl x R1 k5 _ (by omega) m5
 clear hB
 have hfin : ∀ (X : Blk) (R1 : Mem) (nx1 nx2 : Nat) (x y z : AV) (TT : List (Nat × AV)),Ext (ko + 1) [] nx1 R1 → nx1 ≤ nx2 → lk TT 2 = x → lk TT 3 = y → lk TT 4 = z → AV.tup [x,y,z] = .tup [iv V.1,aCr V.2.1,iv V.2.2] → Q .r ⟨TT,B X ++ R1,nx2⟩:=fun X R1 nx1 nx2 x y z TT hX hle h2 h3 h4 he=>by
  have hXn:=hX.n
  rw [← hQd]
  refine ⟨[x,y,z],cvM c a b d,setm (setm R' k5 (.cells [aCd (cvD c),iv fe,iv no])) ko X ++ R1,⟨h2.symm,h3.symm,h4.symm,rfl⟩,?_,cvM_bas _ _ _ _,⟨by dsimp only;omega,fun j hj=>?_,fun j hj=>?_⟩,fun R3 _=>⟨rfl,he⟩⟩
  ·show sameM _ (B X ++ R1)
   rw [hBd,← hM0,setm_appr (cvM_bas c a b d ko (by omega)),List.append_assoc]
   exact sameM.refl _
  ·rw [lm_app,lm_set_other _ _ (by omega),lm_set_other _ _ (by omega)]
   cases lm R' j with
   |some b=>rfl
   |none=>exact hX.eq j (by omega)
  ·have hj : nx2 ≤ j:=hj
   rw [lm_app,lm_set_other _ _ (by omega),lm_set_other _ _ (by omega),hR'.hi j (by omega)]
   exact hX.hi j (by omega)
 refine W_loopX (ko + 1) (ι:=Nat × Int × List Crs) (fun q=>[(40,iv q.1),(8,iv q.2.1),(9,.row ko q.2.2.length)]) (fun q=>B (.row q.2.2.length 50 2 dCr cCr q.2.2)) (fun q=>(q.1 : Int) ≤ c.t.ps.length - F ∧ q.2.2.length = q.1 ∧ (0 ≤ q.2.1 ∧ q.2.1 ≤ 1099520000000) ∧ V = rpG c F ((c.t.ps.length : Int) - F - q.1).toNat q.1 q.2.1 q.2.2) (fun q=>((c.t.ps.length : Int) - F - q.1).toNat) (fun q _=>T1.bas _) (opq_nil _) (0,T,[]) ⟨by dsimp only;omega,rfl,hfv,by show V = rpG c F ((c.t.ps.length : Int) - F - ((0 : Nat) : Int)).toNat 0 T [];rw [hV,show ((c.t.ps.length : Int) - F - ((0 : Nat) : Int)) = c.t.ps.length - F by omega]⟩ (by rfl) ?_ (fun q R1 nx1 hq hE1=>?_)
 ·intro j
  rw [List.append_nil,hBd]
  show _ = lm ((ko,_) :: (cvM c a b d ++ setm R' k5 (.cells [aCd (cvD c),iv fe,iv no]))) j
  rw [hM0]
  exact (sameF _ _ _ j).symm
 have hN1:=hE1.n
 obtain ⟨n,f,O⟩:=q
 obtain ⟨hn,hO,hf,hVn⟩:=hq
 dsimp only at hn hO hf hVn ⊢
 simp (maxSteps:=400000) (disch:=omega) only [push_cast,↓reduceIte,reduceCtorEq,Nat.reduceAdd,Nat.reduceSub,Nat.reduceEqDiff,Nat.reduceLeDiff,Nat.reduceLT,Nat.reduceBEq,Nat.reduceDiv,Nat.reduceMod,Nat.reducePow,Nat.reduceMul,Int.reduceToNat,Int.reduceLT,Int.reduceLE,ne_l,ne_r,bq_l,bq_r,ls_l,ls_r,lm_set_same,hasM_eq,Option.isSome_some,cvM,List.cons_append,List.nil_append,keepL]
 repeat' (first | refine w1g ?_ | refine w1l ?_ | refine w1q ?_ | refine w1b ?_ | refine w1p ?_ | ((first | refine w1r ?_ | refine w1k ?_ | refine w1e ?_);simp (maxSteps:=400000) (disch:=omega) only [push_cast,↓reduceIte,reduceCtorEq,Nat.reduceAdd,Nat.reduceSub,Nat.reduceEqDiff,Nat.reduceLeDiff,Nat.reduceLT,Nat.reduceBEq,Nat.reduceDiv,Nat.reduceMod,Nat.reducePow,Nat.reduceMul,Int.reduceToNat,Int.reduceLT,Int.reduceLE,ne_l,ne_r,bq_l,bq_r,ls_l,ls_r,lm_set_same,hasM_eq,Option.isSome_some,cvM,List.cons_append,List.nil_append,T1.l1,T1.ln,T1.s1,T1.sn,l10,l11,l12,l13,l5,keepL]) | refine an2 ?_ | fail)
 refine W_condD (by rfl) (fun h5=>?_) (fun h5=>?_)
 ·obtain ⟨m,hm⟩ : ∃ m,((c.t.ps.length : Int) - F - n).toNat = m + 1:=⟨((c.t.ps.length : Int) - F - n).toNat - 1,by omega⟩
  have hm2 : ((c.t.ps.length : Int) - F - ((n + 1 : Nat) : Int)).toNat = m:=by omega
  rw [hm] at hVn
  unfold rpG at hVn
  have c41:=c41 (F + n)
  have c42:=c42 (F + n) f (by omega) hf
  have c44:=c44 (F + n) (by omega)
  have hmi:=(q3 _ (getD_mem' dPs c.t.ps (F + n).toNat (by omega))).mi
  have em : miC c (F + n) = (c.t.ps.getD (F + n).toNat dPs).mi:=rfl
  rw [← em] at hmi
  have hsr:=srN_rng (c:=c) (i:=F + n) (e:=(f / 1440 + 400) * 1440) 600000 f
  change ∀ s,srV c (F + n) f = some s → _ at hsr
  generalize miC c (F + n) = M at *
  generalize ctdB c (cvD c) (F + n) = Bc at *
  generalize srV c (F + n) f = Z at *
  repeat' (first | refine w1g ?_ | refine w1l ?_ | refine w1q ?_ | refine w1b ?_ | refine w1p ?_ | ((first | refine w1r ?_ | refine w1k ?_ | refine w1e ?_ | refine CallC.go _ (fun _=>⟨trivial,c41⟩) rfl ?_);simp (maxSteps:=400000) (disch:=omega) only [push_cast,↓reduceIte,reduceCtorEq,Nat.reduceAdd,Nat.reduceSub,Nat.reduceEqDiff,Nat.reduceLeDiff,Nat.reduceLT,Nat.reduceBEq,Nat.reduceDiv,Nat.reduceMod,Nat.reducePow,Nat.reduceMul,Int.reduceToNat,Int.reduceLT,Int.reduceLE,T1.l1,T1.ln,T1.s1,T1.sn,l10,l11,l12,l13,l5,ne_l,ne_r,bq_l,bq_r,ls_l,ls_r,lm_set_same,hasM_eq,Option.isSome_some]) | refine an2 ?_ | fail)
  refine W_cond (by rfl) (fun h6=>?_) (fun h6=>?_)
  ·have h6 : Bc = false:=by simpa using h6
   rw [h6,if_neg (by decide)] at hVn
   repeat' (first | refine w1g ?_ | refine w1l ?_ | refine w1q ?_ | refine w1b ?_ | refine w1p ?_ | ((first | refine w1r ?_ | refine w1k ?_ | refine w1e ?_);simp (maxSteps:=400000) (disch:=omega) only [push_cast,↓reduceIte,reduceCtorEq,Nat.reduceAdd,Nat.reduceSub,Nat.reduceEqDiff,Nat.reduceLeDiff,Nat.reduceLT,Nat.reduceBEq,Nat.reduceDiv,Nat.reduceMod,Nat.reducePow,Nat.reduceMul,Int.reduceToNat,Int.reduceLT,Int.reduceLE,T1.l1,T1.ln,T1.s1,T1.sn,l10,l11,l12,l13,l5,ne_l,ne_r,bq_l,bq_r,ls_l,ls_r,lm_set_same,hasM_eq,Option.isSome_some]) | refine an2 ?_ | fail)
   refine W_le (le_nilS 3 2 dCr cCr rfl) ?_
   exact W_ret (hfin _ _ _ _ _ _ _ _ hE1 (by dsimp only;omega) rfl rfl rfl (by rw [hVn];rfl))
  have h6 : Bc = true:=by simpa using h6
  rw [h6,if_pos rfl] at hVn
  cases Z with
  |none=>
   simp only [Option.getD_none,Option.isSome_none] at c42 hVn
   repeat' (first | refine w1g ?_ | refine w1l ?_ | refine w1q ?_ | refine w1b ?_ | refine w1p ?_ | ((first | refine w1r ?_ | refine w1k ?_ | refine w1e ?_ | refine CallC.go _ (fun _=>⟨trivial,c42⟩) rfl ?_);simp (maxSteps:=400000) (disch:=omega) only [push_cast,↓reduceIte,reduceCtorEq,Nat.reduceAdd,Nat.reduceSub,Nat.reduceEqDiff,Nat.reduceLeDiff,Nat.reduceLT,Nat.reduceBEq,Nat.reduceDiv,Nat.reduceMod,Nat.reducePow,Nat.reduceMul,Int.reduceToNat,Int.reduceLT,Int.reduceLE,T1.l1,T1.ln,T1.s1,T1.sn,l10,l11,l12,l13,l5,ne_l,ne_r,bq_l,bq_r,ls_l,ls_r,lm_set_same,hasM_eq,Option.isSome_some]) | refine an2 ?_ | fail)
   refine W_cond (by rfl) (fun _=>?_) (fun h=>by cases h)
   repeat' (first | refine w1g ?_ | refine w1l ?_ | refine w1q ?_ | refine w1b ?_ | refine w1p ?_ | ((first | refine w1r ?_ | refine w1k ?_ | refine w1e ?_);simp (maxSteps:=400000) (disch:=omega) only [push_cast,↓reduceIte,reduceCtorEq,Nat.reduceAdd,Nat.reduceSub,Nat.reduceEqDiff,Nat.reduceLeDiff,Nat.reduceLT,Nat.reduceBEq,Nat.reduceDiv,Nat.reduceMod,Nat.reducePow,Nat.reduceMul,Int.reduceToNat,Int.reduceLT,Int.reduceLE,T1.l1,T1.ln,T1.s1,T1.sn,l10,l11,l12,l13,l5,ne_l,ne_r,bq_l,bq_r,ls_l,ls_r,lm_set_same,hasM_eq,Option.isSome_some]) | refine an2 ?_ | fail)
   refine W_le (le_nilS 3 2 dCr cCr rfl) ?_
   exact W_ret (hfin _ _ _ _ _ _ _ _ hE1 (by dsimp only;omega) rfl rfl rfl (by rw [hVn];rfl))
  |some z=>
   have hsr:=hsr z rfl
   simp only [Option.getD_some,Option.isSome_some] at c42 hVn
   repeat' (first | refine w1g ?_ | refine w1l ?_ | refine w1q ?_ | refine w1b ?_ | refine w1p ?_ | ((first | refine w1r ?_ | refine w1k ?_ | refine w1e ?_ | refine CallC.go _ (fun _=>⟨trivial,c42⟩) rfl ?_);simp (maxSteps:=400000) (disch:=omega) only [push_cast,↓reduceIte,reduceCtorEq,Nat.reduceAdd,Nat.reduceSub,Nat.reduceEqDiff,Nat.reduceLeDiff,Nat.reduceLT,Nat.reduceBEq,Nat.reduceDiv,Nat.reduceMod,Nat.reducePow,Nat.reduceMul,Int.reduceToNat,Int.reduceLT,Int.reduceLE,T1.l1,T1.ln,T1.s1,T1.sn,l10,l11,l12,l13,l5,ne_l,ne_r,bq_l,bq_r,ls_l,ls_r,lm_set_same,hasM_eq,Option.isSome_some]) | refine an2 ?_ | fail)
   refine W_cond (by rfl) (fun h=>by cases h) (fun _=>?_)
   repeat' (first | refine w1g ?_ | refine w1l ?_ | refine w1q ?_ | refine w1b ?_ | refine w1p ?_ | ((first | refine w1r ?_ | refine w1k ?_ | refine w1e ?_);simp (maxSteps:=400000) (disch:=omega) only [push_cast,↓reduceIte,reduceCtorEq,Nat.reduceAdd,Nat.reduceSub,Nat.reduceEqDiff,Nat.reduceLeDiff,Nat.reduceLT,Nat.reduceBEq,Nat.reduceDiv,Nat.reduceMod,Nat.reducePow,Nat.reduceMul,Int.reduceToNat,Int.reduceLT,Int.reduceLE,T1.l1,T1.ln,T1.s1,T1.sn,l10,l11,l12,l13,l5,ne_l,ne_r,bq_l,bq_r,ls_l,ls_r,lm_set_same,hasM_eq,Option.isSome_some]) | refine an2 ?_ | fail)
   refine CallC.new _ (fun _=>⟨trivial,FnN_of_FnO (fo43 c.th (by have:=h.th;omega))⟩) ?_
   simp (maxSteps:=400000) (disch:=omega) only [push_cast,↓reduceIte,reduceCtorEq,Nat.reduceAdd,Nat.reduceSub,Nat.reduceEqDiff,Nat.reduceLeDiff,Nat.reduceLT,Nat.reduceBEq,Nat.reduceDiv,Nat.reduceMod,Nat.reducePow,Nat.reduceMul,Int.reduceToNat,Int.reduceLT,Int.reduceLE,T1.l1,T1.ln,T1.s1,T1.sn,l10,l11,l12,l13,l5,ne_l,ne_r,bq_l,bq_r,ls_l,ls_r,lm_set_same,hasM_eq,Option.isSome_some]
   repeat' (first | refine w1g ?_ | refine w1l ?_ | refine w1q ?_ | refine w1b ?_ | refine w1p ?_ | ((first | refine w1r ?_ | refine w1k ?_ | refine w1e ?_);simp (maxSteps:=400000) (disch:=omega) only [push_cast,↓reduceIte,reduceCtorEq,Nat.reduceAdd,Nat.reduceSub,Nat.reduceEqDiff,Nat.reduceLeDiff,Nat.reduceLT,Nat.reduceBEq,Nat.reduceDiv,Nat.reduceMod,Nat.reducePow,Nat.reduceMul,Int.reduceToNat,Int.reduceLT,Int.reduceLE,T1.l1,T1.ln,T1.s1,T1.sn,l10,l11,l12,l13,l5,ne_l,ne_r,bq_l,bq_r,ls_l,ls_r,lm_set_same,hasM_eq,Option.isSome_some]) | refine an2 ?_ | fail)
   refine ⟨rfl,trivial,Crs,dCr,cCr,[⟨z,c.th⟩],rfl,by omega,fun x _=>⟨rfl,rfl⟩,rfl,?_⟩
   simp (maxSteps:=400000) (disch:=omega) only [push_cast,↓reduceIte,reduceCtorEq,Nat.reduceAdd,Nat.reduceSub,Nat.reduceEqDiff,Nat.reduceLeDiff,Nat.reduceLT,Nat.reduceBEq,Nat.reduceDiv,Nat.reduceMod,Nat.reducePow,Nat.reduceMul,Int.reduceToNat,Int.reduceLT,Int.reduceLE,T1.l1,T1.ln,T1.s1,T1.sn,l10,l11,l12,l13,l5,ne_l,ne_r,bq_l,bq_r,ls_l,ls_r,lm_set_same,hasM_eq,Option.isSome_some]
   refine ⟨rfl,⟨by first | omega | (dsimp only;omega),by rw [hasM_eq,T1.l1];rfl⟩,trivial,[⟨z,c.th⟩],rfl,by first | omega | (simp;omega),by first | omega | (simp;omega),?_⟩
   simp (maxSteps:=400000) (disch:=omega) only [push_cast,↓reduceIte,reduceCtorEq,Nat.reduceAdd,Nat.reduceSub,Nat.reduceEqDiff,Nat.reduceLeDiff,Nat.reduceLT,Nat.reduceBEq,Nat.reduceDiv,Nat.reduceMod,Nat.reducePow,Nat.reduceMul,Int.reduceToNat,Int.reduceLT,Int.reduceLE,T1.l1,T1.ln,T1.s1,T1.sn,l10,l11,l12,l13,l5,ne_l,ne_r,bq_l,bq_r,ls_l,ls_r,lm_set_same,hasM_eq,Option.isSome_some]
   repeat' (first | refine w1g ?_ | refine w1l ?_ | refine w1q ?_ | refine w1b ?_ | refine w1p ?_ | ((first | refine w1r ?_ | refine w1k ?_ | refine w1e ?_ | refine CallC.go _ (fun _=>⟨trivial,c44⟩) rfl ?_);simp (maxSteps:=400000) (disch:=omega) only [push_cast,↓reduceIte,reduceCtorEq,Nat.reduceAdd,Nat.reduceSub,Nat.reduceEqDiff,Nat.reduceLeDiff,Nat.reduceLT,Nat.reduceBEq,Nat.reduceDiv,Nat.reduceMod,Nat.reducePow,Nat.reduceMul,Int.reduceToNat,Int.reduceLT,Int.reduceLE,T1.l1,T1.ln,T1.s1,T1.sn,l10,l11,l12,l13,l5,ne_l,ne_r,bq_l,bq_r,ls_l,ls_r,lm_set_same,hasM_eq,Option.isSome_some]) | refine an2 ?_ | fail)
   refine ⟨(n + 1,z + M,O ++ [⟨z,c.th⟩]),?_,⟨by dsimp only;omega,by dsimp only;rw [List.length_append,List.length_singleton];omega,by dsimp only;omega,by dsimp only;rw [hm2];exact hVn⟩,by dsimp only;omega,by dsimp only;rw [List.length_append,List.length_singleton];rfl,?_,?_⟩
   rotate_left
   ·dsimp only
    rw [List.length_append,List.length_singleton]
    exact sameM.refl _
   ·exact (Ext.refl (hE1.opq (opq_nil _))).put (by omega) (by omega) (by omega)
 ·have hz : ((c.t.ps.length : Int) - F - n).toNat = 0:=by omega
  rw [hz] at hVn
  have hVn : V = (F,O,0):=hVn
  repeat' (first | refine w1g ?_ | refine w1l ?_ | refine w1q ?_ | refine w1b ?_ | refine w1p ?_ | ((first | refine w1r ?_ | refine w1k ?_ | refine w1e ?_);simp (maxSteps:=400000) (disch:=omega) only [push_cast,↓reduceIte,reduceCtorEq,Nat.reduceAdd,Nat.reduceSub,Nat.reduceEqDiff,Nat.reduceLeDiff,Nat.reduceLT,Nat.reduceBEq,Nat.reduceDiv,Nat.reduceMod,Nat.reducePow,Nat.reduceMul,Int.reduceToNat,Int.reduceLT,Int.reduceLE,T1.l1,T1.ln,T1.s1,T1.sn,l10,l11,l12,l13,l5,ne_l,ne_r,bq_l,bq_r,ls_l,ls_r,lm_set_same,hasM_eq,Option.isSome_some]) | refine an2 ?_ | fail)
  refine W_le (le_frzS 3 ko O.length 50 2 dCr cCr O rfl (T1.l1 _ _)) ?_
  rw [T1.s1]
  exact W_ret (hfin _ _ _ _ _ _ _ _ hE1 (by dsimp only;omega) rfl rfl rfl (by rw [hVn];rfl))
def liC (x a b : Int) : Bool:=if a < b then decide (a ≤ x) && decide (x < b) else decide (a ≤ x) || decide (x < b)
theorem fn88 (x a b : Int) : Sy.Fn Try.prog 88 [iv x,.agg [iv a,iv b]] (bv (liC x a b)):=by
 refine Fn_of_W mixed Xt88 rfl ?_
 unfold liC
 (refine go0 ?_;try exact tTI)
 refine W_condD (by rfl) (fun h=>?_) (fun h=>?_)
 ·rw [if_pos h]
  (refine go0 ?_;try exact tTI)
  exact W_ret ⟨[_],⟨rfl,rfl⟩,rfl⟩
 ·rw [if_neg h]
  (refine go0 ?_;try exact tTI)
  exact W_ret ⟨[_],⟨rfl,rfl⟩,rfl⟩
def opD (r : Rul) (d : Int) : Bool:=!(bits BinOp.and IntKind.i64 (r.dy.fdiv (2 ^ min (d % 7).toNat IntKind.i64.bits)) 1 == 0) && liC (d % 365) r.s0 r.s1
def opA (r : Rul) (fr to : Int) : Bool:=(List.range (min ((to - 1) / 1440 - fr / 1440 + 1) 2555).toNat).all fun k=>opD r (k + fr / 1440)
def opM (r : Rul) (fr to : Int) : Bool:=(List.range (min (to - fr) 1440).toNat).all fun k=>liC ((fr + k) % 1440) r.h0 r.h1
def opnB (r : Rul) (fr to : Int) : Bool:=!r.fb && opA r fr to && opM r fr to
theorem rng_all {n : Nat} {p : Nat → Bool} (h : ∀ j,j < n → p j = true) : (List.range n).all p = true:=List.all_eq_true.2 fun x hx=>h x (List.mem_range.1 hx)
theorem rng_not {n j : Nat} {p : Nat → Bool} (hj : j < n) (h : p j = false) : (List.range n).all p = false:=by
 cases ha : (List.range n).all p with
 |false=>rfl
 |true=>rw [List.all_eq_true.1 ha _ (List.mem_range.2 hj)] at h;cases h
theorem fn77 (r : Rul) (fr to : Int) (h0 : 0 ≤ fr ∧ fr < to ∧ to ≤ 1099511627776) : Sy.Fn Try.prog 77 [.agg (cRu r),iv fr,iv to] (bv (opnB r fr to)):=by
 refine Fn_of_W mixed Xt77 rfl ?_
 have e0 : fr.tdiv 1440 = fr / 1440:=Int.tdiv_eq_ediv_of_nonneg (by omega)
 have e1 : (to - 1).tdiv 1440 = (to - 1) / 1440:=Int.tdiv_eq_ediv_of_nonneg (by omega)
 have q1 : List.take 2 (List.drop 6 (cRu r)) = [iv r.s0,iv r.s1]:=rfl
 have q2 : List.take 2 (List.drop 3 (cRu r)) = [iv r.h0,iv r.h1]:=rfl
 have eO : opnB r fr to = (!r.fb && opA r fr to && opM r fr to):=rfl
 (refine go0 ?_;try exact tTI)
 refine W_cond (by rfl) (fun h=>?_) (fun h=>?_)
 ·rw [eO,h]
  (refine go0 ?_;try exact tTI)
  exact W_ret ⟨[_],⟨rfl,rfl⟩,rfl⟩
 rw [h] at eO
 (refine gof (ad2 e0 e1) ?_;try exact tTI)
 refine W_loopU (fun k : Nat=>[(23,iv k)]) (fun k=>[]) (fun k=>(k : Int) ≤ min ((to - 1) / 1440 - fr / 1440 + 1) 2555 ∧ ∀ j,j < k → opD r ((j : Nat) + fr / 1440) = true) (fun k=>3000 - k) 0 ⟨by omega,fun j hj=>by omega⟩ (by rfl) (by rfl) (fun k hk=>?_)
 obtain ⟨hk,hp⟩:=hk
 (refine sy1 ?_;try exact tTI)
 (refine go0 ?_;try exact tTI)
 refine W_condD (by rfl) (fun h2=>?_) (fun h2=>?_)
 ·have e7 : (k + fr / 1440).tmod 7 = (k + fr / 1440) % 7:=Int.tmod_eq_emod_of_nonneg (by omega)
  have e365 : (k + fr / 1440).tmod 365 = (k + fr / 1440) % 365:=Int.tmod_eq_emod_of_nonneg (by omega)
  have eD : opD r (k + fr / 1440) = (!(bits BinOp.and IntKind.i64 (r.dy.fdiv (2 ^ min ((k + fr / 1440) % 7).toNat IntKind.i64.bits)) 1 == 0) && liC ((k + fr / 1440) % 365) r.s0 r.s1):=rfl
  have c88:=fn88 ((k + fr / 1440) % 365) r.s0 r.s1
  have hnx:=fun q=>pre_succ (p:=fun j=>opD r ((j : Nat) + fr / 1440) = true) hp (k:=k) q
  have hbad:=fun q=>rng_not (n:=(min ((to - 1) / 1440 - fr / 1440 + 1) 2555).toNat) (p:=fun j=>opD r ((j : Nat) + fr / 1440)) (j:=k) (by omega) q
  generalize liC ((k + fr / 1440) % 365) r.s0 r.s1 = L at *
  (refine gofg (ad3 e7 e365 q1) c88 ?_;try exact tTI)
  refine W_cond (by rfl) (fun h3=>?_) (fun h3=>?_)
  ·have e : opA r fr to = false:=hbad (by
    rw [eD]
    revert h3
    generalize (bits _ _ _ _ == 0) = X
    cases X <;> cases L <;> simp)
   rw [eO,e]
   (refine go0 ?_;try exact tTI)
   exact W_ret ⟨[_],⟨rfl,rfl⟩,rfl⟩
  ·have e : opD r (k + fr / 1440) = true:=by
    rw [eD]
    revert h3
    generalize (bits _ _ _ _ == 0) = X
    cases X <;> cases L <;> simp
   (refine go0 ?_;try exact tTI)
   refine ⟨k + 1,⟨by omega,hnx e⟩,by omega,by rfl,?_⟩
   (refine syE ?_;try exact tTI)
 have eA : opA r fr to = true:=rng_all fun j hj=>hp j (by omega)
 rw [eA] at eO
 (refine go0 ?_;try exact tTI)
 refine W_loopU (fun k : Nat=>[(49,iv k)]) (fun k=>[]) (fun k=>(k : Int) ≤ min (to - fr) 1440 ∧ ∀ j,j < k → liC ((fr + (j : Nat)) % 1440) r.h0 r.h1 = true) (fun k=>3000 - k) 0 ⟨by omega,fun j hj=>by omega⟩ (by rfl) (by rfl) (fun k hk=>?_)
 obtain ⟨hk,hp⟩:=hk
 (refine sy1 ?_;try exact tTI)
 (refine go0 ?_;try exact tTI)
 refine W_condD (by rfl) (fun h2=>?_) (fun h2=>?_)
 ·have em : (fr + k).tmod 1440 = (fr + k) % 1440:=Int.tmod_eq_emod_of_nonneg (by omega)
  have c88:=fn88 ((fr + k) % 1440) r.h0 r.h1
  have hnx:=fun q=>pre_succ (p:=fun j=>liC ((fr + (j : Nat)) % 1440) r.h0 r.h1 = true) hp (k:=k) q
  have hbad:=fun q=>rng_not (n:=(min (to - fr) 1440).toNat) (p:=fun j=>liC ((fr + (j : Nat)) % 1440) r.h0 r.h1) (j:=k) (by omega) q
  generalize liC ((fr + k) % 1440) r.h0 r.h1 = L at *
  (refine gofc (ad2 em q2) c88 ?_;try exact tTI)
  refine W_cond (by rfl) (fun h3=>?_) (fun h3=>?_)
  ·have e : opM r fr to = false:=hbad (by simpa using h3)
   rw [eO,e]
   (refine go0 ?_;try exact tTI)
   exact W_ret ⟨[_],⟨rfl,rfl⟩,rfl⟩
  ·(refine go0 ?_;try exact tTI)
   refine ⟨k + 1,⟨by omega,hnx (by simpa using h3)⟩,by omega,by rfl,?_⟩
   (refine syE ?_;try exact tTI)
 ·have eM : opM r fr to = true:=rng_all fun j hj=>hp j (by omega)
  rw [eO,eM]
  (refine go0 ?_;try exact tTI)
  exact W_ret ⟨[_],⟨rfl,rfl⟩,rfl⟩
def fbB (c : Cvy) (p fr to : Int) (x : Cnd) : Bool:=x.p == p && !opnB (ruC c x) fr to
def fbN (c : Cvy) (cd : List Cnd) (p fr to : Int) (n : Nat) : List Int:=(List.range n).foldl (fun o i=>if fbB c p fr to (cd.getD i dCd) = true then o ++ [(i : Int)] else o) []
theorem fbN_succ (c : Cvy) (cd : List Cnd) (p fr to : Int) (n : Nat) : fbN c cd p fr to (n + 1) = if fbB c p fr to (cd.getD n dCd) = true then fbN c cd p fr to n ++ [(n : Int)] else fbN c cd p fr to n:=by
 unfold fbN;rw [List.range_succ,List.foldl_append];rfl
theorem fbN_len (c : Cvy) (cd : List Cnd) (p fr to : Int) : ∀ n,(fbN c cd p fr to n).length ≤ n
 |0=>Nat.le_refl _
 |n + 1=>by
  rw [fbN_succ]
  have:=fbN_len c cd p fr to n
  split
  ·rw [List.length_append,List.length_singleton];omega
  ·omega
noncomputable def fbL (c : Cvy) (p fr to : Int) : List Int:=fbN c (cvD c) p fr to (cvD c).length
theorem fo62 (c : Cvy) (h : CvOK c) (p fr to : Int) (h0 : 0 ≤ fr ∧ fr < to ∧ to ≤ 1099511627776) : FnO Try.prog 62 [pCv c,iv p,iv fr,iv to] 3 1 0 cI (fbL c p fr to):=by
 refine FnO_of_W mixed Xt62 rfl (fun x _=>rfl) ?_
 obtain ⟨q1,q2,q3,q4⟩:=h.n
 have hdk:=dsk_ok h.dk
 have c39:=fn39 c.l c.t (by omega) q4 (by omega)
 rw [h.dk] at c39
 have epm : pmV c.l c.t = [aCd (cvD c),iv (dkN c.l c.t c.t.ps.length).fe,iv (dkN c.l c.t c.t.ps.length).no]:=by unfold pmV;rw [if_pos h.dk];rfl
 rw [epm] at c39
 have hcd : ∀ x ∈ cvD c,_:=dk_cd (l:=c.l) (t:=c.t) c.t.ps.length hdk.2.2.1
 have hcl:=hdk.2.2.2.cd
 have hfb : fbL c p fr to = fbN c (cvD c) p fr to (cvD c).length:=rfl
 have hcl2 : (cvD c).length ≤ 576:=by show (dkN c.l c.t c.t.ps.length).cd.length ≤ _;omega
 generalize fbL c p fr to = FB at *
 generalize (dkN c.l c.t c.t.ps.length).fe = fe at *
 generalize (dkN c.l c.t c.t.ps.length).no = no at *
 generalize cvD c = cd at *
 (refine go_c c39 ?_;try exact tTI)
 refine W_le (le_adopt 8 3 1 0 cI (by omega) rfl) ?_
 (refine sy1 ?_;try exact tTI)
 refine W_loopU (fun i : Nat=>[(28,iv i),(8,.row 20 (fbN c cd p fr to i).length)]) (fun i=>[(20,.row (fbN c cd p fr to i).length 3 1 0 cI (fbN c cd p fr to i))]) (fun i=>i ≤ cd.length) (fun i=>cd.length - i) 0 (by omega) (by rfl) (by rfl) (fun i hi=>?_)
 have hbl:=fbN_len c cd p fr to i
 have hbs:=fbN_succ c cd p fr to i
 obtain ⟨B,hB⟩ : ∃ B,fbN c cd p fr to i = B:=⟨_,rfl⟩
 rw [hB] at hbl hbs
 rw [hB]
 (refine sy1 ?_;try exact tTI)
 (refine go0 ?_;try exact tTI)
 refine W_condD (by rfl) (fun h5=>?_) (fun h5=>?_)
 ·have hlt : i < cd.length:=by omega
  obtain ⟨_,a1,a2,a3⟩:=hcd _ (getD_mem' dCd cd i hlt)
  have hru : ruC c (cd.getD i dCd) = (c.l.getD (cd.getD i dCd).a.toNat dAu).ru.getD (cd.getD i dCd).r.toNat dRu:=rfl
  obtain ⟨X,hX⟩ : ∃ X,cd.getD i dCd = X:=⟨_,rfl⟩
  rw [hX] at a1 a2 a3 hru hbs
  have efb : fbB c p fr to X = (X.p == p && !opnB (ruC c X) fr to):=rfl
  obtain ⟨A,hA⟩ : ∃ A,c.l.getD X.a.toNat dAu = A:=⟨_,rfl⟩
  rw [hA] at a3 hru
  obtain ⟨R,hR⟩ : ∃ R,A.ru.getD X.r.toNat dRu = R:=⟨_,rfl⟩
  rw [hR] at hru
  rw [hru] at efb
  have c77:=fn77 R fr to h0
  generalize opnB R fr to = O at *
  (refine gofg (ad3 hX hA hR) c77 ?_;try exact tTI)
  rw [← efb]
  refine W_cond (by rfl) (fun hb=>?_) (fun hb=>?_)
  ·rw [if_pos hb] at hbs
   (refine go0 ?_;try exact tTI)
   refine ⟨rfl,trivial,Int,0,cI,[(i : Int)],rfl,by omega,fun x _=>⟨rfl,rfl⟩,rfl,?_⟩
   (refine sy1 ?_;try exact tTI)
   refine ⟨rfl,⟨Nat.le_of_ble_eq_true rfl,rfl⟩,trivial,[(i : Int)],rfl,by first | omega | (simp;omega),by first | omega | (simp;omega),?_⟩
   (refine sy1 ?_;try exact tTI)
   (refine go0 ?_;try exact tTI)
   refine ⟨i + 1,by omega,by omega,by rfl,?_⟩
   rw [hbs,List.length_append,List.length_singleton]
   (refine syE ?_;try exact tTI)
  ·rw [hb,if_neg (by decide)] at hbs
   (refine go0 ?_;try exact tTI)
   refine ⟨i + 1,by omega,by omega,by rfl,?_⟩
   rw [hbs]
   (refine syE ?_;try exact tTI)
 ·obtain rfl : i = cd.length:=by omega
  have e : FB = B:=hfb.trans hB
  rw [e]
  (refine go0 ?_;try exact tTI)
  exact W_ret ⟨_,_,⟨rfl,rfl⟩,rfl⟩
def endC (c : Cvy) (r : Rep) : Cvy:={ c with mv:=false,rdy:=r.at',nx:=c.nx + 1 }
def enD (c : Cvy) (r : Rep) : Int:=r.at' - c.bg - miC c c.nx - c.hd
def dv4 (c : Cvy) (r : Rep) : List Dev:=if enD c r < 0 then [⟨0,3,c.nx,0 - enD c r,[]⟩] else if 0 < enD c r then [⟨0,4,c.nx,enD c r,[]⟩] else []
noncomputable def dv6 (c : Cvy) (r : Rep) (O : List Dev) : List Dev:=if 0 < (fbL c c.nx c.bg r.at').length then O ++ [⟨0,6,c.nx,0,fbL c c.nx c.bg r.at'⟩] else O
noncomputable def endO (c : Cvy) (r : Rep) : List Dev:=dv6 c r (dv4 c r)
theorem w86b {c : Cvy} (h : CvOK c) (hlt : c.nx < c.t.ps.length) {a b d : Nat} {r : Rep} (hbg : c.bg < r.at') (hra : r.at' ≤ 1099511627776) {ko nx : Nat} {O : List Dev} {R : Mem} {Q : Ex → S → Prop} (hk : 60 ≤ ko) (hkn : ko < nx) (hRo : Opq 60 R nx) (hOl : O.length ≤ 1000)
  (hQ : ∀ R2 nx2,Ext nx R nx2 R2 → Q .r ⟨[(4,.row ko (dv6 c r O).length)],cvM (endC c r) a b d ++ (ko,.row (dv6 c r O).length 47 5 dDv cDv (dv6 c r O)) :: R2,nx2⟩) : W Try.prog 120 Xn33_17 (S85 c a b d r ko O R nx) Q:=by
 have c62:=FnN_of_FnO (fo62 c h c.nx c.bg r.at' ⟨h.bg.1,hbg,hra⟩)
 have hcn : 0 ≤ c.nx ∧ c.nx ≤ 1000:=by obtain ⟨q1,_⟩:=h.n;have:=h.nx;omega
 have ed : dv6 c r O = if 0 < (fbL c c.nx c.bg r.at').length then O ++ [⟨0,6,c.nx,0,fbL c c.nx c.bg r.at'⟩] else O:=rfl
 generalize fbL c c.nx c.bg r.at' = V at *
 unfold S85 at *
 simp (maxSteps:=400000) (disch:=omega) only [push_cast,↓reduceIte,reduceCtorEq,Nat.reduceAdd,Nat.reduceSub,Nat.reduceEqDiff,Nat.reduceLeDiff,Nat.reduceLT,Nat.reduceBEq,Nat.reduceDiv,Nat.reduceMod,Nat.reducePow,Nat.reduceMul,Int.reduceToNat,Int.reduceLT,Int.reduceLE,ne_l,ne_r,bq_l,bq_r,ls_l,ls_r,lm_set_same,hasM_eq,Option.isSome_some,cvM,List.cons_append,List.nil_append]
 repeat' (first | refine w1g ?_ | refine w1l ?_ | refine w1q ?_ | refine w1b ?_ | refine w1p ?_ | ((first | refine w1r ?_ | refine w1k ?_ | refine w1e ?_);simp (maxSteps:=400000) (disch:=omega) only [push_cast,↓reduceIte,reduceCtorEq,Nat.reduceAdd,Nat.reduceSub,Nat.reduceEqDiff,Nat.reduceLeDiff,Nat.reduceLT,Nat.reduceBEq,Nat.reduceDiv,Nat.reduceMod,Nat.reducePow,Nat.reduceMul,Int.reduceToNat,Int.reduceLT,Int.reduceLE,ne_l,ne_r,bq_l,bq_r,ls_l,ls_r,lm_set_same,hasM_eq,Option.isSome_some,cvM,List.cons_append,List.nil_append]) | refine an2 ?_ | fail)
 refine CallC.new _ (fun _=>⟨trivial,c62⟩) ?_
 simp (maxSteps:=400000) (disch:=omega) only [push_cast,↓reduceIte,reduceCtorEq,Nat.reduceAdd,Nat.reduceSub,Nat.reduceEqDiff,Nat.reduceLeDiff,Nat.reduceLT,Nat.reduceBEq,Nat.reduceDiv,Nat.reduceMod,Nat.reducePow,Nat.reduceMul,Int.reduceToNat,Int.reduceLT,Int.reduceLE,ne_l,ne_r,bq_l,bq_r,ls_l,ls_r,lm_set_same,hasM_eq,Option.isSome_some,cvM,List.cons_append,List.nil_append]
 repeat' (first | refine w1g ?_ | refine w1l ?_ | refine w1q ?_ | refine w1b ?_ | refine w1p ?_ | ((first | refine w1r ?_ | refine w1k ?_ | refine w1e ?_);simp (maxSteps:=400000) (disch:=omega) only [push_cast,↓reduceIte,reduceCtorEq,Nat.reduceAdd,Nat.reduceSub,Nat.reduceEqDiff,Nat.reduceLeDiff,Nat.reduceLT,Nat.reduceBEq,Nat.reduceDiv,Nat.reduceMod,Nat.reducePow,Nat.reduceMul,Int.reduceToNat,Int.reduceLT,Int.reduceLE,ne_l,ne_r,bq_l,bq_r,ls_l,ls_r,lm_set_same,hasM_eq,Option.isSome_some,cvM,List.cons_append,List.nil_append]) | refine an2 ?_ | fail)
 refine W_condD (by rfl) (fun h5=>?_) (fun h5=>?_)
 ·rw [if_pos (by omega)] at ed
  repeat' (first | refine w1g ?_ | refine w1l ?_ | refine w1q ?_ | refine w1b ?_ | refine w1p ?_ | ((first | refine w1r ?_ | refine w1k ?_ | refine w1e ?_);simp (maxSteps:=400000) (disch:=omega) only [push_cast,↓reduceIte,reduceCtorEq,Nat.reduceAdd,Nat.reduceSub,Nat.reduceEqDiff,Nat.reduceLeDiff,Nat.reduceLT,Nat.reduceBEq,Nat.reduceDiv,Nat.reduceMod,Nat.reducePow,Nat.reduceMul,Int.reduceToNat,Int.reduceLT,Int.reduceLE,ne_l,ne_r,bq_l,bq_r,ls_l,ls_r,lm_set_same,hasM_eq,Option.isSome_some,cvM,List.cons_append,List.nil_append]) | refine an2 ?_ | fail)
  refine ⟨rfl,trivial,Dev,dDv,cDv,[⟨0,6,c.nx,0,V⟩],rfl,by omega,fun x _=>⟨rfl,rfl⟩,rfl,?_⟩
  simp (maxSteps:=400000) (disch:=omega) only [push_cast,↓reduceIte,reduceCtorEq,Nat.reduceAdd,Nat.reduceSub,Nat.reduceEqDiff,Nat.reduceLeDiff,Nat.reduceLT,Nat.reduceBEq,Nat.reduceDiv,Nat.reduceMod,Nat.reducePow,Nat.reduceMul,Int.reduceToNat,Int.reduceLT,Int.reduceLE,ne_l,ne_r,bq_l,bq_r,ls_l,ls_r,lm_set_same,hasM_eq,Option.isSome_some,cvM,List.cons_append,List.nil_append]
  refine ⟨rfl,⟨by first | omega | (dsimp only;omega),hasko hk⟩,trivial,[⟨0,6,c.nx,0,V⟩],rfl,by first | omega | (simp;omega),by first | omega | (simp;omega),?_⟩
  simp (maxSteps:=400000) (disch:=omega) only [push_cast,↓reduceIte,reduceCtorEq,Nat.reduceAdd,Nat.reduceSub,Nat.reduceEqDiff,Nat.reduceLeDiff,Nat.reduceLT,Nat.reduceBEq,Nat.reduceDiv,Nat.reduceMod,Nat.reducePow,Nat.reduceMul,Int.reduceToNat,Int.reduceLT,Int.reduceLE,ne_l,ne_r,bq_l,bq_r,ls_l,ls_r,lm_set_same,hasM_eq,Option.isSome_some,cvM,List.cons_append,List.nil_append]
  repeat' (first | refine w1g ?_ | refine w1l ?_ | refine w1q ?_ | refine w1b ?_ | refine w1p ?_ | ((first | refine w1r ?_ | refine w1k ?_ | refine w1e ?_);simp (maxSteps:=400000) (disch:=omega) only [push_cast,↓reduceIte,reduceCtorEq,Nat.reduceAdd,Nat.reduceSub,Nat.reduceEqDiff,Nat.reduceLeDiff,Nat.reduceLT,Nat.reduceBEq,Nat.reduceDiv,Nat.reduceMod,Nat.reducePow,Nat.reduceMul,Int.reduceToNat,Int.reduceLT,Int.reduceLE,ne_l,ne_r,bq_l,bq_r,ls_l,ls_r,lm_set_same,hasM_eq,Option.isSome_some,cvM,List.cons_append,List.nil_append]) | refine an2 ?_ | fail)
  simp only [ed,List.length_append,List.length_singleton] at hQ
  exact W_ret (hQ _ _ ((Ext.refl hRo).put (by omega) (by omega) (by omega)))
 ·rw [if_neg (by omega)] at ed
  repeat' (first | refine w1g ?_ | refine w1l ?_ | refine w1q ?_ | refine w1b ?_ | refine w1p ?_ | ((first | refine w1r ?_ | refine w1k ?_ | refine w1e ?_);simp (maxSteps:=400000) (disch:=omega) only [push_cast,↓reduceIte,reduceCtorEq,Nat.reduceAdd,Nat.reduceSub,Nat.reduceEqDiff,Nat.reduceLeDiff,Nat.reduceLT,Nat.reduceBEq,Nat.reduceDiv,Nat.reduceMod,Nat.reducePow,Nat.reduceMul,Int.reduceToNat,Int.reduceLT,Int.reduceLE,ne_l,ne_r,bq_l,bq_r,ls_l,ls_r,lm_set_same,hasM_eq,Option.isSome_some,cvM,List.cons_append,List.nil_append]) | refine an2 ?_ | fail)
  simp only [ed] at hQ
  exact W_ret (hQ _ _ ((Ext.refl hRo).up (by omega)))
theorem i33 {c : Cvy} (h : CvOK c) (hlt : c.nx < c.t.ps.length) (hmv : c.mv = true) {a b d : Nat} {r : Rep} (hbg : c.bg < r.at') (hra : r.at' ≤ 1099511627776) {tm : List (Nat × AV)} {R : Mem} {nx : Nat} (hR : Opq 60 R nx) :
  Inl Try.prog 33 [.own 10 0,.agg (cRp r)] ⟨tm,cvM c a b d ++ R,nx⟩ (MidZ 60 tm nx R (KO (endC c r) a b d nx (endO c r))):=by
 refine Inl_opqY mixed Xt33 rfl hR (cvM_bas c a b d) (fun R' nx' hR' hnx hE=>?_)
 generalize hQd : FinY 60 [RV.t 4] nx' R' _ = Q
 have hN:=hR'.n
 obtain ⟨q1,q2,q3,q4⟩:=h.n
 have hnx0:=h.nx
 have hbg0:=h.bg
 have hhd:=h.hd
 have hrp:=h.rp
 have c31:=fn31 10
 have c44:=fn44 c c.nx ⟨hnx0.1,hlt⟩
 have hmi:=(q3 _ (getD_mem' dPs c.t.ps c.nx.toNat (by omega))).mi
 have em : miC c c.nx = (c.t.ps.getD c.nx.toNat dPs).mi:=rfl
 rw [← em] at hmi
 have eM : (!c.mv || r.at' == c.bg) = false:=by rw [hmv,beq_eq_false_iff_ne.2 (by omega)];rfl
 simp (maxSteps:=400000) (disch:=omega) only [push_cast,↓reduceIte,reduceCtorEq,Nat.reduceAdd,Nat.reduceSub,Nat.reduceEqDiff,Nat.reduceLeDiff,Nat.reduceLT,Nat.reduceBEq,Nat.reduceDiv,Nat.reduceMod,Nat.reducePow,Nat.reduceMul,Int.reduceToNat,Int.reduceLT,Int.reduceLE,ne_l,ne_r,bq_l,bq_r,ls_l,ls_r,lm_set_same,hasM_eq,Option.isSome_some,cvM,List.cons_append,List.nil_append,initT]
 repeat (first | refine w1g ?_ | refine w1l ?_ | refine w1q ?_ | refine w1b ?_)
 refine w1r ?_
 simp (maxSteps:=400000) (disch:=omega) only [push_cast,↓reduceIte,reduceCtorEq,Nat.reduceAdd,Nat.reduceSub,Nat.reduceEqDiff,Nat.reduceLeDiff,Nat.reduceLT,Nat.reduceBEq,Nat.reduceDiv,Nat.reduceMod,Nat.reducePow,Nat.reduceMul,Int.reduceToNat,Int.reduceLT,Int.reduceLE,ne_l,ne_r,bq_l,bq_r,ls_l,ls_r,lm_set_same,hasM_eq,Option.isSome_some,cvM,List.cons_append,List.nil_append]
 refine W_le (le_adopt 4 47 5 dDv cDv (by omega) rfl) ?_
 simp (maxSteps:=400000) (disch:=omega) only [push_cast,↓reduceIte,reduceCtorEq,Nat.reduceAdd,Nat.reduceSub,Nat.reduceEqDiff,Nat.reduceLeDiff,Nat.reduceLT,Nat.reduceBEq,Nat.reduceDiv,Nat.reduceMod,Nat.reducePow,Nat.reduceMul,Int.reduceToNat,Int.reduceLT,Int.reduceLE,ne_l,ne_r,bq_l,bq_r,ls_l,ls_r,lm_set_same,hasM_eq,Option.isSome_some,cvM,List.cons_append,List.nil_append]
 refine W_le (leS.le (leS_same _ _ (fun j=>swapko (by omega) j) (fun j hj=>noneko (by omega) hj (hR'.hi j (by omega))))) ?_
 obtain ⟨ko,hko⟩ : ∃ ko,nx' + 1 + 1 = ko:=⟨_,rfl⟩
 rw [hko]
 have hk : 60 ≤ ko:=by omega
 have hRo : Opq 60 R' (ko + 1):=hR'.le (by omega)
 have hQ : ∀ (R2 : Mem) (nx2 : Nat),Ext (ko + 1) R' nx2 R2 → Q .r ⟨[(4,.row ko (endO c r).length)],cvM (endC c r) a b d ++ (ko,.row (endO c r).length 47 5 dDv cDv (endO c r)) :: R2,nx2⟩:=fun R2 nx2 hX=>by
  have hn:=hX.n
  rw [← hQd]
  refine ⟨[_],cvM (endC c r) a b d,_,⟨rfl,rfl⟩,sameM.refl _,cvM_bas _ _ _ _,extCons (hX.dn (by omega)) (by omega) (by dsimp only;omega),fun R3 h3=>⟨rfl,ko,by omega,rfl,?_⟩⟩
  rw [h3 ko (by omega)]
  exact lm_cons_eq
 clear hQd
 simp (maxSteps:=400000) (disch:=omega) only [push_cast,↓reduceIte,reduceCtorEq,Nat.reduceAdd,Nat.reduceSub,Nat.reduceEqDiff,Nat.reduceLeDiff,Nat.reduceLT,Nat.reduceBEq,Nat.reduceDiv,Nat.reduceMod,Nat.reducePow,Nat.reduceMul,Int.reduceToNat,Int.reduceLT,Int.reduceLE,ne_l,ne_r,bq_l,bq_r,ls_l,ls_r,lm_set_same,hasM_eq,Option.isSome_some,cvM,List.cons_append,List.nil_append]
 repeat' (first | refine w1g ?_ | refine w1l ?_ | refine w1q ?_ | refine w1b ?_ | refine w1p ?_ | ((first | refine w1r ?_ | refine w1k ?_ | refine w1e ?_);simp (maxSteps:=400000) (disch:=omega) only [push_cast,↓reduceIte,reduceCtorEq,Nat.reduceAdd,Nat.reduceSub,Nat.reduceEqDiff,Nat.reduceLeDiff,Nat.reduceLT,Nat.reduceBEq,Nat.reduceDiv,Nat.reduceMod,Nat.reducePow,Nat.reduceMul,Int.reduceToNat,Int.reduceLT,Int.reduceLE,ne_l,ne_r,bq_l,bq_r,ls_l,ls_r,lm_set_same,hasM_eq,Option.isSome_some,cvM,List.cons_append,List.nil_append]) | refine an2 ?_ | fail)
 refine CallC.now (by rw [eM];exact c31) ?_
 simp (maxSteps:=400000) (disch:=omega) only [push_cast,↓reduceIte,reduceCtorEq,Nat.reduceAdd,Nat.reduceSub,Nat.reduceEqDiff,Nat.reduceLeDiff,Nat.reduceLT,Nat.reduceBEq,Nat.reduceDiv,Nat.reduceMod,Nat.reducePow,Nat.reduceMul,Int.reduceToNat,Int.reduceLT,Int.reduceLE,ne_l,ne_r,bq_l,bq_r,ls_l,ls_r,lm_set_same,hasM_eq,Option.isSome_some,cvM,List.cons_append,List.nil_append]
 have eD : enD c r = r.at' - c.bg - miC c c.nx - c.hd:=rfl
 have w2:=fun (O : List Dev) (ho : O.length ≤ 900) (ed : dv4 c r = O) (R2 : Mem) (nx2 : Nat) (hX : Ext (ko + 1) R' nx2 R2) (hn : ko < nx2)=>w86b (Q:=Q) h hlt (a:=a) (b:=b) (d:=d) hbg hra hk hn (hX.opq hRo) (O:=O) (by omega) (fun R3 nx3 hX3=>by
  have:=hQ R3 nx3 (hX.trans hX3)
  unfold endO at this
  rw [ed] at this
  exact this)
 unfold S85 at w2
 have e4 : dv4 c r = if enD c r < 0 then [⟨0,3,c.nx,0 - enD c r,[]⟩] else if 0 < enD c r then [⟨0,4,c.nx,enD c r,[]⟩] else []:=rfl
 rw [eD] at e4
 generalize miC c c.nx = M at *
 repeat' (first | refine w1g ?_ | refine w1l ?_ | refine w1q ?_ | refine w1b ?_ | refine w1p ?_ | ((first | refine w1r ?_ | refine w1k ?_ | refine w1e ?_ | refine CallC.go _ (fun _=>⟨trivial,c44⟩) rfl ?_);simp (maxSteps:=400000) (disch:=omega) only [push_cast,↓reduceIte,reduceCtorEq,Nat.reduceAdd,Nat.reduceSub,Nat.reduceEqDiff,Nat.reduceLeDiff,Nat.reduceLT,Nat.reduceBEq,Nat.reduceDiv,Nat.reduceMod,Nat.reducePow,Nat.reduceMul,Int.reduceToNat,Int.reduceLT,Int.reduceLE,ne_l,ne_r,bq_l,bq_r,ls_l,ls_r,lm_set_same,hasM_eq,Option.isSome_some,cvM,List.cons_append,List.nil_append]) | refine an2 ?_ | fail)
 refine W_condD (by rfl) (fun h5=>?_) (fun h5=>?_)
 ·rw [if_pos (by omega)] at e4
  have w3:=w2 _ (by simp) e4
  refine W_regLO 9 (by decide) ?_
  simp (maxSteps:=400000) (disch:=omega) only [push_cast,↓reduceIte,reduceCtorEq,Nat.reduceAdd,Nat.reduceSub,Nat.reduceEqDiff,Nat.reduceLeDiff,Nat.reduceLT,Nat.reduceBEq,Nat.reduceDiv,Nat.reduceMod,Nat.reducePow,Nat.reduceMul,Int.reduceToNat,Int.reduceLT,Int.reduceLE,ne_l,ne_r,bq_l,bq_r,ls_l,ls_r,lm_set_same,hasM_eq,Option.isSome_some,cvM,List.cons_append,List.nil_append,List.take_succ_cons,List.take_zero]
  refine WOL_le (le_dvn 57 rfl) ?_
  refine WOL_end (by decide) ?_
  simp (maxSteps:=400000) (disch:=omega) only [push_cast,↓reduceIte,reduceCtorEq,Nat.reduceAdd,Nat.reduceSub,Nat.reduceEqDiff,Nat.reduceLeDiff,Nat.reduceLT,Nat.reduceBEq,Nat.reduceDiv,Nat.reduceMod,Nat.reducePow,Nat.reduceMul,Int.reduceToNat,Int.reduceLT,Int.reduceLE,ne_l,ne_r,bq_l,bq_r,ls_l,ls_r,lm_set_same,hasM_eq,Option.isSome_some,cvM,List.cons_append,List.nil_append,List.drop_succ_cons,List.drop_zero]
  refine ⟨rfl,trivial,Dev,dDv,cDv,[⟨0,3,c.nx,0 - (r.at' - c.bg - M - c.hd),[]⟩],rfl,by omega,fun x _=>⟨rfl,rfl⟩,rfl,?_⟩
  simp (maxSteps:=400000) (disch:=omega) only [push_cast,↓reduceIte,reduceCtorEq,Nat.reduceAdd,Nat.reduceSub,Nat.reduceEqDiff,Nat.reduceLeDiff,Nat.reduceLT,Nat.reduceBEq,Nat.reduceDiv,Nat.reduceMod,Nat.reducePow,Nat.reduceMul,Int.reduceToNat,Int.reduceLT,Int.reduceLE,ne_l,ne_r,bq_l,bq_r,ls_l,ls_r,lm_set_same,hasM_eq,Option.isSome_some,cvM,List.cons_append,List.nil_append]
  refine ⟨rfl,⟨by first | omega | (dsimp only;omega),hasko hk⟩,trivial,[⟨0,3,c.nx,0 - (r.at' - c.bg - M - c.hd),[]⟩],rfl,by first | omega | simp,by first | omega | simp,?_⟩
  simp (maxSteps:=400000) (disch:=omega) only [push_cast,↓reduceIte,reduceCtorEq,Nat.reduceAdd,Nat.reduceSub,Nat.reduceEqDiff,Nat.reduceLeDiff,Nat.reduceLT,Nat.reduceBEq,Nat.reduceDiv,Nat.reduceMod,Nat.reducePow,Nat.reduceMul,Int.reduceToNat,Int.reduceLT,Int.reduceLE,ne_l,ne_r,bq_l,bq_r,ls_l,ls_r,lm_set_same,hasM_eq,Option.isSome_some,cvM,List.cons_append,List.nil_append]
  simp only [List.length_singleton] at w3
  exact WK_go (w3 _ _ ((Ext.refl hRo).put (by omega) (by omega) (by omega)) (by omega))
 rw [if_neg (by omega)] at e4
 repeat' (first | refine w1g ?_ | refine w1l ?_ | refine w1q ?_ | refine w1b ?_ | refine w1p ?_ | ((first | refine w1r ?_ | refine w1k ?_ | refine w1e ?_);simp (maxSteps:=400000) (disch:=omega) only [push_cast,↓reduceIte,reduceCtorEq,Nat.reduceAdd,Nat.reduceSub,Nat.reduceEqDiff,Nat.reduceLeDiff,Nat.reduceLT,Nat.reduceBEq,Nat.reduceDiv,Nat.reduceMod,Nat.reducePow,Nat.reduceMul,Int.reduceToNat,Int.reduceLT,Int.reduceLE,ne_l,ne_r,bq_l,bq_r,ls_l,ls_r,lm_set_same,hasM_eq,Option.isSome_some,cvM,List.cons_append,List.nil_append]) | refine an2 ?_ | fail)
 refine W_condD (by rfl) (fun h6=>?_) (fun h6=>?_)
 ·rw [if_pos (by omega)] at e4
  have w3:=w2 _ (by simp) e4
  refine W_regLO 8 (by decide) ?_
  simp (maxSteps:=400000) (disch:=omega) only [push_cast,↓reduceIte,reduceCtorEq,Nat.reduceAdd,Nat.reduceSub,Nat.reduceEqDiff,Nat.reduceLeDiff,Nat.reduceLT,Nat.reduceBEq,Nat.reduceDiv,Nat.reduceMod,Nat.reducePow,Nat.reduceMul,Int.reduceToNat,Int.reduceLT,Int.reduceLE,ne_l,ne_r,bq_l,bq_r,ls_l,ls_r,lm_set_same,hasM_eq,Option.isSome_some,cvM,List.cons_append,List.nil_append,List.take_succ_cons,List.take_zero]
  refine WOL_le (le_dvn 70 rfl) ?_
  refine WOL_end (by decide) ?_
  simp (maxSteps:=400000) (disch:=omega) only [push_cast,↓reduceIte,reduceCtorEq,Nat.reduceAdd,Nat.reduceSub,Nat.reduceEqDiff,Nat.reduceLeDiff,Nat.reduceLT,Nat.reduceBEq,Nat.reduceDiv,Nat.reduceMod,Nat.reducePow,Nat.reduceMul,Int.reduceToNat,Int.reduceLT,Int.reduceLE,ne_l,ne_r,bq_l,bq_r,ls_l,ls_r,lm_set_same,hasM_eq,Option.isSome_some,cvM,List.cons_append,List.nil_append,List.drop_succ_cons,List.drop_zero]
  refine ⟨rfl,trivial,Dev,dDv,cDv,[⟨0,4,c.nx,r.at' - c.bg - M - c.hd,[]⟩],rfl,by omega,fun x _=>⟨rfl,rfl⟩,rfl,?_⟩
  simp (maxSteps:=400000) (disch:=omega) only [push_cast,↓reduceIte,reduceCtorEq,Nat.reduceAdd,Nat.reduceSub,Nat.reduceEqDiff,Nat.reduceLeDiff,Nat.reduceLT,Nat.reduceBEq,Nat.reduceDiv,Nat.reduceMod,Nat.reducePow,Nat.reduceMul,Int.reduceToNat,Int.reduceLT,Int.reduceLE,ne_l,ne_r,bq_l,bq_r,ls_l,ls_r,lm_set_same,hasM_eq,Option.isSome_some,cvM,List.cons_append,List.nil_append]
  refine ⟨rfl,⟨by first | omega | (dsimp only;omega),hasko hk⟩,trivial,[⟨0,4,c.nx,r.at' - c.bg - M - c.hd,[]⟩],rfl,by first | omega | simp,by first | omega | simp,?_⟩
  simp (maxSteps:=400000) (disch:=omega) only [push_cast,↓reduceIte,reduceCtorEq,Nat.reduceAdd,Nat.reduceSub,Nat.reduceEqDiff,Nat.reduceLeDiff,Nat.reduceLT,Nat.reduceBEq,Nat.reduceDiv,Nat.reduceMod,Nat.reducePow,Nat.reduceMul,Int.reduceToNat,Int.reduceLT,Int.reduceLE,ne_l,ne_r,bq_l,bq_r,ls_l,ls_r,lm_set_same,hasM_eq,Option.isSome_some,cvM,List.cons_append,List.nil_append]
  simp only [List.length_singleton] at w3
  exact WK_go (w3 _ _ ((Ext.refl hRo).put (by omega) (by omega) (by omega)) (by omega))
 ·rw [if_neg (by omega)] at e4
  have w3:=w2 [] (by simp) e4
  refine w1k ?_
  simp (maxSteps:=400000) (disch:=omega) only [push_cast,↓reduceIte,reduceCtorEq,Nat.reduceAdd,Nat.reduceSub,Nat.reduceEqDiff,Nat.reduceLeDiff,Nat.reduceLT,Nat.reduceBEq,Nat.reduceDiv,Nat.reduceMod,Nat.reducePow,Nat.reduceMul,Int.reduceToNat,Int.reduceLT,Int.reduceLE,ne_l,ne_r,bq_l,bq_r,ls_l,ls_r,lm_set_same,hasM_eq,Option.isSome_some,cvM,List.cons_append,List.nil_append]
  refine WK_go (W_le (leStk [0,3,4] (fun j hj=>noneko hk (by dsimp only at hj;omega) (hR'.hi j (by dsimp only at hj;omega)))) ?_)
  exact w3 R' _ ((Ext.refl hRo).up (by dsimp only;omega)) (by dsimp only;omega)
def cloC (c : Cvy) (r : Rep) : Cvy:={ c with cl:=c.cl ++ [⟨r.nm,r.fr,r.to⟩] }
def tellL (L : List Cnt) (r : Rep) : List Cnt:=if thI L r.nm < 0 then L ++ [⟨r.nm,r.n,0⟩] else L.set (thI L r.nm).toNat { L.getD (thI L r.nm).toNat dCt with lo:=r.n }
def telC (c : Cvy) (r : Rep) : Cvy:={ c with th:=tellL c.th r }
def telA (c : Cvy) (r : Rep) (a : Nat) : Nat:=if thI c.th r.nm < 0 then a + 1 else a
theorem fin1 {c : Cvy} {a b d nx nx' nx2 : Nat} {R' R2 : Mem} (hX : Ext nx' R' nx2 R2) (hnx : nx ≤ nx') (h60 : 60 ≤ nx') {T : List (Nat × AV)} :
  FinY 60 [.t 4] nx' R' (KO c a b d nx []) .r ⟨(4,.row nx2 0) :: T,(nx2,.row 0 47 5 dDv cDv []) :: (cvM c a b d ++ R2),nx2 + 1⟩:=by
 have hN:=hX.n
 refine ⟨[_],cvM c a b d,(nx2,.row 0 47 5 dDv cDv []) :: R2,⟨rfl,rfl⟩,fun j=>swapko (by omega) j,cvM_bas _ _ _ _,extCons (hX.up (by dsimp only;omega)) (by omega) (by dsimp only;omega),fun R3 h3=>⟨rfl,nx2,by omega,rfl,?_⟩⟩
 rw [h3 nx2 (by omega)]
 exact lm_cons_eq
theorem i36 {c : Cvy} {a b d : Nat} {r : Rep} (hcl : c.cl.length < 16) {tm : List (Nat × AV)} {R : Mem} {nx : Nat} (hR : Opq 60 R nx) :
  Inl Try.prog 36 [.own 10 0,.agg (cRp r)] ⟨tm,cvM c a b d ++ R,nx⟩ (MidZ 60 tm nx R (KO (cloC c r) a (b + 1) d nx [])):=by
 refine Inl_opqY mixed Xt36 rfl hR (cvM_bas c a b d) (fun R' nx' hR' hnx hE=>?_)
 have hN:=hR'.n
 have hF:=fun (nx2 : Nat) (R2 : Mem) (T : List (Nat × AV)) (hX : Ext nx' R' nx2 R2)=>fin1 (c:=cloC c r) (a:=a) (b:=b + 1) (d:=d) hX (Nat.le_of_lt hnx) hR'.n (T:=T)
 generalize FinY 60 [RV.t 4] nx' R' _ = Q at *
 have c31:=fn31 11
 have e16 : ((c.cl.length : Int) == 16) = false:=beq_eq_false_iff_ne.2 (by omega)
 simp (maxSteps:=400000) (disch:=omega) only [push_cast,↓reduceIte,reduceCtorEq,Nat.reduceAdd,Nat.reduceSub,Nat.reduceEqDiff,Nat.reduceLeDiff,Nat.reduceLT,Nat.reduceBEq,Nat.reduceDiv,Nat.reduceMod,Nat.reducePow,Nat.reduceMul,Int.reduceToNat,Int.reduceLT,Int.reduceLE,ne_l,ne_r,bq_l,bq_r,ls_l,ls_r,lm_set_same,hasM_eq,Option.isSome_some,cvM,List.cons_append,List.nil_append,initT]
 repeat' (first | refine w1g ?_ | refine w1l ?_ | refine w1q ?_ | refine w1b ?_ | refine w1p ?_ | ((first | refine w1r ?_ | refine w1k ?_ | refine w1e ?_ | refine CallC.now (c31) ?_);simp (maxSteps:=400000) (disch:=omega) only [push_cast,↓reduceIte,reduceCtorEq,Nat.reduceAdd,Nat.reduceSub,Nat.reduceEqDiff,Nat.reduceLeDiff,Nat.reduceLT,Nat.reduceBEq,Nat.reduceDiv,Nat.reduceMod,Nat.reducePow,Nat.reduceMul,Int.reduceToNat,Int.reduceLT,Int.reduceLE,ne_l,ne_r,bq_l,bq_r,ls_l,ls_r,lm_set_same,hasM_eq,Option.isSome_some,cvM,List.cons_append,List.nil_append,e16]) | refine an2 ?_ | fail)
 refine ⟨rfl,trivial,Clo,dCo,cCo,[⟨r.nm,r.fr,r.to⟩],rfl,by omega,fun x _=>⟨rfl,rfl⟩,rfl,?_⟩
 simp (maxSteps:=400000) (disch:=omega) only [push_cast,↓reduceIte,reduceCtorEq,Nat.reduceAdd,Nat.reduceSub,Nat.reduceEqDiff,Nat.reduceLeDiff,Nat.reduceLT,Nat.reduceBEq,Nat.reduceDiv,Nat.reduceMod,Nat.reducePow,Nat.reduceMul,Int.reduceToNat,Int.reduceLT,Int.reduceLE,ne_l,ne_r,bq_l,bq_r,ls_l,ls_r,lm_set_same,hasM_eq,Option.isSome_some,cvM,List.cons_append,List.nil_append]
 refine ⟨rfl,⟨by first | omega | (dsimp only;omega),by rw [hasM_eq];rfl⟩,trivial,[⟨r.nm,r.fr,r.to⟩],rfl,by first | omega | (simp;omega),by first | omega | (simp;omega),?_⟩
 simp (maxSteps:=400000) (disch:=omega) only [push_cast,↓reduceIte,reduceCtorEq,Nat.reduceAdd,Nat.reduceSub,Nat.reduceEqDiff,Nat.reduceLeDiff,Nat.reduceLT,Nat.reduceBEq,Nat.reduceDiv,Nat.reduceMod,Nat.reducePow,Nat.reduceMul,Int.reduceToNat,Int.reduceLT,Int.reduceLE,ne_l,ne_r,bq_l,bq_r,ls_l,ls_r,lm_set_same,hasM_eq,Option.isSome_some,cvM,List.cons_append,List.nil_append]
 repeat' (first | refine w1g ?_ | refine w1l ?_ | refine w1q ?_ | refine w1b ?_ | refine w1p ?_ | ((first | refine w1r ?_ | refine w1k ?_ | refine w1e ?_);simp (maxSteps:=400000) (disch:=omega) only [push_cast,↓reduceIte,reduceCtorEq,Nat.reduceAdd,Nat.reduceSub,Nat.reduceEqDiff,Nat.reduceLeDiff,Nat.reduceLT,Nat.reduceBEq,Nat.reduceDiv,Nat.reduceMod,Nat.reducePow,Nat.reduceMul,Int.reduceToNat,Int.reduceLT,Int.reduceLE,ne_l,ne_r,bq_l,bq_r,ls_l,ls_r,lm_set_same,hasM_eq,Option.isSome_some,cvM,List.cons_append,List.nil_append]) | refine an2 ?_ | fail)
 refine W_le (le_adopt 4 47 5 dDv cDv (by omega) rfl) ?_
 exact W_ret (hF _ _ _ ((Ext.refl hR').put (by first | omega | (dsimp only;omega)) (by first | omega | (dsimp only;omega)) (by first | omega | (dsimp only;omega))))
theorem i35 {c : Cvy} {a b d : Nat} {r : Rep} (hth : c.th.length ≤ 6) (h6 : thI c.th r.nm < 0 → c.th.length < 6) {tm : List (Nat × AV)} {R : Mem} {nx : Nat} (hR : Opq 60 R nx) :
  Inl Try.prog 35 [.own 10 0,.agg (cRp r)] ⟨tm,cvM c a b d ++ R,nx⟩ (MidZ 60 tm nx R (KO (telC c r) (telA c r a) b d nx [])):=by
 refine Inl_opqY mixed Xt35 rfl hR (cvM_bas c a b d) (fun R' nx' hR' hnx hE=>?_)
 have hN:=hR'.n
 have hF:=fun (nx2 : Nat) (R2 : Mem) (T : List (Nat × AV)) (hX : Ext nx' R' nx2 R2)=>fin1 (c:=telC c r) (a:=telA c r a) (b:=b) (d:=d) hX (Nat.le_of_lt hnx) hR'.n (T:=T)
 generalize FinY 60 [RV.t 4] nx' R' _ = Q at *
 have c31:=fn31 11
 have c27:=fn27 c r.nm (by omega)
 have hti : -1 ≤ thI c.th r.nm ∧ thI c.th r.nm < c.th.length:=idxF_rng (fun y : Cnt=>y.th == r.nm) c.th
 by_cases hi : thI c.th r.nm < 0
 ·have e1 : telC c r = { c with th:=c.th ++ [⟨r.nm,r.n,0⟩] }:=by unfold telC tellL;rw [if_pos hi]
  have e2 : telA c r a = a + 1:=by unfold telA;rw [if_pos hi]
  rw [e1,e2] at hF
  have h6:=h6 hi
  have e16 : ((c.th.length : Int) == 6) = false:=beq_eq_false_iff_ne.2 (by omega)
  generalize thI c.th r.nm = T at *
  simp (maxSteps:=400000) (disch:=omega) only [push_cast,↓reduceIte,reduceCtorEq,Nat.reduceAdd,Nat.reduceSub,Nat.reduceEqDiff,Nat.reduceLeDiff,Nat.reduceLT,Nat.reduceBEq,Nat.reduceDiv,Nat.reduceMod,Nat.reducePow,Nat.reduceMul,Int.reduceToNat,Int.reduceLT,Int.reduceLE,ne_l,ne_r,bq_l,bq_r,ls_l,ls_r,lm_set_same,hasM_eq,Option.isSome_some,cvM,List.cons_append,List.nil_append,initT]
  repeat' (first | refine w1g ?_ | refine w1l ?_ | refine w1q ?_ | refine w1b ?_ | refine w1p ?_ | ((first | refine w1r ?_ | refine w1k ?_ | refine w1e ?_ | refine CallC.go _ (fun _=>⟨trivial,c27⟩) rfl ?_);simp (maxSteps:=400000) (disch:=omega) only [push_cast,↓reduceIte,reduceCtorEq,Nat.reduceAdd,Nat.reduceSub,Nat.reduceEqDiff,Nat.reduceLeDiff,Nat.reduceLT,Nat.reduceBEq,Nat.reduceDiv,Nat.reduceMod,Nat.reducePow,Nat.reduceMul,Int.reduceToNat,Int.reduceLT,Int.reduceLE,ne_l,ne_r,bq_l,bq_r,ls_l,ls_r,lm_set_same,hasM_eq,Option.isSome_some,cvM,List.cons_append,List.nil_append]) | refine an2 ?_ | fail)
  refine W_condD (by rfl) (fun _=>?_) (fun h=>absurd hi h)
  repeat' (first | refine w1g ?_ | refine w1l ?_ | refine w1q ?_ | refine w1b ?_ | refine w1p ?_ | ((first | refine w1r ?_ | refine w1k ?_ | refine w1e ?_ | refine CallC.now (c31) ?_);simp (maxSteps:=400000) (disch:=omega) only [push_cast,↓reduceIte,reduceCtorEq,Nat.reduceAdd,Nat.reduceSub,Nat.reduceEqDiff,Nat.reduceLeDiff,Nat.reduceLT,Nat.reduceBEq,Nat.reduceDiv,Nat.reduceMod,Nat.reducePow,Nat.reduceMul,Int.reduceToNat,Int.reduceLT,Int.reduceLE,ne_l,ne_r,bq_l,bq_r,ls_l,ls_r,lm_set_same,hasM_eq,Option.isSome_some,cvM,List.cons_append,List.nil_append,e16]) | refine an2 ?_ | fail)
  refine ⟨rfl,trivial,Cnt,dCt,cCt,[⟨r.nm,0,0⟩],rfl,by omega,fun x _=>⟨rfl,rfl⟩,rfl,?_⟩
  simp (maxSteps:=400000) (disch:=omega) only [push_cast,↓reduceIte,reduceCtorEq,Nat.reduceAdd,Nat.reduceSub,Nat.reduceEqDiff,Nat.reduceLeDiff,Nat.reduceLT,Nat.reduceBEq,Nat.reduceDiv,Nat.reduceMod,Nat.reducePow,Nat.reduceMul,Int.reduceToNat,Int.reduceLT,Int.reduceLE,ne_l,ne_r,bq_l,bq_r,ls_l,ls_r,lm_set_same,hasM_eq,Option.isSome_some,cvM,List.cons_append,List.nil_append]
  refine ⟨rfl,⟨by first | omega | (dsimp only;omega),by rw [hasM_eq];rfl⟩,trivial,[⟨r.nm,0,0⟩],rfl,by first | omega | (simp;omega),by first | omega | (simp;omega),?_⟩
  simp (maxSteps:=400000) (disch:=omega) only [push_cast,↓reduceIte,reduceCtorEq,Nat.reduceAdd,Nat.reduceSub,Nat.reduceEqDiff,Nat.reduceLeDiff,Nat.reduceLT,Nat.reduceBEq,Nat.reduceDiv,Nat.reduceMod,Nat.reducePow,Nat.reduceMul,Int.reduceToNat,Int.reduceLT,Int.reduceLE,ne_l,ne_r,bq_l,bq_r,ls_l,ls_r,lm_set_same,hasM_eq,Option.isSome_some,cvM,List.cons_append,List.nil_append]
  repeat' (first | refine w1g ?_ | refine w1l ?_ | refine w1q ?_ | refine w1b ?_ | refine w1p ?_ | ((first | refine w1r ?_ | refine w1k ?_ | refine w1e ?_);simp (maxSteps:=400000) (disch:=omega) only [push_cast,↓reduceIte,reduceCtorEq,Nat.reduceAdd,Nat.reduceSub,Nat.reduceEqDiff,Nat.reduceLeDiff,Nat.reduceLT,Nat.reduceBEq,Nat.reduceDiv,Nat.reduceMod,Nat.reducePow,Nat.reduceMul,Int.reduceToNat,Int.reduceLT,Int.reduceLE,ne_l,ne_r,bq_l,bq_r,ls_l,ls_r,lm_set_same,hasM_eq,Option.isSome_some,cvM,List.cons_append,List.nil_append]) | refine an2 ?_ | fail)
  refine ⟨by rw [List.length_append,List.length_singleton];omega,rfl,⟨by first | omega | (dsimp only;omega),by rw [hasM_eq];rfl⟩,by rw [List.length_append,List.length_singleton];omega,⟨r.nm,r.n,0⟩,(by rw [show (c.th ++ [(⟨r.nm,0,0⟩ : Cnt)]).getD c.th.length dCt = ⟨r.nm,0,0⟩ by simp];rfl),rfl,?_⟩
  rw [show (c.th ++ [(⟨r.nm,0,0⟩ : Cnt)]).set c.th.length ⟨r.nm,r.n,0⟩ = c.th ++ [⟨r.nm,r.n,0⟩] by simp]
  simp (maxSteps:=400000) (disch:=omega) only [push_cast,↓reduceIte,reduceCtorEq,Nat.reduceAdd,Nat.reduceSub,Nat.reduceEqDiff,Nat.reduceLeDiff,Nat.reduceLT,Nat.reduceBEq,Nat.reduceDiv,Nat.reduceMod,Nat.reducePow,Nat.reduceMul,Int.reduceToNat,Int.reduceLT,Int.reduceLE,ne_l,ne_r,bq_l,bq_r,ls_l,ls_r,lm_set_same,hasM_eq,Option.isSome_some,cvM,List.cons_append,List.nil_append]
  repeat' (first | refine w1g ?_ | refine w1l ?_ | refine w1q ?_ | refine w1b ?_ | refine w1p ?_ | ((first | refine w1r ?_ | refine w1k ?_ | refine w1e ?_);simp (maxSteps:=400000) (disch:=omega) only [push_cast,↓reduceIte,reduceCtorEq,Nat.reduceAdd,Nat.reduceSub,Nat.reduceEqDiff,Nat.reduceLeDiff,Nat.reduceLT,Nat.reduceBEq,Nat.reduceDiv,Nat.reduceMod,Nat.reducePow,Nat.reduceMul,Int.reduceToNat,Int.reduceLT,Int.reduceLE,ne_l,ne_r,bq_l,bq_r,ls_l,ls_r,lm_set_same,hasM_eq,Option.isSome_some,cvM,List.cons_append,List.nil_append]) | refine an2 ?_ | fail)
  refine W_le (le_adopt 4 47 5 dDv cDv (by omega) rfl) ?_
  exact W_ret (hF _ _ _ ((Ext.refl hR').put (by first | omega | (dsimp only;omega)) (by first | omega | (dsimp only;omega)) (by first | omega | (dsimp only;omega))))
 ·have e1 : telC c r = { c with th:=c.th.set (thI c.th r.nm).toNat { c.th.getD (thI c.th r.nm).toNat dCt with lo:=r.n } }:=by unfold telC tellL;rw [if_neg hi]
  have e2 : telA c r a = a:=by unfold telA;rw [if_neg hi]
  rw [e1,e2] at hF
  generalize thI c.th r.nm = T at *
  simp (maxSteps:=400000) (disch:=omega) only [push_cast,↓reduceIte,reduceCtorEq,Nat.reduceAdd,Nat.reduceSub,Nat.reduceEqDiff,Nat.reduceLeDiff,Nat.reduceLT,Nat.reduceBEq,Nat.reduceDiv,Nat.reduceMod,Nat.reducePow,Nat.reduceMul,Int.reduceToNat,Int.reduceLT,Int.reduceLE,ne_l,ne_r,bq_l,bq_r,ls_l,ls_r,lm_set_same,hasM_eq,Option.isSome_some,cvM,List.cons_append,List.nil_append,initT]
  repeat' (first | refine w1g ?_ | refine w1l ?_ | refine w1q ?_ | refine w1b ?_ | refine w1p ?_ | ((first | refine w1r ?_ | refine w1k ?_ | refine w1e ?_ | refine CallC.go _ (fun _=>⟨trivial,c27⟩) rfl ?_);simp (maxSteps:=400000) (disch:=omega) only [push_cast,↓reduceIte,reduceCtorEq,Nat.reduceAdd,Nat.reduceSub,Nat.reduceEqDiff,Nat.reduceLeDiff,Nat.reduceLT,Nat.reduceBEq,Nat.reduceDiv,Nat.reduceMod,Nat.reducePow,Nat.reduceMul,Int.reduceToNat,Int.reduceLT,Int.reduceLE,ne_l,ne_r,bq_l,bq_r,ls_l,ls_r,lm_set_same,hasM_eq,Option.isSome_some,cvM,List.cons_append,List.nil_append]) | refine an2 ?_ | fail)
  refine W_condD (by rfl) (fun h=>absurd h hi) (fun _=>?_)
  repeat' (first | refine w1g ?_ | refine w1l ?_ | refine w1q ?_ | refine w1b ?_ | refine w1p ?_ | ((first | refine w1r ?_ | refine w1k ?_ | refine w1e ?_);simp (maxSteps:=400000) (disch:=omega) only [push_cast,↓reduceIte,reduceCtorEq,Nat.reduceAdd,Nat.reduceSub,Nat.reduceEqDiff,Nat.reduceLeDiff,Nat.reduceLT,Nat.reduceBEq,Nat.reduceDiv,Nat.reduceMod,Nat.reducePow,Nat.reduceMul,Int.reduceToNat,Int.reduceLT,Int.reduceLE,ne_l,ne_r,bq_l,bq_r,ls_l,ls_r,lm_set_same,hasM_eq,Option.isSome_some,cvM,List.cons_append,List.nil_append]) | refine an2 ?_ | fail)
  refine ⟨rfl,⟨by first | omega | (dsimp only;omega),by rw [hasM_eq];rfl⟩,by omega,{ c.th.getD T.toNat dCt with lo:=r.n },rfl,rfl,?_⟩
  simp (maxSteps:=400000) (disch:=omega) only [push_cast,↓reduceIte,reduceCtorEq,Nat.reduceAdd,Nat.reduceSub,Nat.reduceEqDiff,Nat.reduceLeDiff,Nat.reduceLT,Nat.reduceBEq,Nat.reduceDiv,Nat.reduceMod,Nat.reducePow,Nat.reduceMul,Int.reduceToNat,Int.reduceLT,Int.reduceLE,ne_l,ne_r,bq_l,bq_r,ls_l,ls_r,lm_set_same,hasM_eq,Option.isSome_some,cvM,List.cons_append,List.nil_append]
  repeat' (first | refine w1g ?_ | refine w1l ?_ | refine w1q ?_ | refine w1b ?_ | refine w1p ?_ | ((first | refine w1r ?_ | refine w1k ?_ | refine w1e ?_);simp (maxSteps:=400000) (disch:=omega) only [push_cast,↓reduceIte,reduceCtorEq,Nat.reduceAdd,Nat.reduceSub,Nat.reduceEqDiff,Nat.reduceLeDiff,Nat.reduceLT,Nat.reduceBEq,Nat.reduceDiv,Nat.reduceMod,Nat.reducePow,Nat.reduceMul,Int.reduceToNat,Int.reduceLT,Int.reduceLE,ne_l,ne_r,bq_l,bq_r,ls_l,ls_r,lm_set_same,hasM_eq,Option.isSome_some,cvM,List.cons_append,List.nil_append]) | refine an2 ?_ | fail)
  refine W_le (le_adopt 4 47 5 dDv cDv (by omega) rfl) ?_
  exact W_ret (hF _ _ _ ((Ext.refl hR').up (by first | omega | (dsimp only;omega))))
def exR3 : Rep:=⟨4325,2,0,dSt,0,0⟩
def exR4 : Rep:=⟨4325,5,0,sA1,4400,4600⟩
def exR5 : Rep:=⟨4325,4,0,sEsc,0,0⟩
def exO : List Dev:=[⟨0,4,0,5,[]⟩]
def ex3 : Cvy:=takR ex2 (endC ex2 exR3) exR3 exO
def ex4 : Cvy:=takR ex3 (cloC ex3 exR4) exR4 []
def ex5 : Cvy:=takR ex4 (telC ex4 exR5) exR5 []
theorem ex_end : endO ex2 exR3 = exO:=by
 have e1 : dv4 ex2 exR3 = exO:=by
  unfold dv4
  rw [if_neg (by decide),if_pos (by decide)]
  rfl
 have e2 : fbL ex2 ex2.nx ex2.bg exR3.at' = []:=by kernel_rfl
 unfold endO dv6
 rw [e1,e2,if_neg (by decide)]
theorem ex_t3 : TakeR 33 ex2 (endC ex2 exR3) 1 0 2 1 0 2 exR3 exO:=fun {tm} {R} {nx} hR=>by
 have h:=i33 ex_ok2 (by decide) rfl (a:=1) (b:=0) (d:=2) (r:=exR3) (by decide) (by decide) (tm:=tm) hR
 rw [ex_end] at h
 exact h
theorem ex_t4 : TakeR 36 ex3 (cloC ex3 exR4) 1 0 3 1 1 3 exR4 []:=fun hR=>i36 (by decide) hR
theorem ex_t5 : TakeR 35 ex4 (telC ex4 exR5) 1 1 4 1 1 4 exR5 []:=fun {tm} {R} {nx} hR=>by
 have h:=i35 (c:=ex4) (a:=1) (b:=1) (d:=4) (r:=exR5) (by decide) (fun _=>by decide) (tm:=tm) hR
 have e : telA ex4 exR5 1 = 1:=by kernel_rfl
 rw [e] at h
 exact h
theorem ex_cl (x : Clo) (h : x ∈ [(⟨sA1,4400,4600⟩ : Clo)]) : CloOK x:=by
 rw [List.mem_singleton] at h
 rw [h]
 exact ⟨by decide⟩
theorem ex_ok3 : CvOK ex3:=by
 refine ⟨ex_dsk,rfl,ex_ok0.plt,by decide,by decide,(fun h=>by cases h),by decide,by decide,by decide,by decide,⟨by decide,(fun x hx=>by cases hx)⟩,by decide,⟨by decide,fun x hx=>?_⟩⟩
 have hx : x ∈ [(⟨2,4,0,5,[]⟩ : Dev)]:=hx
 rw [List.mem_singleton] at hx
 rw [hx]
 decide
theorem ex_ok4 : CvOK ex4:=by
 refine ⟨ex_dsk,rfl,ex_ok0.plt,by decide,by decide,(fun h=>by cases h),by decide,by decide,by decide,by decide,⟨by decide,ex_cl⟩,by decide,⟨by decide,fun x hx=>?_⟩⟩
 have hx : x ∈ [(⟨2,4,0,5,[]⟩ : Dev)]:=hx
 rw [List.mem_singleton] at hx
 rw [hx]
 decide
theorem ex_ok5 : CvOK ex5:=by
 refine ⟨ex_dsk,rfl,ex_ok0.plt,by decide,by decide,(fun h=>by cases h),by decide,by decide,by decide,by decide,⟨by decide,ex_cl⟩,by decide,⟨by decide,fun x hx=>?_⟩⟩
 have hx : x ∈ [(⟨2,4,0,5,[]⟩ : Dev)]:=hx
 rw [List.mem_singleton] at hx
 rw [hx]
 decide
theorem ex_nx1 : nxR [exC] exT2 1 4325 = some 4325:=by
 unfold nxR
 refine lst_at ⟨Int.le_refl _,by decide,fun x h1 h2=>?_⟩ (fun s' h=>h.1)
 have h3 : (rlA [exC] exT2 1).mi = 90:=by kernel_rfl
 rw [h3] at h2
 have h4 : ((List.range 90).all fun k=>allB (rlA [exC] exT2 1).ls (4325 + (k : Int))) = true:=by kernel_rfl
 have h5:=List.all_eq_true.1 h4 (x - 4325).toNat (List.mem_range.2 (by omega))
 rw [show (4325 : Int) + ((x - 4325).toNat : Int) = x by omega] at h5
 exact h5
theorem ex_nx2 : nxR [exC] exT2 1 4600 = some 5640:=by
 unfold nxR
 have h3 : (rlA [exC] exT2 1).mi = 90:=by kernel_rfl
 refine lst_at ⟨by decide,by decide,fun x h1 h2=>?_⟩ (fun s' h=>?_)
 ·rw [h3] at h2
  have h4 : ((List.range 90).all fun k=>allB (rlA [exC] exT2 1).ls (5640 + (k : Int))) = true:=by kernel_rfl
  have h5:=List.all_eq_true.1 h4 (x - 5640).toNat (List.mem_range.2 (by omega))
  rw [show (5640 : Int) + ((x - 5640).toNat : Int) = x by omega] at h5
  exact h5
 ·rcases Int.lt_or_le s' 5640 with hs | hs
  ·exfalso
   have h4 : ((List.range 960).all fun k=>!allB (rlA [exC] exT2 1).ls (4680 + (k : Int))) = true:=by kernel_rfl
   obtain ⟨x,x1,x2,x3,x4⟩ : ∃ x : Int,s' ≤ x ∧ x < s' + 90 ∧ 4680 ≤ x ∧ x < 5640:=by
    have:=h.1
    rcases Int.lt_or_le s' 4680 with q | q
    ·exact ⟨4680,by omega,by omega,by omega,by omega⟩
    ·exact ⟨s',by omega,by omega,by omega,by omega⟩
   have h5:=List.all_eq_true.1 h4 (x - 4680).toNat (List.mem_range.2 (by omega))
   rw [show (4680 : Int) + ((x - 4680).toNat : Int) = x by omega] at h5
   have h6:=h.2.2 x x1 (by rw [h3];exact x2)
   rw [h6] at h5
   cases h5
  ·exact hs
theorem ex_fe {a z : Int} (h : nxR [exC] exT2 1 a = some z) (hr : inR a 0 1099511627776 = true) : nxE [exC] exT2 1 a = 0 ∧ nxV [exC] exT2 1 a = z:=by
 have e : nxE [exC] exT2 1 a = 0:=by
  unfold nxE
  rw [if_pos (ex_fd 1 (by decide)),if_pos hr,h,if_neg (by simp)]
 refine ⟨e,?_⟩
 unfold nxV
 rw [if_pos e,h];rfl
theorem ex_s3 : srV ex3 1 4325 = some 4325:=by
 unfold srV
 rw [show (600000 : Nat) = 599999 + 1 from rfl]
 unfold srN
 obtain ⟨a1,a2⟩:=ex_fe ex_nx1 (by kernel_rfl)
 have e1 : nxE ex3.l ex3.t 1 4325 = 0:=a1
 have e2 : nxV ex3.l ex3.t 1 4325 = 4325:=a2
 rw [if_pos (by decide),e1,e2,if_pos (by decide),if_pos (by decide)]
theorem ex_s4 : srV ex4 1 4325 = some 5640:=by
 unfold srV
 rw [show (600000 : Nat) = 599998 + 1 + 1 from rfl]
 unfold srN
 obtain ⟨a1,a2⟩:=ex_fe ex_nx1 (by kernel_rfl)
 obtain ⟨b1,b2⟩:=ex_fe ex_nx2 (by kernel_rfl)
 have e1 : nxE ex4.l ex4.t 1 4325 = 0:=a1
 have e2 : nxV ex4.l ex4.t 1 4325 = 4325:=a2
 have u1 : untV ex4 1 4325 = 4600:=by kernel_rfl
 rw [if_pos (by decide),e1,e2,if_pos (by decide),u1,if_neg (by decide)]
 unfold srN
 have e3 : nxE ex4.l ex4.t 1 4600 = 0:=b1
 have e4 : nxV ex4.l ex4.t 1 4600 = 5640:=b2
 have u2 : untV ex4 1 5640 = -1:=by kernel_rfl
 rw [if_pos (by decide),e3,e4,if_pos (by decide),u2,if_pos (by decide)]
theorem ex_rp3 : rpV ex3 = (1,[⟨4325,exH⟩],0):=by
 unfold rpV
 have e1 : frsV ex3 = 1:=by kernel_rfl
 have e2 : freeV ex3 = 4325:=by kernel_rfl
 have e3 : ((ex3.t.ps.length : Int) - 1).toNat = 1:=by kernel_rfl
 rw [e1,e2,e3]
 unfold rpG
 have e4 : ctdB ex3 (cvD ex3) (1 + ((0 : Nat) : Int)) = true:=by kernel_rfl
 have e5 : srV ex3 (1 + ((0 : Nat) : Int)) 4325 = some 4325:=ex_s3
 rw [if_pos e4,e5]
 rfl
theorem ex_rp4 : rpV ex4 = (1,[⟨5640,exH⟩],0):=by
 unfold rpV
 have e1 : frsV ex4 = 1:=by kernel_rfl
 have e2 : freeV ex4 = 4325:=by kernel_rfl
 have e3 : ((ex4.t.ps.length : Int) - 1).toNat = 1:=by kernel_rfl
 rw [e1,e2,e3]
 unfold rpG
 have e4 : ctdB ex4 (cvD ex4) (1 + ((0 : Nat) : Int)) = true:=by kernel_rfl
 have e5 : srV ex4 (1 + ((0 : Nat) : Int)) 4325 = some 5640:=ex_s4
 rw [if_pos e4,e5]
 rfl
theorem ex_rp5 : rpV ex5 = (1,[],21):=by
 unfold rpV
 have e1 : frsV ex5 = 1:=by kernel_rfl
 have e2 : freeV ex5 = 4325:=by kernel_rfl
 have e3 : ((ex5.t.ps.length : Int) - 1).toNat = 1:=by kernel_rfl
 rw [e1,e2,e3]
 unfold rpG
 have e4 : ctdB ex5 (cvD ex5) (1 + ((0 : Nat) : Int)) = false:=by kernel_rfl
 rw [e4,if_neg (by decide)]
 rfl
theorem ex_free3 : freeV ex3 = 4325:=by kernel_rfl
theorem fn6 : Sy.Fn Try.prog 6 [] (.agg (cAu exC)):=by
 refine Fn_of_W mixed Xt6 rfl ?_
 have c22:=fn22
 (refine go_c c22 ?_;try exact tTI)
 exact W_ret ⟨[_],⟨⟨⟨trivial,Nat.le_refl 4⟩,rfl⟩,rfl⟩,rfl⟩
theorem fn3 : Sy.Fn Try.prog 3 [] (bv true):=by
 refine Fn_of_W mixed Xt3 rfl ?_
 have c5:=fn5
 have c6:=fn6
 have c11:=fn11
 have hg : ∀ a ∈ [exC],GrA a:=fun a ha=>by
  rw [List.mem_singleton] at ha
  rw [ha]
  exact ⟨by decide,fun x hx=>by
   have : x = exN ∨ x = exD:=by simpa [exC] using hx
   rcases this with rfl | rfl <;> exact ⟨by decide,by decide,by decide⟩⟩
 repeat (first | refine w1g ?_ | refine w1l ?_ | refine w1q ?_ | refine w1b ?_)
 refine w1r ?_
 simp (maxSteps:=400000) (disch:=omega) only [push_cast,↓reduceIte,reduceCtorEq,Nat.reduceAdd,Nat.reduceSub,Nat.reduceEqDiff,Nat.reduceLeDiff,Nat.reduceLT,Nat.reduceBEq,Nat.reduceDiv,Nat.reduceMod,Nat.reducePow,Nat.reduceMul,Int.reduceToNat,Int.reduceLT,Int.reduceLE,ne_l,ne_r,bq_l,bq_r,ls_l,ls_r,lm_set_same,hasM_eq,Option.isSome_some,cvM,List.cons_append,List.nil_append]
 repeat (first | refine w1g ?_ | refine w1l ?_ | refine w1q ?_ | refine w1b ?_)
 refine w1r ?_
 simp (maxSteps:=400000) (disch:=omega) only [push_cast,↓reduceIte,reduceCtorEq,Nat.reduceAdd,Nat.reduceSub,Nat.reduceEqDiff,Nat.reduceLeDiff,Nat.reduceLT,Nat.reduceBEq,Nat.reduceDiv,Nat.reduceMod,Nat.reducePow,Nat.reduceMul,Int.reduceToNat,Int.reduceLT,Int.reduceLE,ne_l,ne_r,bq_l,bq_r,ls_l,ls_r,lm_set_same,hasM_eq,Option.isSome_some,cvM,List.cons_append,List.nil_append]
 refine CallC.now c5 ?_
 simp (maxSteps:=400000) (disch:=omega) only [push_cast,↓reduceIte,reduceCtorEq,Nat.reduceAdd,Nat.reduceSub,Nat.reduceEqDiff,Nat.reduceLeDiff,Nat.reduceLT,Nat.reduceBEq,Nat.reduceDiv,Nat.reduceMod,Nat.reducePow,Nat.reduceMul,Int.reduceToNat,Int.reduceLT,Int.reduceLE,ne_l,ne_r,bq_l,bq_r,ls_l,ls_r,lm_set_same,hasM_eq,Option.isSome_some,cvM,List.cons_append,List.nil_append]
 repeat (first | refine w1g ?_ | refine w1l ?_ | refine w1q ?_ | refine w1b ?_)
 refine w1r ?_
 simp (maxSteps:=400000) (disch:=omega) only [push_cast,↓reduceIte,reduceCtorEq,Nat.reduceAdd,Nat.reduceSub,Nat.reduceEqDiff,Nat.reduceLeDiff,Nat.reduceLT,Nat.reduceBEq,Nat.reduceDiv,Nat.reduceMod,Nat.reducePow,Nat.reduceMul,Int.reduceToNat,Int.reduceLT,Int.reduceLE,ne_l,ne_r,bq_l,bq_r,ls_l,ls_r,lm_set_same,hasM_eq,Option.isSome_some,cvM,List.cons_append,List.nil_append]
 refine CallC.now c6 ?_
 simp (maxSteps:=400000) (disch:=omega) only [push_cast,↓reduceIte,reduceCtorEq,Nat.reduceAdd,Nat.reduceSub,Nat.reduceEqDiff,Nat.reduceLeDiff,Nat.reduceLT,Nat.reduceBEq,Nat.reduceDiv,Nat.reduceMod,Nat.reducePow,Nat.reduceMul,Int.reduceToNat,Int.reduceLT,Int.reduceLE,ne_l,ne_r,bq_l,bq_r,ls_l,ls_r,lm_set_same,hasM_eq,Option.isSome_some,cvM,List.cons_append,List.nil_append]
 refine ⟨rfl,trivial,Aut,dAu,cAu,[exC],rfl,by omega,fun x _=>⟨rfl,rfl⟩,rfl,?_⟩
 simp (maxSteps:=400000) (disch:=omega) only [push_cast,↓reduceIte,reduceCtorEq,Nat.reduceAdd,Nat.reduceSub,Nat.reduceEqDiff,Nat.reduceLeDiff,Nat.reduceLT,Nat.reduceBEq,Nat.reduceDiv,Nat.reduceMod,Nat.reducePow,Nat.reduceMul,Int.reduceToNat,Int.reduceLT,Int.reduceLE,ne_l,ne_r,bq_l,bq_r,ls_l,ls_r,lm_set_same,hasM_eq,Option.isSome_some,cvM,List.cons_append,List.nil_append]
 repeat (first | refine w1g ?_ | refine w1l ?_ | refine w1q ?_ | refine w1b ?_)
 refine W_regLO 3 (by decide) ?_
 simp (maxSteps:=400000) (disch:=omega) only [push_cast,↓reduceIte,reduceCtorEq,Nat.reduceAdd,Nat.reduceSub,Nat.reduceEqDiff,Nat.reduceLeDiff,Nat.reduceLT,Nat.reduceBEq,Nat.reduceDiv,Nat.reduceMod,Nat.reducePow,Nat.reduceMul,Int.reduceToNat,Int.reduceLT,Int.reduceLE,ne_l,ne_r,bq_l,bq_r,ls_l,ls_r,lm_set_same,hasM_eq,Option.isSome_some,cvM,List.cons_append,List.nil_append,List.take_succ_cons,List.take_zero]
 refine WOL_le (le_frzR 17 [18,19] [] 60 9 0 31 4 dAu cAu [exC] rfl rfl rfl (by rfl)) ?_
 refine WOL_end (by decide) ?_
 simp (maxSteps:=400000) (disch:=omega) only [push_cast,↓reduceIte,reduceCtorEq,Nat.reduceAdd,Nat.reduceSub,Nat.reduceEqDiff,Nat.reduceLeDiff,Nat.reduceLT,Nat.reduceBEq,Nat.reduceDiv,Nat.reduceMod,Nat.reducePow,Nat.reduceMul,Int.reduceToNat,Int.reduceLT,Int.reduceLE,ne_l,ne_r,bq_l,bq_r,ls_l,ls_r,lm_set_same,hasM_eq,Option.isSome_some,cvM,List.cons_append,List.nil_append,List.drop_succ_cons,List.drop_zero]
 refine CallC.inl (Inl_le' (i7 [exC] exT2 0 exL (by decide) hg (by decide) (by decide) (fun c hc=>by
  have : c = ⟨4200,exH⟩ ∨ c = ⟨4290,exH⟩:=by simpa [exL] using hc
  rcases this with rfl | rfl <;> decide) ex_tp (R:=[]) (opq_e (by omega))) ?_)
 rintro x s' ⟨B',R2,nx2,hB',hX,⟨rfl,kt,kc,rfl,hkt,hkc,hne,h1,h2⟩,hl⟩
 rw [ex_th] at h1 h2
 have hlt : kc < nx2 ∧ kt < nx2:=by
  refine ⟨?_,?_⟩
  ·rcases Nat.lt_or_ge kc nx2 with h | h
   ·exact h
   ·rw [hX.hi kc h] at h1;cases h1
  ·rcases Nat.lt_or_ge kt nx2 with h | h
   ·exact h
   ·rw [hX.hi kt h] at h2;cases h2
 refine ⟨_,?_,hl⟩
 simp (maxSteps:=400000) (disch:=omega) only [push_cast,↓reduceIte,reduceCtorEq,Nat.reduceAdd,Nat.reduceSub,Nat.reduceEqDiff,Nat.reduceLeDiff,Nat.reduceLT,Nat.reduceBEq,Nat.reduceDiv,Nat.reduceMod,Nat.reducePow,Nat.reduceMul,Int.reduceToNat,Int.reduceLT,Int.reduceLE,ne_l,ne_r,bq_l,bq_r,ls_l,ls_r,lm_set_same,hasM_eq,Option.isSome_some,cvM,List.cons_append,List.nil_append]
 refine W_le (le_base [(4,.own 10 0),(5,iv 0)] h1 h2 (by dsimp only;omega) (by dsimp only;omega) hne rfl ⟨rfl,rfl,trivial⟩) ?_
 clear h1 h2 hl hX hB' hlt hkt hkc hne
 show W _ _ _ ⟨_,cvM ex0 1 0 0,60⟩ _
 simp (maxSteps:=400000) (disch:=omega) only [push_cast,↓reduceIte,reduceCtorEq,Nat.reduceAdd,Nat.reduceSub,Nat.reduceEqDiff,Nat.reduceLeDiff,Nat.reduceLT,Nat.reduceBEq,Nat.reduceDiv,Nat.reduceMod,Nat.reducePow,Nat.reduceMul,Int.reduceToNat,Int.reduceLT,Int.reduceLE,ne_l,ne_r,bq_l,bq_r,ls_l,ls_r,lm_set_same,hasM_eq,Option.isSome_some,cvM,List.cons_append,List.nil_append]
 repeat' (first | refine w1g ?_ | refine w1l ?_ | refine w1q ?_ | refine w1b ?_ | refine w1p ?_ | ((first | refine w1r ?_ | refine w1k ?_ | refine w1e ?_);simp (maxSteps:=400000) (disch:=omega) only [push_cast,↓reduceIte,reduceCtorEq,Nat.reduceAdd,Nat.reduceSub,Nat.reduceEqDiff,Nat.reduceLeDiff,Nat.reduceLT,Nat.reduceBEq,Nat.reduceDiv,Nat.reduceMod,Nat.reducePow,Nat.reduceMul,Int.reduceToNat,Int.reduceLT,Int.reduceLE,ne_l,ne_r,bq_l,bq_r,ls_l,ls_r,lm_set_same,hasM_eq,Option.isSome_some,cvM,List.cons_append,List.nil_append]) | refine an2 ?_ | fail)
 refine W_cond (by rfl) (fun h=>by cases h) (fun _=>?_)
 repeat' (first | refine w1g ?_ | refine w1l ?_ | refine w1q ?_ | refine w1b ?_ | refine w1p ?_ | ((first | refine w1r ?_ | refine w1k ?_ | refine w1e ?_);simp (maxSteps:=400000) (disch:=omega) only [push_cast,↓reduceIte,reduceCtorEq,Nat.reduceAdd,Nat.reduceSub,Nat.reduceEqDiff,Nat.reduceLeDiff,Nat.reduceLT,Nat.reduceBEq,Nat.reduceDiv,Nat.reduceMod,Nat.reducePow,Nat.reduceMul,Int.reduceToNat,Int.reduceLT,Int.reduceLE,ne_l,ne_r,bq_l,bq_r,ls_l,ls_r,lm_set_same,hasM_eq,Option.isSome_some,cvM,List.cons_append,List.nil_append]) | refine an2 ?_ | fail)
 have hR0 : Opq 60 ([] : Mem) 60:=opq_e (by omega)
 refine CallC.inl (Inl_le' (i8 (c:=ex0) (r:=exR1) (O:=[]) (R:=[]) (by decide) (fn30 exR1 (by kernel_rfl)) (by decide) (by decide) (.inl ⟨rfl,ex_t1⟩) (by decide) (fun x hx=>by cases hx) (by kernel_rfl) (by decide) (hR0.le (by omega))) ?_)
 rintro x s' ⟨B',R1,nxR1,hB',hX,⟨rfl,rfl⟩,hl⟩
 refine ⟨_,?_,hl⟩
 show chain _ _ _ (S.app ⟨_,cvM ex1 1 0 1 ++ R1,nxR1⟩ _ _ _ _) _
 have hR1:=hX.opq (hR0.le (by omega))
 clear hl hX hB'
 simp (maxSteps:=400000) (disch:=omega) only [push_cast,↓reduceIte,reduceCtorEq,Nat.reduceAdd,Nat.reduceSub,Nat.reduceEqDiff,Nat.reduceLeDiff,Nat.reduceLT,Nat.reduceBEq,Nat.reduceDiv,Nat.reduceMod,Nat.reducePow,Nat.reduceMul,Int.reduceToNat,Int.reduceLT,Int.reduceLE,ne_l,ne_r,bq_l,bq_r,ls_l,ls_r,lm_set_same,hasM_eq,Option.isSome_some,cvM,List.cons_append,List.nil_append]
 repeat' (first | refine w1g ?_ | refine w1l ?_ | refine w1q ?_ | refine w1b ?_ | refine w1p ?_ | ((first | refine w1r ?_ | refine w1k ?_ | refine w1e ?_);simp (maxSteps:=400000) (disch:=omega) only [push_cast,↓reduceIte,reduceCtorEq,Nat.reduceAdd,Nat.reduceSub,Nat.reduceEqDiff,Nat.reduceLeDiff,Nat.reduceLT,Nat.reduceBEq,Nat.reduceDiv,Nat.reduceMod,Nat.reducePow,Nat.reduceMul,Int.reduceToNat,Int.reduceLT,Int.reduceLE,ne_l,ne_r,bq_l,bq_r,ls_l,ls_r,lm_set_same,hasM_eq,Option.isSome_some,cvM,List.cons_append,List.nil_append]) | refine an2 ?_ | fail)
 refine CallC.inl (Inl_le' (i8 (c:=ex1) (r:=exR2) (O:=[]) (R:=R1) (by decide) (fn30 exR2 (by kernel_rfl)) (by decide) (by decide) (.inr (.inr (.inl ⟨rfl,ex_t2⟩))) (by decide) (fun x hx=>by cases hx) (by kernel_rfl) (by decide) (hR1.le (by omega))) ?_)
 rintro x s' ⟨B',R2,nxR2,hB',hX,⟨rfl,rfl⟩,hl⟩
 refine ⟨_,?_,hl⟩
 show chain _ _ _ (S.app ⟨_,cvM ex2 1 0 2 ++ R2,nxR2⟩ _ _ _ _) _
 have hR2:=hX.opq (hR1.le (by omega))
 clear hl hX hB'
 simp (maxSteps:=400000) (disch:=omega) only [push_cast,↓reduceIte,reduceCtorEq,Nat.reduceAdd,Nat.reduceSub,Nat.reduceEqDiff,Nat.reduceLeDiff,Nat.reduceLT,Nat.reduceBEq,Nat.reduceDiv,Nat.reduceMod,Nat.reducePow,Nat.reduceMul,Int.reduceToNat,Int.reduceLT,Int.reduceLE,ne_l,ne_r,bq_l,bq_r,ls_l,ls_r,lm_set_same,hasM_eq,Option.isSome_some,cvM,List.cons_append,List.nil_append]
 repeat' (first | refine w1g ?_ | refine w1l ?_ | refine w1q ?_ | refine w1b ?_ | refine w1p ?_ | ((first | refine w1r ?_ | refine w1k ?_ | refine w1e ?_);simp (maxSteps:=400000) (disch:=omega) only [push_cast,↓reduceIte,reduceCtorEq,Nat.reduceAdd,Nat.reduceSub,Nat.reduceEqDiff,Nat.reduceLeDiff,Nat.reduceLT,Nat.reduceBEq,Nat.reduceDiv,Nat.reduceMod,Nat.reducePow,Nat.reduceMul,Int.reduceToNat,Int.reduceLT,Int.reduceLE,ne_l,ne_r,bq_l,bq_r,ls_l,ls_r,lm_set_same,hasM_eq,Option.isSome_some,cvM,List.cons_append,List.nil_append]) | refine an2 ?_ | fail)
 have e6 : repL ex2.rp exO exO.length = [⟨2,4,0,5,[]⟩]:=rfl
 refine CallC.inl (Inl_le' (i8 (c:=ex2) (r:=exR3) (O:=exO) (R:=R2) (by decide) (fn30 exR3 (by kernel_rfl)) (by decide) (by decide) (.inr (.inl ⟨rfl,ex_t3⟩)) (by decide) (fun x hx=>by rw [List.mem_singleton.1 hx];decide) (by kernel_rfl) (by decide) (hR2.le (by omega))) ?_)
 rintro x s' ⟨B',R3,nxR3,hB',hX,⟨rfl,rfl⟩,hl⟩
 rw [e6]
 refine ⟨_,?_,hl⟩
 show chain _ _ _ (S.app ⟨_,cvM ex3 1 0 3 ++ R3,nxR3⟩ _ _ _ _) _
 have hR3:=hX.opq (hR2.le (by omega))
 clear hl hX hB'
 simp (maxSteps:=400000) (disch:=omega) only [push_cast,↓reduceIte,reduceCtorEq,Nat.reduceAdd,Nat.reduceSub,Nat.reduceEqDiff,Nat.reduceLeDiff,Nat.reduceLT,Nat.reduceBEq,Nat.reduceDiv,Nat.reduceMod,Nat.reducePow,Nat.reduceMul,Int.reduceToNat,Int.reduceLT,Int.reduceLE,ne_l,ne_r,bq_l,bq_r,ls_l,ls_r,lm_set_same,hasM_eq,Option.isSome_some,cvM,List.cons_append,List.nil_append,e6]
 repeat' (first | refine w1g ?_ | refine w1l ?_ | refine w1q ?_ | refine w1b ?_ | refine w1p ?_ | ((first | refine w1r ?_ | refine w1k ?_ | refine w1e ?_);simp (maxSteps:=400000) (disch:=omega) only [push_cast,↓reduceIte,reduceCtorEq,Nat.reduceAdd,Nat.reduceSub,Nat.reduceEqDiff,Nat.reduceLeDiff,Nat.reduceLT,Nat.reduceBEq,Nat.reduceDiv,Nat.reduceMod,Nat.reducePow,Nat.reduceMul,Int.reduceToNat,Int.reduceLT,Int.reduceLE,ne_l,ne_r,bq_l,bq_r,ls_l,ls_r,lm_set_same,hasM_eq,Option.isSome_some,cvM,List.cons_append,List.nil_append]) | refine an2 ?_ | fail)
 refine CallC.inl (Inl_le' (i9 ex_ok3 (R:=R3) (hR3.le (by omega))) ?_)
 rintro x s' ⟨B',R4,nxR4,hB',hX,⟨rfl,rfl⟩,hl⟩
 rw [ex_rp3]
 refine ⟨_,?_,hl⟩
 show chain _ _ _ (S.app ⟨_,cvM ex3 1 0 3 ++ R4,nxR4⟩ _ _ _ _) _
 have hR4:=hX.opq (hR3.le (by omega))
 clear hl hX hB'
 simp (maxSteps:=400000) (disch:=omega) only [push_cast,↓reduceIte,reduceCtorEq,Nat.reduceAdd,Nat.reduceSub,Nat.reduceEqDiff,Nat.reduceLeDiff,Nat.reduceLT,Nat.reduceBEq,Nat.reduceDiv,Nat.reduceMod,Nat.reducePow,Nat.reduceMul,Int.reduceToNat,Int.reduceLT,Int.reduceLE,ne_l,ne_r,bq_l,bq_r,ls_l,ls_r,lm_set_same,hasM_eq,Option.isSome_some,cvM,List.cons_append,List.nil_append]
 have c10:=fn10 ex3 (by decide) (fun h=>by cases h) (fun p hp=>ex_okP p hp) (by decide) (by decide)
 rw [ex_free3] at c10
 repeat' (first | refine w1g ?_ | refine w1l ?_ | refine w1q ?_ | refine w1b ?_ | refine w1p ?_ | ((first | refine w1r ?_ | refine w1k ?_ | refine w1e ?_ | refine CallC.go _ (fun _=>⟨trivial,c10⟩) rfl ?_);simp (maxSteps:=400000) (disch:=omega) only [push_cast,↓reduceIte,reduceCtorEq,Nat.reduceAdd,Nat.reduceSub,Nat.reduceEqDiff,Nat.reduceLeDiff,Nat.reduceLT,Nat.reduceBEq,Nat.reduceDiv,Nat.reduceMod,Nat.reducePow,Nat.reduceMul,Int.reduceToNat,Int.reduceLT,Int.reduceLE,ne_l,ne_r,bq_l,bq_r,ls_l,ls_r,lm_set_same,hasM_eq,Option.isSome_some,cvM,List.cons_append,List.nil_append]) | refine an2 ?_ | fail)
 refine W_cond (by rfl) (fun h=>absurd h (by decide)) (fun _=>?_)
 repeat' (first | refine w1g ?_ | refine w1l ?_ | refine w1q ?_ | refine w1b ?_ | refine w1p ?_ | ((first | refine w1r ?_ | refine w1k ?_ | refine w1e ?_);simp (maxSteps:=400000) (disch:=omega) only [push_cast,↓reduceIte,reduceCtorEq,Nat.reduceAdd,Nat.reduceSub,Nat.reduceEqDiff,Nat.reduceLeDiff,Nat.reduceLT,Nat.reduceBEq,Nat.reduceDiv,Nat.reduceMod,Nat.reducePow,Nat.reduceMul,Int.reduceToNat,Int.reduceLT,Int.reduceLE,ne_l,ne_r,bq_l,bq_r,ls_l,ls_r,lm_set_same,hasM_eq,Option.isSome_some,cvM,List.cons_append,List.nil_append]) | refine an2 ?_ | fail)
 refine CallC.inl (Inl_le' (i8 (c:=ex3) (r:=exR4) (O:=[]) (R:=R4) (by decide) (fn30 exR4 (by kernel_rfl)) (by decide) (by decide) (.inr (.inr (.inr (.inr (.inl ⟨rfl,ex_t4⟩))))) (by decide) (fun x hx=>by cases hx) (by kernel_rfl) (by decide) (hR4.le (by omega))) ?_)
 rintro x s' ⟨B',R5,nxR5,hB',hX,⟨rfl,rfl⟩,hl⟩
 refine ⟨_,?_,hl⟩
 show chain _ _ _ (S.app ⟨_,cvM ex4 1 1 4 ++ R5,nxR5⟩ _ _ _ _) _
 have hR5:=hX.opq (hR4.le (by omega))
 clear hl hX hB'
 simp (maxSteps:=400000) (disch:=omega) only [push_cast,↓reduceIte,reduceCtorEq,Nat.reduceAdd,Nat.reduceSub,Nat.reduceEqDiff,Nat.reduceLeDiff,Nat.reduceLT,Nat.reduceBEq,Nat.reduceDiv,Nat.reduceMod,Nat.reducePow,Nat.reduceMul,Int.reduceToNat,Int.reduceLT,Int.reduceLE,ne_l,ne_r,bq_l,bq_r,ls_l,ls_r,lm_set_same,hasM_eq,Option.isSome_some,cvM,List.cons_append,List.nil_append]
 repeat' (first | refine w1g ?_ | refine w1l ?_ | refine w1q ?_ | refine w1b ?_ | refine w1p ?_ | ((first | refine w1r ?_ | refine w1k ?_ | refine w1e ?_);simp (maxSteps:=400000) (disch:=omega) only [push_cast,↓reduceIte,reduceCtorEq,Nat.reduceAdd,Nat.reduceSub,Nat.reduceEqDiff,Nat.reduceLeDiff,Nat.reduceLT,Nat.reduceBEq,Nat.reduceDiv,Nat.reduceMod,Nat.reducePow,Nat.reduceMul,Int.reduceToNat,Int.reduceLT,Int.reduceLE,ne_l,ne_r,bq_l,bq_r,ls_l,ls_r,lm_set_same,hasM_eq,Option.isSome_some,cvM,List.cons_append,List.nil_append]) | refine an2 ?_ | fail)
 refine CallC.inl (Inl_le' (i9 ex_ok4 (R:=R5) (hR5.le (by omega))) ?_)
 rintro x s' ⟨B',R6,nxR6,hB',hX,⟨rfl,rfl⟩,hl⟩
 rw [ex_rp4]
 refine ⟨_,?_,hl⟩
 show chain _ _ _ (S.app ⟨_,cvM ex4 1 1 4 ++ R6,nxR6⟩ _ _ _ _) _
 have hR6:=hX.opq (hR5.le (by omega))
 clear hl hX hB'
 simp (maxSteps:=400000) (disch:=omega) only [push_cast,↓reduceIte,reduceCtorEq,Nat.reduceAdd,Nat.reduceSub,Nat.reduceEqDiff,Nat.reduceLeDiff,Nat.reduceLT,Nat.reduceBEq,Nat.reduceDiv,Nat.reduceMod,Nat.reducePow,Nat.reduceMul,Int.reduceToNat,Int.reduceLT,Int.reduceLE,ne_l,ne_r,bq_l,bq_r,ls_l,ls_r,lm_set_same,hasM_eq,Option.isSome_some,cvM,List.cons_append,List.nil_append]
 repeat' (first | refine w1g ?_ | refine w1l ?_ | refine w1q ?_ | refine w1b ?_ | refine w1p ?_ | ((first | refine w1r ?_ | refine w1k ?_ | refine w1e ?_);simp (maxSteps:=400000) (disch:=omega) only [push_cast,↓reduceIte,reduceCtorEq,Nat.reduceAdd,Nat.reduceSub,Nat.reduceEqDiff,Nat.reduceLeDiff,Nat.reduceLT,Nat.reduceBEq,Nat.reduceDiv,Nat.reduceMod,Nat.reducePow,Nat.reduceMul,Int.reduceToNat,Int.reduceLT,Int.reduceLE,ne_l,ne_r,bq_l,bq_r,ls_l,ls_r,lm_set_same,hasM_eq,Option.isSome_some,cvM,List.cons_append,List.nil_append]) | refine an2 ?_ | fail)
 refine W_cond (by rfl) (fun h=>absurd h (by decide)) (fun _=>?_)
 repeat' (first | refine w1g ?_ | refine w1l ?_ | refine w1q ?_ | refine w1b ?_ | refine w1p ?_ | ((first | refine w1r ?_ | refine w1k ?_ | refine w1e ?_);simp (maxSteps:=400000) (disch:=omega) only [push_cast,↓reduceIte,reduceCtorEq,Nat.reduceAdd,Nat.reduceSub,Nat.reduceEqDiff,Nat.reduceLeDiff,Nat.reduceLT,Nat.reduceBEq,Nat.reduceDiv,Nat.reduceMod,Nat.reducePow,Nat.reduceMul,Int.reduceToNat,Int.reduceLT,Int.reduceLE,ne_l,ne_r,bq_l,bq_r,ls_l,ls_r,lm_set_same,hasM_eq,Option.isSome_some,cvM,List.cons_append,List.nil_append]) | refine an2 ?_ | fail)
 refine CallC.inl (Inl_le' (i8 (c:=ex4) (r:=exR5) (O:=[]) (R:=R6) (by decide) (fn30 exR5 (by kernel_rfl)) (by decide) (by decide) (.inr (.inr (.inr (.inl ⟨rfl,ex_t5⟩)))) (by decide) (fun x hx=>by cases hx) (by kernel_rfl) (by decide) (hR6.le (by omega))) ?_)
 rintro x s' ⟨B',R7,nxR7,hB',hX,⟨rfl,rfl⟩,hl⟩
 refine ⟨_,?_,hl⟩
 show chain _ _ _ (S.app ⟨_,cvM ex5 1 1 5 ++ R7,nxR7⟩ _ _ _ _) _
 have hR7:=hX.opq (hR6.le (by omega))
 clear hl hX hB'
 simp (maxSteps:=400000) (disch:=omega) only [push_cast,↓reduceIte,reduceCtorEq,Nat.reduceAdd,Nat.reduceSub,Nat.reduceEqDiff,Nat.reduceLeDiff,Nat.reduceLT,Nat.reduceBEq,Nat.reduceDiv,Nat.reduceMod,Nat.reducePow,Nat.reduceMul,Int.reduceToNat,Int.reduceLT,Int.reduceLE,ne_l,ne_r,bq_l,bq_r,ls_l,ls_r,lm_set_same,hasM_eq,Option.isSome_some,cvM,List.cons_append,List.nil_append]
 repeat' (first | refine w1g ?_ | refine w1l ?_ | refine w1q ?_ | refine w1b ?_ | refine w1p ?_ | ((first | refine w1r ?_ | refine w1k ?_ | refine w1e ?_);simp (maxSteps:=400000) (disch:=omega) only [push_cast,↓reduceIte,reduceCtorEq,Nat.reduceAdd,Nat.reduceSub,Nat.reduceEqDiff,Nat.reduceLeDiff,Nat.reduceLT,Nat.reduceBEq,Nat.reduceDiv,Nat.reduceMod,Nat.reducePow,Nat.reduceMul,Int.reduceToNat,Int.reduceLT,Int.reduceLE,ne_l,ne_r,bq_l,bq_r,ls_l,ls_r,lm_set_same,hasM_eq,Option.isSome_some,cvM,List.cons_append,List.nil_append]) | refine an2 ?_ | fail)
 refine CallC.inl (Inl_le' (i9 ex_ok5 (R:=R7) (hR7.le (by omega))) ?_)
 rintro x s' ⟨B',R8,nxR8,hB',hX,⟨rfl,rfl⟩,hl⟩
 rw [ex_rp5]
 refine ⟨_,?_,hl⟩
 show chain _ _ _ (S.app ⟨_,cvM ex5 1 1 5 ++ R8,nxR8⟩ _ _ _ _) _
 have hR8:=hX.opq (hR7.le (by omega))
 clear hl hX hB'
 simp (maxSteps:=400000) (disch:=omega) only [push_cast,↓reduceIte,reduceCtorEq,Nat.reduceAdd,Nat.reduceSub,Nat.reduceEqDiff,Nat.reduceLeDiff,Nat.reduceLT,Nat.reduceBEq,Nat.reduceDiv,Nat.reduceMod,Nat.reducePow,Nat.reduceMul,Int.reduceToNat,Int.reduceLT,Int.reduceLE,ne_l,ne_r,bq_l,bq_r,ls_l,ls_r,lm_set_same,hasM_eq,Option.isSome_some,cvM,List.cons_append,List.nil_append]
 repeat' (first | refine w1g ?_ | refine w1l ?_ | refine w1q ?_ | refine w1b ?_ | refine w1p ?_ | ((first | refine w1r ?_ | refine w1k ?_ | refine w1e ?_ | refine CallC.go _ (fun _=>⟨trivial,c11⟩) rfl ?_);simp (maxSteps:=400000) (disch:=omega) only [push_cast,↓reduceIte,reduceCtorEq,Nat.reduceAdd,Nat.reduceSub,Nat.reduceEqDiff,Nat.reduceLeDiff,Nat.reduceLT,Nat.reduceBEq,Nat.reduceDiv,Nat.reduceMod,Nat.reducePow,Nat.reduceMul,Int.reduceToNat,Int.reduceLT,Int.reduceLE,ne_l,ne_r,bq_l,bq_r,ls_l,ls_r,lm_set_same,hasM_eq,Option.isSome_some,cvM,List.cons_append,List.nil_append]) | refine an2 ?_ | fail)
 exact W_ret ⟨[_],⟨rfl,rfl⟩,rfl⟩
end Go.Proofs.Ytmekmmgiamjfoaa.P
namespace Go.Proofs.Ytmekmmgiamjfoaa
open Go Sy Go.ChangeShapes Go.WideShapes Go.RowKit
set_option maxRecDepth 100000
set_option linter.unusedVariables false
theorem own : ownKnob Try.prog.godebug = none:=by kernel_rfl
theorem laidOut : laidOutB Try.prog = true:=by kernel_rfl
theorem walk3 (W : World) :
  Calls Try.prog 3 #[] W fun e w'=>e = .returned (.bool true) ∧ Below W.heap.size W w':=by
 have hf : Sy.Fn Try.prog 3 [] (bv true):=P.fn3
 refine (hf.2 (inW W) W [] (fun b hb=>hb) ?_).mono ?_
 ·simp [fsatT]
 ·rintro e w' ⟨v,rfl,hb,hv⟩
  simp only [fsat] at hv
  exact ⟨by rw [hv],hb⟩
theorem lifted3 (os : Os) (started : os.Started) (H : Type) (enc : TypeId × Value → H) :
  ReturnsInHanded {} Try.checked os 3 .any (Rows.convoyKnownSpec.pre6 enc Try.prog Try.f3 Rows.convoyKnownRow.domain false) (Rows.convoyKnownSpec.post enc Try.prog Try.f3 false true false false):=by
 refine returnsInHanded_of_change_sized (C:=Try.checked) own started (by kernel_rfl) Try.func3
  (ChangeSpec.witness6 (enc:=enc) (C:=Try.checked) false ⟨#[],#[],[]⟩ 8 (by kernel_rfl) (by kernel_rfl) (by kernel_rfl) (by kernel_rfl)) ?_
 intro W base args ds gs before hval0 hW hcnd hsz _
 have hval : ∀ (j : Nat) t v,Try.f3.params[j]? = some t → args[j]? = some v → Value.okWide Try.prog W .any base t v:=hval0
 have hW':=hW
 obtain ⟨p,q,hA0,hV,rfl,hfz,hnd⟩:=hW
 have hA : DataW.TrodAll enc Try.prog W 0 (fun _=>true) true Try.f3.params.toList args.toList ds p:=hA0
 rw [Try.params3] at hA hval
 obtain ⟨hargs,rfl,rfl⟩:=trodAll_nil hA
 obtain rfl : args = #[]:=by cases args;simp_all
 obtain ⟨rfl,rfl⟩:=trodVars_none hV
 clear hA0 hval0
 refine (walk3 W    ).mono fun e W' ⟨he,bel⟩=>?_
 subst he
 exact ⟨_,rfl,_,_,_,[],_,[],hW',trodAll_mk1 (shut_bool Try.underlying4 _),trodAll_mk0,rfl,bel.frame _,fun h=>by cases h⟩
theorem jf_a : (Rows.convoyKnownRow.inPlace == Try.prog.inPlace 3) = true:=by kernel_rfl
theorem jf_b : (Rows.convoyKnownRow.unfollowed == Try.prog.unfollowed 3) = true:=by kernel_rfl
theorem jf_c : (Rows.convoyKnownRow.recurses == Try.prog.recurses 3) = true:=by kernel_rfl
theorem jf_d : (Rows.convoyKnownRow.named == Try.prog.varsNamed 3) = true:=by kernel_rfl
theorem jf_e : (Rows.convoyKnownRow.lifted == Try.prog.liftsFinal) = true:=by kernel_rfl
theorem jf_g : Try.prog.mayEnter = true:=by kernel_rfl
theorem jf_h : Try.prog.stopsHeard = true:=by kernel_rfl
theorem jf_j : mapsRowed Try.prog = true:=by kernel_rfl
theorem jf_m : (Rows.convoyKnownRow.plainKeys == Try.prog.plainKeys) = true:=by kernel_rfl
theorem closed3 : joinedFacts Try.prog 3 Try.f3 Rows.convoyKnownSpec Rows.convoyKnownRow = true:=by
 unfold joinedFacts
 rw [laidOut,jf_a,jf_b,jf_c,jf_d,jf_e,jf_g,jf_h,jf_j,jf_m]
 kernel_rfl
theorem over3 : Rows.convoyKnownRow.holds Try.pinned (OpenSpec.ofChange Rows.convoyKnownSpec):=
 OpenClaim.holds_of_wide 3 Try.f3 rfl rfl rfl rfl rfl rfl rfl ⟨rfl,rfl,rfl,rfl,rfl⟩ rfl rfl rfl rfl rfl (by kernel_rfl) Try.func3 closed3
  (of_decide_eq_true (by kernel_rfl)) (by unfold Func.isWrapper;first | (rw [if_pos (by decide +kernel)];kernel_rfl) | (rw [if_neg (by decide +kernel)];exact ⟨rfl,rfl⟩))
  (fun os started H enc _=>lifted3 os started H enc)
theorem convoy_known_holds : Rows.ConvoyKnownSaid:=over3
end Go.Proofs.Ytmekmmgiamjfoaa
