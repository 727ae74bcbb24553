/- Part 10 of the proof of: For every input the law TopOnGuide returns true: a point of a guide at a length is hardly off it, a track of such points is right, and one that is moved too far is refused. -/
import Derived.Test.YtgiedelaebdooaaGreatP9
namespace Go.Proofs.YtgiedelaebdooaaGreat.P
open Go Sy
set_option maxRecDepth 100000
set_option maxHeartbeats 8000000
set_option linter.unusedVariables false
set_option linter.unusedSimpArgs false
def cRs (x : Rls) : List AV:=[aRu x.ls,aI x.ns,iv x.mi]
theorem nRs0 (x : Rls) : nth (cRs x) 0 = aRu x.ls:=rfl
theorem nRs1 (x : Rls) : nth (cRs x) 1 = aI x.ns:=rfl
theorem nRs2 (x : Rls) : nth (cRs x) 2 = iv x.mi:=rfl
theorem lRs (x : Rls) : (cRs x).length = 3:=rfl
theorem frRs (x : Rls) : frzAll (cRs x) = true:=rfl
theorem tRs (x : Rls) : List.take 3 (List.drop 0 (cRs x)) = cRs x:=rfl
theorem uRs (x : Rls) : List.take 3 (cRs x) = cRs x:=rfl
theorem iRs {m : Nat → Option Blk} {n : Nat} (x : Rls) : List.flatMap (ids m n) (cRs x) = []:=flat_frz n _ (frRs x)
theorem vRs {m : Nat → Option Blk} {n : Nat} (x : Rls) : List.map (view m n) (cRs x) = cRs x:=viewL_frz n _ (frRs x)
abbrev aRs (l : List Rls) : AV:=.sl 3 dRs cRs l
attribute [push_cast] nRs0 nRs1 nRs2 lRs frRs tRs uRs iRs vRs
abbrev cDk (s : Dk) : List AV:=[aCd s.cd,iv s.fe,iv s.no,aRs s.ps]
def gW (PS : List Rls) (R : Rls) : Bool → Blk
 |true=>.row (PS.length + 1) 203 3 dRs cRs (PS ++ [R])
 |false=>.row PS.length 203 3 dRs cRs PS
def gC (cn : Nat) (F N : Int) (n : Nat) : Bool → Blk
 |true=>.cells [.row 18 cn,iv F,iv N,.row 19 (n + 1)]
 |false=>.cells [.row 18 cn,iv F,iv N,.row 19 n]
def gR (R : Rls) : Bool → List (Nat × Blk)
 |true=>[]
 |false=>[(50,.row R.ns.length 3 1 0 cI R.ns),(49,.row R.ls.length 195 11 dRu cRu R.ls),(40,.cells [.row 49 R.ls.length,.row 50 R.ns.length,iv R.mi])]
abbrev gM (b : Nat) (g : Value → Option Value) (CD : List Cnd) (F N : Int) (PS : List Rls) (R : Rls) (x y z : Bool) : List (Nat × Blk):=(19,gW PS R y) :: (18,.row CD.length 353 3 dCd cCd CD) :: (14,gC CD.length F N PS.length z) :: (16,.oth (.mp b 0 g)) :: gR R x
theorem gM_no (b : Nat) (g : Value → Option Value) (CD : List Cnd) (F N : Int) (PS : List Rls) (R : Rls) (x y z : Bool) (q : Nat) (hq : 60 ≤ q) : lm (gM b g CD F N PS R x y z) q = none:=by
 cases x <;> (simp only [gR,lm];repeat rw [if_neg (by omega)])
def kS88 : List Nat:=[0,3,8,9,30,31,32,13,141,142,143,144,145,146,147,148,149,150]
def gS (l : List Aut) (t : Trp) (i : Nat) (b : Nat) (g : Value → Option Value) (CD : List Cnd) (F N : Int) (PS : List Rls) (LS : List Rul) (NS : List Int) (mi : Int) (D : Nat → Bool) : S:=
 ⟨[(0,aAu l),(3,.fp (cTr t) 0),(8,.own 14 0),(9,.v (.map (some b))),(30,aPs t.ps),(31,.v (.int .i64 (t.ps.length : Int))),(32,iv i),(13,R.sl1 (!D 5) (.own 40 0)),(141,R.sl1 (D 0) (.own 14 0)),(142,R.sl1 (D 1) (.own 14 0)),(143,R.sl1 (D 2) (.own 14 0)),(144,R.sl1 (D 3) (.own 14 3)),(145,R.sl1 (D 4) (.row 19 PS.length)),(146,R.sl1 (D 5) (.agg (cRs ⟨LS,NS,mi⟩))),(147,R.sl1 (D 6) (aRs [⟨LS,NS,mi⟩])),(148,R.sl1 (D 7) (.row 19 (PS.length + 1))),(149,R.sl1 (D 8) (.own 14 0)),(150,R.sl1 (D 9) (.own 14 3))],gM b g CD F N PS ⟨LS,NS,mi⟩ (D 5) (D 7) (D 10),60⟩
theorem d88 (l : List Aut) (t : Trp) (i : Nat) (b : Nat) (g : Value → Option Value) (CD : List Cnd) (F N : Int) (PS : List Rls) (LS : List Rul) (NS : List Int) (mi : Int) (hp : PS.length ≤ 1000) {s : S} {Q : Ex → S → Prop}
  (hs : le s (gS l t i b g CD F N PS LS NS mi fun _=>false))
  (hQ : Q .n ⟨[(0,aAu l),(3,.fp (cTr t) 0),(8,.own 14 0),(9,.v (.map (some b))),(30,aPs t.ps),(31,.v (.int .i64 (t.ps.length : Int))),(32,iv i)],[(19,.row (PS.length + 1) 203 3 dRs cRs (PS ++ [⟨LS,NS,mi⟩])),(18,.row CD.length 353 3 dCd cCd CD),(14,.cells [.row 18 CD.length,iv F,iv N,.row 19 (PS.length + 1)]),(16,.oth (.mp b 0 g))],60⟩) :
  W Tryz.prog 153 Xn123_88 s Q:=by
 have L : ∀ (x y z : Bool) (q : Nat),60 ≤ q → lm (gM b g CD F N PS ⟨LS,NS,mi⟩ x y z) q = none:=fun x y z q hq=>gM_no b g CD F N PS _ x y z q hq
 refine W_regJ (gS l t i b g CD F N PS LS NS mi) hs (fun D i' ro m hro hms hD ha hcl=>?_) (fun D hD=>?_)
 ·have off : ∀ (x y w : Nat),D y = false → [0,0,2,6,14,0,32,126,255,511,1023][x]? = some w → tb w y → D x = false:=fun x y w hy hw hb=>by
   rw [← Bool.not_eq_true]
   intro z
   rw [hcl x w z hw y hb] at hy
   cases hy
  rcases i' with _ | _ | _ | _ | _ | _ | _ | _ | _ | _ | _ | i'
  all_goals simp only [List.getElem?_cons_zero,List.getElem?_cons_succ,List.getElem?_nil,Option.some.injEq,reduceCtorEq] at hro hms
  all_goals subst hro
  all_goals subst hms
  all_goals unfold gS
  have h10:=off 10 0 1023 hD rfl (by unfold tb;decide)
  simp only [h10]
  simp (maxSteps:=400000) (disch:=omega) only [push_cast,↓reduceIte,reduceCtorEq,Nat.reduceAdd,Nat.reduceSub,Nat.reduceEqDiff,Nat.reduceLeDiff,Nat.reduceLT,Nat.reduceBEq,Nat.reduceDiv,Nat.reduceMod,Nat.reducePow,Nat.reduceMul,Int.reduceToNat,Int.reduceLT,Int.reduceLE,R.sl1_t,R.sl1_f,gW,gC,gR,hD]
  first | exact R.le_stk kS88 60 (L _ _ _) (by rfl) | exact ⟨by decide,R.le_stk kS88 60 (L _ _ _) (by rfl)⟩ | exact ⟨by omega,R.le_stk kS88 60 (L _ _ _) (by rfl)⟩
  have h7:=off 7 1 126 hD rfl (by unfold tb;decide)
  have h10:=off 10 1 1023 hD rfl (by unfold tb;decide)
  simp only [h7,h10]
  simp (maxSteps:=400000) (disch:=omega) only [push_cast,↓reduceIte,reduceCtorEq,Nat.reduceAdd,Nat.reduceSub,Nat.reduceEqDiff,Nat.reduceLeDiff,Nat.reduceLT,Nat.reduceBEq,Nat.reduceDiv,Nat.reduceMod,Nat.reducePow,Nat.reduceMul,Int.reduceToNat,Int.reduceLT,Int.reduceLE,R.sl1_t,R.sl1_f,gW,gC,gR,hD]
  first | exact R.le_stk kS88 60 (L _ _ _) (by rfl) | exact ⟨by decide,R.le_stk kS88 60 (L _ _ _) (by rfl)⟩ | exact ⟨by omega,R.le_stk kS88 60 (L _ _ _) (by rfl)⟩
  have a1:=ha 1 (by unfold tb;decide)
  have h7:=off 7 2 126 hD rfl (by unfold tb;decide)
  have h10:=off 10 2 1023 hD rfl (by unfold tb;decide)
  simp only [a1,h7,h10]
  simp (maxSteps:=400000) (disch:=omega) only [push_cast,↓reduceIte,reduceCtorEq,Nat.reduceAdd,Nat.reduceSub,Nat.reduceEqDiff,Nat.reduceLeDiff,Nat.reduceLT,Nat.reduceBEq,Nat.reduceDiv,Nat.reduceMod,Nat.reducePow,Nat.reduceMul,Int.reduceToNat,Int.reduceLT,Int.reduceLE,R.sl1_t,R.sl1_f,gW,gC,gR,hD]
  first | exact R.le_stk kS88 60 (L _ _ _) (by rfl) | exact ⟨by decide,R.le_stk kS88 60 (L _ _ _) (by rfl)⟩ | exact ⟨by omega,R.le_stk kS88 60 (L _ _ _) (by rfl)⟩
  have a2:=ha 2 (by unfold tb;decide)
  have h7:=off 7 3 126 hD rfl (by unfold tb;decide)
  have h10:=off 10 3 1023 hD rfl (by unfold tb;decide)
  simp only [a2,h7,h10]
  simp (maxSteps:=400000) (disch:=omega) only [push_cast,↓reduceIte,reduceCtorEq,Nat.reduceAdd,Nat.reduceSub,Nat.reduceEqDiff,Nat.reduceLeDiff,Nat.reduceLT,Nat.reduceBEq,Nat.reduceDiv,Nat.reduceMod,Nat.reducePow,Nat.reduceMul,Int.reduceToNat,Int.reduceLT,Int.reduceLE,R.sl1_t,R.sl1_f,gW,gC,gR,hD]
  first | exact R.le_stk kS88 60 (L _ _ _) (by rfl) | exact ⟨by decide,R.le_stk kS88 60 (L _ _ _) (by rfl)⟩ | exact ⟨by omega,R.le_stk kS88 60 (L _ _ _) (by rfl)⟩
  have a3:=ha 3 (by unfold tb;decide)
  have h7:=off 7 4 126 hD rfl (by unfold tb;decide)
  have h10:=off 10 4 1023 hD rfl (by unfold tb;decide)
  simp only [a3,h7,h10]
  simp (maxSteps:=400000) (disch:=omega) only [push_cast,↓reduceIte,reduceCtorEq,Nat.reduceAdd,Nat.reduceSub,Nat.reduceEqDiff,Nat.reduceLeDiff,Nat.reduceLT,Nat.reduceBEq,Nat.reduceDiv,Nat.reduceMod,Nat.reducePow,Nat.reduceMul,Int.reduceToNat,Int.reduceLT,Int.reduceLE,R.sl1_t,R.sl1_f,gW,gC,gR,hD]
  first | exact R.le_stk kS88 60 (L _ _ _) (by rfl) | exact ⟨by decide,R.le_stk kS88 60 (L _ _ _) (by rfl)⟩ | exact ⟨by omega,R.le_stk kS88 60 (L _ _ _) (by rfl)⟩
  have h7:=off 7 5 126 hD rfl (by unfold tb;decide)
  have h10:=off 10 5 1023 hD rfl (by unfold tb;decide)
  simp only [h7,h10]
  simp (maxSteps:=400000) (disch:=omega) only [push_cast,↓reduceIte,reduceCtorEq,Nat.reduceAdd,Nat.reduceSub,Nat.reduceEqDiff,Nat.reduceLeDiff,Nat.reduceLT,Nat.reduceBEq,Nat.reduceDiv,Nat.reduceMod,Nat.reducePow,Nat.reduceMul,Int.reduceToNat,Int.reduceLT,Int.reduceLE,R.sl1_t,R.sl1_f,gW,gC,gR,hD]
  refine R.le_two (le_frzG 146 [0,3,8,9,30,31,32,141,142,143,144,145,147,148,149,150] [19,18,14,16] 60 _ (cRs ⟨LS,NS,mi⟩) rfl (.row rfl rfl (.row rfl rfl (.same rfl .nil))) (R.nOK (by repeat (first | exact rfl | refine R.okc rfl ?_ | refine R.okc (R.oB rfl) ?_)) rfl rfl)) ?_
  first | exact R.le_stk kS88 60 (L true false false) (by rfl) | exact ⟨by decide,R.le_stk kS88 60 (L true false false) (by rfl)⟩ | exact ⟨by omega,R.le_stk kS88 60 (L true false false) (by rfl)⟩
  have a5:=ha 5 (by unfold tb;decide)
  have h7:=off 7 6 126 hD rfl (by unfold tb;decide)
  have h10:=off 10 6 1023 hD rfl (by unfold tb;decide)
  simp only [a5,h7,h10]
  simp (maxSteps:=400000) (disch:=omega) only [push_cast,↓reduceIte,reduceCtorEq,Nat.reduceAdd,Nat.reduceSub,Nat.reduceEqDiff,Nat.reduceLeDiff,Nat.reduceLT,Nat.reduceBEq,Nat.reduceDiv,Nat.reduceMod,Nat.reducePow,Nat.reduceMul,Int.reduceToNat,Int.reduceLT,Int.reduceLE,R.sl1_t,R.sl1_f,gW,gC,gR,hD]
  refine ⟨rfl,trivial,Rls,dRs,cRs,[⟨LS,NS,mi⟩],rfl,by omega,fun x _=>⟨rfl,rfl⟩,rfl,?_⟩
  simp (maxSteps:=400000) (disch:=omega) only [push_cast,↓reduceIte,reduceCtorEq,Nat.reduceAdd,Nat.reduceSub,Nat.reduceEqDiff,Nat.reduceLeDiff,Nat.reduceLT,Nat.reduceBEq,Nat.reduceDiv,Nat.reduceMod,Nat.reducePow,Nat.reduceMul,Int.reduceToNat,Int.reduceLT,Int.reduceLE,R.sl1_t,R.sl1_f,gW,gC,gR,hD]
  refine R.le_two (le_frzR 147 [0,3,8,9,30,31,32,141,142,143,144,145,146,148,149,150] [19,18,14,16] 60 60 0 203 3 dRs cRs [⟨LS,NS,mi⟩] rfl rfl rfl (R.nOK (by repeat (first | exact rfl | refine R.okc rfl ?_ | refine R.okc (R.oB rfl) ?_)) rfl rfl)) ?_
  first | exact R.le_stk kS88 60 (L true false false) (by rfl) | exact ⟨by decide,R.le_stk kS88 60 (L true false false) (by rfl)⟩ | exact ⟨by omega,R.le_stk kS88 60 (L true false false) (by rfl)⟩
  have a4:=ha 4 (by unfold tb;decide)
  have a5:=ha 5 (by unfold tb;decide)
  have a6:=ha 6 (by unfold tb;decide)
  have h10:=off 10 7 1023 hD rfl (by unfold tb;decide)
  simp only [a4,a5,a6,h10]
  simp (maxSteps:=400000) (disch:=omega) only [push_cast,↓reduceIte,reduceCtorEq,Nat.reduceAdd,Nat.reduceSub,Nat.reduceEqDiff,Nat.reduceLeDiff,Nat.reduceLT,Nat.reduceBEq,Nat.reduceDiv,Nat.reduceMod,Nat.reducePow,Nat.reduceMul,Int.reduceToNat,Int.reduceLT,Int.reduceLE,R.sl1_t,R.sl1_f,gW,gC,gR,hD]
  refine ⟨rfl,⟨Nat.le_of_ble_eq_true rfl,rfl⟩,trivial,[⟨LS,NS,mi⟩],rfl,by first | omega | (simp;omega),by first | omega | (simp;omega),?_⟩
  (refine sy1 ?_;try exact tTI)
  first | exact R.le_stk kS88 60 (L true true false) (by rfl) | exact ⟨by decide,R.le_stk kS88 60 (L true true false) (by rfl)⟩ | exact ⟨by omega,R.le_stk kS88 60 (L true true false) (by rfl)⟩
  have a0:=ha 0 (by unfold tb;decide)
  have a5:=ha 5 (by unfold tb;decide)
  have a7:=ha 7 (by unfold tb;decide)
  have h10:=off 10 8 1023 hD rfl (by unfold tb;decide)
  simp only [a0,a5,a7,h10]
  simp (maxSteps:=400000) (disch:=omega) only [push_cast,↓reduceIte,reduceCtorEq,Nat.reduceAdd,Nat.reduceSub,Nat.reduceEqDiff,Nat.reduceLeDiff,Nat.reduceLT,Nat.reduceBEq,Nat.reduceDiv,Nat.reduceMod,Nat.reducePow,Nat.reduceMul,Int.reduceToNat,Int.reduceLT,Int.reduceLE,R.sl1_t,R.sl1_f,gW,gC,gR,hD]
  first | exact R.le_stk kS88 60 (L true true false) (by rfl) | exact ⟨by decide,R.le_stk kS88 60 (L true true false) (by rfl)⟩ | exact ⟨by omega,R.le_stk kS88 60 (L true true false) (by rfl)⟩
  have a5:=ha 5 (by unfold tb;decide)
  have a7:=ha 7 (by unfold tb;decide)
  have a8:=ha 8 (by unfold tb;decide)
  have h10:=off 10 9 1023 hD rfl (by unfold tb;decide)
  simp only [a5,a7,a8,h10]
  simp (maxSteps:=400000) (disch:=omega) only [push_cast,↓reduceIte,reduceCtorEq,Nat.reduceAdd,Nat.reduceSub,Nat.reduceEqDiff,Nat.reduceLeDiff,Nat.reduceLT,Nat.reduceBEq,Nat.reduceDiv,Nat.reduceMod,Nat.reducePow,Nat.reduceMul,Int.reduceToNat,Int.reduceLT,Int.reduceLE,R.sl1_t,R.sl1_f,gW,gC,gR,hD]
  first | exact R.le_stk kS88 60 (L true true false) (by rfl) | exact ⟨by decide,R.le_stk kS88 60 (L true true false) (by rfl)⟩ | exact ⟨by omega,R.le_stk kS88 60 (L true true false) (by rfl)⟩
  have a5:=ha 5 (by unfold tb;decide)
  have a7:=ha 7 (by unfold tb;decide)
  have a9:=ha 9 (by unfold tb;decide)
  simp only [a5,a7,a9]
  simp (maxSteps:=400000) (disch:=omega) only [push_cast,↓reduceIte,reduceCtorEq,Nat.reduceAdd,Nat.reduceSub,Nat.reduceEqDiff,Nat.reduceLeDiff,Nat.reduceLT,Nat.reduceBEq,Nat.reduceDiv,Nat.reduceMod,Nat.reducePow,Nat.reduceMul,Int.reduceToNat,Int.reduceLT,Int.reduceLE,R.sl1_t,R.sl1_f,gW,gC,gR,hD]
  first | exact R.le_stk kS88 60 (L true true true) (by rfl) | exact ⟨by decide,R.le_stk kS88 60 (L true true true) (by rfl)⟩ | exact ⟨by omega,R.le_stk kS88 60 (L true true true) (by rfl)⟩
 ·have d5:=hD 5 (by decide)
  have d7:=hD 7 (by decide)
  have d10:=hD 10 (by decide)
  refine ⟨_,le.refl _,?_⟩
  unfold gS
  rw [d5,d7,d10]
  exact hQ
open Classical in
noncomputable def gU (l : List Int) (k : Value) : Option Value:=if ∃ s ∈ l,k = .int .i64 s then some (.bool true) else none
theorem gU_nil : gU [] = fun _=>none:=by
 funext k
 unfold gU
 rw [if_neg]
 rintro ⟨s,hs,_⟩;cases hs
theorem gU_snoc (l : List Int) (x : Int) : updG (gU l) (.int .i64 x) (.bool true) = gU (l ++ [x]):=by
 funext k
 unfold updG gU
 by_cases hk : k = .int .i64 x
 ·rw [if_pos hk,if_pos ⟨x,by simp,hk⟩]
 ·rw [if_neg hk]
  by_cases h : ∃ s ∈ l,k = .int .i64 s
  ·obtain ⟨s,hs,e⟩:=h
   rw [if_pos ⟨s,hs,e⟩,if_pos ⟨s,by simp [hs],e⟩]
  ·rw [if_neg h,if_neg]
   rintro ⟨s,hs,e⟩
   rw [List.mem_append,List.mem_singleton] at hs
   rcases hs with hs | rfl
   ·exact h ⟨s,hs,e⟩
   ·exact hk e
theorem gU_in {l : List Int} {x : Int} (h : x ∈ l) : valG (gU l) (.bool false) (.int .i64 x) = .bool true:=by
 unfold valG gU
 rw [if_pos ⟨x,h,rfl⟩];rfl
theorem gU_out {l : List Int} {x : Int} (h : x ∉ l) : valG (gU l) (.bool false) (.int .i64 x) = .bool false:=by
 unfold valG gU
 rw [if_neg]
 ·rfl
 ·rintro ⟨s,hs,e⟩
  cases e
  exact h hs
theorem okK_int (x : Int) : okK 0 (.int .i64 x):=by
 unfold okK
 rw [if_neg (by decide)]
 exact ⟨x,rfl⟩
open Classical in
noncomputable def dskV (l : List Aut) (t : Trp) : AV:=if dskE l t = 0 then .fp (cDk (dkN l t t.ps.length)) 0 else .v (.pointer none)
theorem fn123 (l : List Aut) (t : Trp) (hl : l.length ≤ 140737488355328) (hg : ∀ a ∈ l,GrA a) (ht : t.ps.length ≤ 140737488355328) : Sy.Fn Tryz.prog 123 [aAu l,aTr t] (.tup [dskV l t,iv (dskE l t)]):=by
 refine Fn_of_W mixed Xt123 rfl ?_
 have c176:=fn176 l hl hg
 have c177:=fn177 t ht
 by_cases h1 : allE l = 0
 rotate_left
 ·have e : dskE l t = allE l:=by unfold dskE;rw [if_neg h1]
  have e2 : dskV l t = .v (.pointer none):=by unfold dskV;rw [e,if_neg h1]
  rw [e,e2]
  generalize allE l = E at *
  (refine go_c c176 ?_;try exact tTI)
  refine W_cond (by rfl) (fun _=>?_) (fun h=>absurd (by simpa using h) h1)
  (refine go0 ?_;try exact tTI)
  exact W_ret ⟨[_,_],⟨rfl,rfl,rfl⟩,rfl⟩
 rw [h1] at c176
 (refine go_c c176 ?_;try exact tTI)
 refine W_cond (by rfl) (fun h=>by cases h) (fun _=>?_)
 by_cases h2 : trpE t = 0
 rotate_left
 ·have e : dskE l t = trpE t:=by unfold dskE;rw [if_pos h1,if_neg h2]
  have e2 : dskV l t = .v (.pointer none):=by unfold dskV;rw [e,if_neg h2]
  rw [e,e2]
  generalize trpE t = E at *
  (refine go_c c177 ?_;try exact tTI)
  refine W_cond (by rfl) (fun _=>?_) (fun h=>absurd (by simpa using h) h2)
  (refine go0 ?_;try exact tTI)
  exact W_ret ⟨[_,_],⟨rfl,rfl,rfl⟩,rfl⟩
 rw [h2] at c177
 (refine go_c c177 ?_;try exact tTI)
 refine W_cond (by rfl) (fun h=>by cases h) (fun _=>?_)
 repeat (first | refine WK_go ?_ | refine W_seqL ?_ | refine W_seq ?_ | refine W_block ?_)
 refine W_skip ?_
 (refine sy1 ?_;try exact tTI)
 repeat (first | refine WK_go ?_ | refine W_seqL ?_ | refine W_seq ?_ | refine W_block ?_)
 refine W_regL ?_
 (refine sy1 ?_;try exact tTI)
 repeat (first | refine WK_go ?_ | refine W_seqL ?_ | refine W_seq ?_ | refine W_block ?_)
 refine W_regX [0] ?_
 (refine sCS ?_;try exact tTI)
 refine ⟨[],rfl,rfl,fun b=>?_⟩
 (refine sy1 ?_;try exact tTI)
 refine W_le (le_adoptC 14 0 353 3 dCd cCd (by omega) _ rfl rfl (by simp)) ?_
 (refine sy1 ?_;try exact tTI)
 refine W_le (le_adoptC 14 3 203 3 dRs cRs (by omega) _ rfl rfl (by simp)) ?_
 (refine sy1 ?_;try exact tTI)
 rw [← gU_nil]
 (refine go0 ?_;try exact tTI)
 have hA:=allE_ok h1
 obtain ⟨hT1,hT2,hT3⟩:=trpE_ok h2
 refine W_loopU (fun i : Nat=>[(32,iv i)]) (fun i=>[(19,.row (dkN l t i).ps.length 203 3 dRs cRs (dkN l t i).ps),(18,.row (dkN l t i).cd.length 353 3 dCd cCd (dkN l t i).cd),(14,.cells [.row 18 (dkN l t i).cd.length,iv (dkN l t i).fe,iv (dkN l t i).no,.row 19 (dkN l t i).ps.length]),(16,.oth (.mp b 0 (gU (dkN l t i).us)))])
  (fun i=>i ≤ t.ps.length ∧ ∀ j,j < i → 0 ≤ kA l (t.ps.getD j dPs)) (fun i=>t.ps.length - i) 0 ⟨by omega,fun j hj=>by omega⟩ (by rfl) (by rfl) (fun i hi=>?_)
 obtain ⟨hi,hall⟩:=hi
 have hdk:=dkN_ok hA.2.1 i hi hall
 have hsu:=dkN_succ l t i
 (refine sy1 ?_;try exact tTI)
 (refine go0 ?_;try exact tTI)
 refine W_condD (by rfl) (fun h5=>?_) (fun h5=>?_)
 ·have hlt : i < t.ps.length:=by omega
  have hup : 0 ≤ kA l (t.ps.getD i dPs) → ∀ j,j < i + 1 → 0 ≤ kA l (t.ps.getD j dPs):=fun q=>up_all hall q
  have hbad : kA l (t.ps.getD i dPs) < 0 → dskE l t = 5:=fun q=>by
   unfold dskE
   rw [if_pos h1,if_pos h2,if_neg]
   rw [Bool.not_eq_true]
   exact all_no (d:=dPs) hlt (decide_eq_false (by omega))
  unfold dkS inA at hsu
  have hkr:=idxF_rng (fun a=>a.nm == (t.ps.getD i dPs).au) l
  change -1 ≤ kA l (t.ps.getD i dPs) ∧ kA l (t.ps.getD i dPs) < l.length at hkr
  have c178 : Sy.Fn Tryz.prog 178 [aAu l,.clo 179 [] [.fp (cPs (t.ps.getD i dPs)) 0]] (iv (kA l (t.ps.getD i dPs))):=fn178 l hl 179 [] [.fp (cPs (t.ps.getD i dPs)) 0] (fun a=>a.nm == (t.ps.getD i dPs).au) (fun a ha=>fn179 a _)
  generalize hK : kA l (t.ps.getD i dPs) = k at *
  generalize hX : t.ps.getD i dPs = X at *
  generalize dkN l t i = s at *
  (refine gofg hX c178 ?_;try exact tTI)
  refine W_condD (by rfl) (fun h6=>?_) (fun h6=>?_)
  ·have e:=hbad (by omega)
   have e2 : dskV l t = .v (.pointer none):=by unfold dskV;rw [e,if_neg (by decide)]
   rw [e,e2]
   (refine go0 ?_;try exact tTI)
   exact W_ret ⟨[_,_],⟨rfl,rfl,rfl⟩,rfl⟩
  repeat (first | refine WK_go ?_ | refine W_seqL ?_ | refine W_seq ?_ | refine W_block ?_)
  refine W_skip ?_
  (refine sy1 ?_;try exact tTI)
  repeat (first | refine WK_go ?_ | refine W_seqL ?_)
  have hk0 : 0 ≤ k:=by omega
  have hkl : k.toNat < l.length:=by omega
  have hY:=getD_mem' dAu l k.toNat hkl
  have hYo:=hA.2.1 _ hY
  have hYg:=hg _ hY
  have hfe:=hYo.fe
  have hno:=hYo.no
  have hi24 : i ≤ 24:=by omega
  obtain ⟨k1,k2,k3,k4⟩:=hdk
  have hfe1 : 0 ≤ (dk1 l s k).1 ∧ (dk1 l s k).1 ≤ 26843545600 * i + 1073741824:=by
   unfold dk1
   split
   ·show 0 ≤ s.fe ∧ s.fe ≤ _;omega
   ·show 0 ≤ s.fe + (l.getD k.toNat dAu).fe ∧ s.fe + (l.getD k.toNat dAu).fe ≤ _;omega
  refine W_meet [] [(14,.cells [.row 18 s.cd.length,iv (dk1 l s k).1,iv (dk1 l s k).2,.row 19 s.ps.length]),(16,.oth (.mp b 0 (gU (if k ∈ s.us then s.us else s.us ++ [k]))))] ?_ ?_
  ·repeat (first | refine WK_go ?_ | refine W_seqL ?_ | refine W_seq ?_ | refine W_block ?_)
   refine W_regX [2] ?_
   (refine sCS ?_;try exact tTI)
   refine ⟨[],rfl,16,b,_,.int .i64 k,rfl,rfl,rfl,fun _=>okK_int k,?_⟩
   by_cases hin : k ∈ s.us
   ·rw [gU_in hin]
    (refine sy1 ?_;try exact tTI)
    refine W_cond (by rfl) (fun h=>by cases h) (fun _=>?_)
    refine W_skip ?_
    (refine sy1 ?_;try exact tTI)
    have ed : dk1 l s k = (s.fe,s.no):=if_pos hin
    rw [ed,if_pos hin]
    refine ⟨by rfl,?_⟩
    (refine syE ?_;try exact tTI)
   ·rw [gU_out hin]
    (refine sy1 ?_;try exact tTI)
    refine W_cond (by rfl) (fun _=>?_) (fun h=>by cases h)
    repeat (first | refine WK_go ?_ | refine W_seqL ?_ | refine W_seq ?_ | refine W_block ?_)
    refine W_regX [2] ?_
    (refine sCS ?_;try exact tTI)
    refine ⟨[],rfl,rfl,16,b,_,.int .i64 k,.bool true,rfl,rfl,rfl,okK_int k,rfl,?_⟩
    rw [gU_snoc]
    have ed : dk1 l s k = (s.fe + (l.getD k.toNat dAu).fe,max s.no (l.getD k.toNat dAu).no):=if_neg hin
    rw [ed,if_neg hin]
    generalize hYe : l.getD k.toNat dAu = Y at *
    (refine sy1 ?_;try exact tTI)
    (refine gof hYe ?_;try exact tTI)
    rfl
  generalize hYe : l.getD k.toNat dAu = Y at *
  generalize (dk1 l s k).1 = F1 at *
  generalize (dk1 l s k).2 = N1 at *
  generalize (if k ∈ s.us then s.us else s.us ++ [k]) = U1 at *
  (refine sy1 ?_;try exact tTI)
  have hpm:=hT3 _ (hX ▸ getD_mem' dPs t.ps i hlt)
  (refine gof hYe ?_;try exact tTI)
  refine W_le (le_adoptC 40 0 195 11 dRu cRu (by omega) _ rfl rfl (by simp)) ?_
  (refine sy1 ?_;try exact tTI)
  refine W_le (le_adoptC 40 1 3 1 (0 : Int) cI (by omega) _ rfl rfl (by simp)) ?_
  (refine sy1 ?_;try exact tTI)
  obtain ⟨P,hP⟩ : ∃ P : Rul → Bool,P = fun r=>forB r X.rd t.sz:=⟨_,rfl⟩
  rw [← hP] at hsu
  refine W_loopU (fun n : Nat=>[(86,iv n)]) (fun n=>[(50,.row (inN P Y.ru i k ⟨[],[],s.cd,F1⟩ n).ns.length 3 1 0 cI (inN P Y.ru i k ⟨[],[],s.cd,F1⟩ n).ns),(49,.row (inN P Y.ru i k ⟨[],[],s.cd,F1⟩ n).ls.length 195 11 dRu cRu (inN P Y.ru i k ⟨[],[],s.cd,F1⟩ n).ls),(18,.row (inN P Y.ru i k ⟨[],[],s.cd,F1⟩ n).cd.length 353 3 dCd cCd (inN P Y.ru i k ⟨[],[],s.cd,F1⟩ n).cd),(14,.cells [.row 18 (inN P Y.ru i k ⟨[],[],s.cd,F1⟩ n).cd.length,iv (inN P Y.ru i k ⟨[],[],s.cd,F1⟩ n).fe,iv N1,.row 19 s.ps.length]),(40,.cells [.row 49 (inN P Y.ru i k ⟨[],[],s.cd,F1⟩ n).ls.length,.row 50 (inN P Y.ru i k ⟨[],[],s.cd,F1⟩ n).ns.length,iv X.mi])])
   (fun n=>n ≤ Y.ru.length) (fun n=>Y.ru.length - n) 0 (by omega) (by rfl) (by rfl) (fun n hn=>?_)
  have hIn : (0 ≤ (inN P Y.ru i k ⟨[],[],s.cd,F1⟩ n).fe ∧ (inN P Y.ru i k ⟨[],[],s.cd,F1⟩ n).fe ≤ 26843545600 * i + 1073741824 + 1073741824 * n) ∧ (inN P Y.ru i k ⟨[],[],s.cd,F1⟩ n).cd.length ≤ s.cd.length + n ∧ (inN P Y.ru i k ⟨[],[],s.cd,F1⟩ n).ls.length ≤ 0 + n ∧ (inN P Y.ru i k ⟨[],[],s.cd,F1⟩ n).ls.length = (inN P Y.ru i k ⟨[],[],s.cd,F1⟩ n).ns.length:=inN_ok (P:=P) (i:=(i : Int)) (k:=k) (s:=⟨[],[],s.cd,F1⟩) hYo.ru (F:=26843545600 * i + 1073741824) hfe1 rfl n hn
  have hsc:=inN_succ P Y.ru i k ⟨[],[],s.cd,F1⟩ n
  have hn24:=hYo.n
  unfold inS at hsc
  (refine sy1 ?_;try exact tTI)
  (refine go0 ?_;try exact tTI)
  refine W_condD (by rfl) (fun h7=>?_) (fun h7=>?_)
  ·have hnl : n < Y.ru.length:=by omega
   have hZ:=getD_mem' dRu Y.ru n hnl
   have hZo:=rulB_ok (hYo.ru _ hZ)
   have c180:=fn180 (Y.ru.getD n dRu) X.rd t.sz (hYg.r _ hZ) hZo.ws
   have hco:=hZo.co
   have hPZ : P (Y.ru.getD n dRu) = forB (Y.ru.getD n dRu) X.rd t.sz:=by rw [hP]
   rw [← hPZ] at c180
   generalize hZe : Y.ru.getD n dRu = Z at *
   generalize inN P Y.ru i k ⟨[],[],s.cd,F1⟩ n = q at *
   (refine gofc hZe c180 ?_;try exact tTI)
   by_cases hf : P Z = true
   rotate_left
   ·rw [if_neg hf] at hsc
    refine W_cond (by rfl) (fun h=>absurd h hf) (fun _=>?_)
    (refine go0 ?_;try exact tTI)
    refine ⟨n + 1,by omega,by omega,by rfl,?_⟩
    rw [hsc]
    (refine syE ?_;try exact tTI)
   ·rw [if_pos hf] at hsc
    refine W_cond (by rfl) (fun _=>?_) (fun h=>absurd hf (by rw [h];decide))
    (refine go0 ?_;try exact tTI)
    refine ⟨rfl,trivial,Rul,dRu,cRu,[Z],rfl,by omega,fun x _=>⟨rfl,rfl⟩,rfl,?_⟩
    (refine sy1 ?_;try exact tTI)
    refine ⟨rfl,⟨Nat.le_of_ble_eq_true rfl,rfl⟩,trivial,[Z],rfl,by first | omega | (simp;omega),by first | omega | (simp;omega),?_⟩
    (refine sy1 ?_;try exact tTI)
    refine ⟨rfl,trivial,Int,0,cI,[(q.cd.length : Int)],rfl,by omega,fun x _=>⟨rfl,rfl⟩,rfl,?_⟩
    (refine sy1 ?_;try exact tTI)
    refine ⟨rfl,⟨Nat.le_of_ble_eq_true rfl,rfl⟩,trivial,[(q.cd.length : Int)],rfl,by first | omega | (simp;omega),by first | omega | (simp;omega),?_⟩
    (refine sy1 ?_;try exact tTI)
    (refine go0 ?_;try exact tTI)
    refine ⟨rfl,trivial,Cnd,dCd,cCd,[⟨i,k,n⟩],rfl,by omega,fun x _=>⟨rfl,rfl⟩,rfl,?_⟩
    (refine sy1 ?_;try exact tTI)
    refine ⟨rfl,⟨Nat.le_of_ble_eq_true rfl,rfl⟩,trivial,[⟨i,k,n⟩],rfl,by first | omega | (simp;omega),by first | omega | (simp;omega),?_⟩
    (refine sy1 ?_;try exact tTI)
    (refine go0 ?_;try exact tTI)
    refine ⟨n + 1,by omega,by omega,by rfl,?_⟩
    rw [hsc]
    simp only [List.length_append,List.length_singleton]
    (refine syE ?_;try exact tTI)
  obtain rfl : n = Y.ru.length:=by omega
  refine w1e ?_
  (refine sy1 ?_;try exact tTI)
  generalize inN P Y.ru i k ⟨[],[],s.cd,F1⟩ Y.ru.length = q at *
  refine w1g ?_
  have hm : ∀ j,lm (gM b (gU U1) q.cd q.fe N1 s.ps ⟨q.ls,q.ns,X.mi⟩ false false false) j = lm [(50,.row q.ns.length 3 1 0 cI q.ns),(49,.row q.ls.length 195 11 dRu cRu q.ls),(19,.row s.ps.length 203 3 dRs cRs s.ps),(18,.row q.cd.length 353 3 dCd cCd q.cd),(14,.cells [.row 18 q.cd.length,iv q.fe,iv N1,.row 19 s.ps.length]),(16,.oth (.mp b 0 (gU U1))),(40,.cells [.row 49 q.ls.length,.row 50 q.ns.length,iv X.mi])] j:=fun j=>by
   by_cases j1 : j = 50
   ·subst j1;rfl
   by_cases j2 : j = 49
   ·subst j2;rfl
   by_cases j3 : j = 19
   ·subst j3;rfl
   by_cases j4 : j = 18
   ·subst j4;rfl
   by_cases j5 : j = 14
   ·subst j5;rfl
   by_cases j6 : j = 16
   ·subst j6;rfl
   by_cases j7 : j = 40
   ·subst j7;rfl
   simp only [gM,gR,lm,if_neg j1,if_neg j2,if_neg j3,if_neg j4,if_neg j5,if_neg j6,if_neg j7]
  refine d88 l t i b (gU U1) q.cd q.fe N1 s.ps q.ls q.ns X.mi (by omega) (R.le_two (le_to [0,3,8,9,30,31,32,13] [50,49,19,18,14,16,40] 60 (by rfl) rfl) (R.le_two (le_same _ 60 hm (fun j hj=>gM_no _ _ _ _ _ _ _ _ _ _ j hj)) (R.le_stk kS88 60 (fun j hj=>gM_no _ _ _ _ _ _ _ _ _ _ j hj) (by rfl)))) ?_
  (refine sy1 ?_;try exact tTI)
  (refine go0 ?_;try exact tTI)
  refine ⟨i + 1,⟨by omega,hup hk0⟩,by omega,by rfl,?_⟩
  rw [hsu]
  simp only [List.length_append,List.length_singleton]
  (refine syE ?_;try exact tTI)
 obtain rfl : i = t.ps.length:=by omega
 have e0 : dskE l t = 0:=by
  unfold dskE
  rw [if_pos h1,if_pos h2,if_pos (all_yes (d:=dPs) fun j hj=>decide_eq_true (hall j hj))]
 have e1 : dskV l t = .fp (cDk (dkN l t t.ps.length)) 0:=by unfold dskV;rw [if_pos e0]
 rw [e0,e1]
 generalize dkN l t t.ps.length = s at *
 refine w1e ?_
 (refine sy1 ?_;try exact tTI)
 refine w1g ?_
 refine W_le (le_frzO 8 [] [] 25 14 0 _ (cDk s) rfl rfl rfl (.row rfl rfl (.same rfl (.same rfl (.row rfl rfl .nil)))) (by rfl)) ?_
 (refine sy1 ?_;try exact tTI)
 (refine go0 ?_;try exact tTI)
 exact W_ret ⟨[_,_],⟨rfl,rfl,rfl⟩,rfl⟩
open Classical in
noncomputable def pmV (l : List Aut) (t : Trp) : List AV:=if dskE l t = 0 then [aCd (dkN l t t.ps.length).cd,iv (dkN l t t.ps.length).fe,iv (dkN l t t.ps.length).no] else [.v (.slice none 0 0),iv 0,iv 0]
theorem fn85 (l : List Aut) (t : Trp) (hl : l.length ≤ 140737488355328) (hg : ∀ a ∈ l,GrA a) (ht : t.ps.length ≤ 140737488355328) : Sy.Fn Tryz.prog 85 [aAu l,aTr t] (.tup [.agg (pmV l t),iv (dskE l t)]):=by
 refine Fn_of_W mixed Xt85 rfl ?_
 have c123:=fn123 l t hl hg ht
 unfold pmV
 by_cases h : dskE l t = 0
 ·have e1 : dskV l t = .fp (cDk (dkN l t t.ps.length)) 0:=by unfold dskV;rw [if_pos h]
  rw [if_pos h,h]
  rw [e1,h] at c123
  generalize dkN l t t.ps.length = s at *
  (refine go_c c123 ?_;try exact tTI)
  refine W_cond (by rfl) (fun h=>by cases h) (fun _=>?_)
  (refine go0 ?_;try exact tTI)
  exact W_ret ⟨[_,_],⟨⟨by simp,rfl⟩,rfl,rfl⟩,rfl⟩
 ·have e1 : dskV l t = .v (.pointer none):=by unfold dskV;rw [if_neg h]
  rw [if_neg h]
  rw [e1] at c123
  generalize dskE l t = E at *
  (refine go_c c123 ?_;try exact tTI)
  refine W_cond (by rfl) (fun _=>?_) (fun q=>absurd (by simpa using q) h)
  (refine go0 ?_;try exact tTI)
  exact W_ret ⟨[_,_],⟨⟨by simp,rfl⟩,rfl,rfl⟩,rfl⟩
def lieB (x a b : Int) : Bool:=if a < b then inR x a (b - 1) else decide (a ≤ x) || decide (x < b)
def dayB (r : Rul) (d : Int) : Bool:=!r.fb && bits BinOp.and IntKind.i64 r.dy (IntKind.i64.wrap (1 * 2 ^ min (d % 7).toNat IntKind.i64.bits)) != 0 && lieB (d % 365) r.s0 r.s1
def alwB (r : Rul) (a : Int) : Bool:=dayB r (a / 1440) && lieB (a % 1440) r.h0 r.h1
def allB (l : List Rul) (a : Int) : Bool:=!l.any fun r=>!alwB r a
structure OkR (s : Rls) : Prop where
 n : s.ls.length ≤ 24
 r : ∀ r ∈ s.ls,rulB r = true
def nxP (l : List Rul) (mi a b s : Int) : Prop:=a ≤ s ∧ s < b ∧ ∀ x,s ≤ x → x < s + mi → allB l x = true
open Classical in
noncomputable def lst (P : Int → Prop) : Option Int:=if h : ∃ s,P s ∧ ∀ s',P s' → s ≤ s' then some h.choose else none
structure WI (l : List Rul) (mi a b : Int) (st x : Int) : Prop where
 w : st = -1 ∨ (a ≤ st ∧ 0 ≤ st ∧ st < x ∧ ∀ y,st ≤ y → y < x → allB l y = true)
 no : ∀ s,nxP l mi a b s → (if st < 0 then x else st) ≤ s
 lo : a ≤ x
section
variable {l : List Rul} {mi a b st x : Int}
end
abbrev tT (s : Rls) (a b : Int) : List (Nat × AV):=[(8,.own 1 0),(9,.own 2 0),(10,.own 10 0),(12,.own 22 0),(39,.clo 125 [] [.fp [iv a] 0,.fp [iv (b + s.mi)] 0,.fp [.fp (cRs s) 0] 0])]
abbrev cW (t : Trp) : List AV:=[.v (.string ⟨#[]⟩),.v (.slice none 0 0),.v (.slice none 0 0),iv 0,.v (.slice none 0 0),.v (.slice none 0 0),.v (.slice none 0 0),iv 0,iv 0,.v (.string ⟨#[]⟩),.v (.slice none 0 0),iv 0,iv 0,iv 0,iv 0,iv 0,.v (.slice none 0 0),bv false,iv (t.sz 0),iv (t.sz 1),iv (t.sz 2),iv (t.sz 3),iv (t.sz 4),iv (t.sz 5),aPs t.ps,iv 0]
end Go.Proofs.YtgiedelaebdooaaGreat.P
