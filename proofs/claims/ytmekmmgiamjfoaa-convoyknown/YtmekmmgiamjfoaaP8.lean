/- Part 8 of the proof of: The chapter's examples hold: begin, hold, end, close, tell and the plans between them. -/
import Derived.Test.YtmekmmgiamjfoaaP7
namespace Go.Proofs.Ytmekmmgiamjfoaa.P
open Go Sy
set_option maxRecDepth 100000
set_option maxHeartbeats 8000000
set_option linter.unusedVariables false
set_option linter.unusedSimpArgs false
def cRs (x : Rls) : List AV:=[aRu x.ls,aI x.ns,iv x.mi]
theorem nRs0 (x : Rls) : nth (cRs x) 0 = aRu x.ls:=rfl
theorem nRs1 (x : Rls) : nth (cRs x) 1 = aI x.ns:=rfl
theorem nRs2 (x : Rls) : nth (cRs x) 2 = iv x.mi:=rfl
theorem lRs (x : Rls) : (cRs x).length = 3:=rfl
theorem frRs (x : Rls) : frzAll (cRs x) = true:=rfl
theorem tRs (x : Rls) : List.take 3 (List.drop 0 (cRs x)) = cRs x:=rfl
theorem uRs (x : Rls) : List.take 3 (cRs x) = cRs x:=rfl
theorem iRs {m : Nat → Option Blk} {n : Nat} (x : Rls) : List.flatMap (ids m n) (cRs x) = []:=flat_frz n _ (frRs x)
theorem vRs {m : Nat → Option Blk} {n : Nat} (x : Rls) : List.map (view m n) (cRs x) = cRs x:=viewL_frz n _ (frRs x)
abbrev aRs (l : List Rls) : AV:=.sl 3 dRs cRs l
attribute [push_cast] nRs0 nRs1 nRs2 lRs frRs tRs uRs iRs vRs
abbrev cDk (s : Dk) : List AV:=[aCd s.cd,iv s.fe,iv s.no,aRs s.ps]
def gW (PS : List Rls) (R : Rls) : Bool → Blk
 |true=>.row (PS.length + 1) 114 3 dRs cRs (PS ++ [R])
 |false=>.row PS.length 114 3 dRs cRs PS
def gC (cn : Nat) (F N : Int) (n : Nat) : Bool → Blk
 |true=>.cells [.row 18 cn,iv F,iv N,.row 19 (n + 1)]
 |false=>.cells [.row 18 cn,iv F,iv N,.row 19 n]
def gR (R : Rls) : Bool → List (Nat × Blk)
 |true=>[]
 |false=>[(50,.row R.ns.length 3 1 0 cI R.ns),(49,.row R.ls.length 104 11 dRu cRu R.ls),(40,.cells [.row 49 R.ls.length,.row 50 R.ns.length,iv R.mi])]
abbrev gM (b : Nat) (g : Value → Option Value) (CD : List Cnd) (F N : Int) (PS : List Rls) (R : Rls) (x y z : Bool) : List (Nat × Blk):=(19,gW PS R y) :: (18,.row CD.length 127 3 dCd cCd CD) :: (14,gC CD.length F N PS.length z) :: (16,.oth (.mp b 0 g)) :: gR R x
theorem gM_no (b : Nat) (g : Value → Option Value) (CD : List Cnd) (F N : Int) (PS : List Rls) (R : Rls) (x y z : Bool) (q : Nat) (hq : 60 ≤ q) : lm (gM b g CD F N PS R x y z) q = none:=by
 cases x <;> (simp only [gR,lm];repeat rw [if_neg (by omega)])
def kS88 : List Nat:=[0,3,8,9,30,31,32,13,141,142,143,144,145,146,147,148,149,150]
def gS (l : List Aut) (t : Trp) (i : Nat) (b : Nat) (g : Value → Option Value) (CD : List Cnd) (F N : Int) (PS : List Rls) (LS : List Rul) (NS : List Int) (mi : Int) (D : Nat → Bool) : S:=
 ⟨[(0,aAu l),(3,.fp (cTr t) 0),(8,.own 14 0),(9,.v (.map (some b))),(30,aPs t.ps),(31,.v (.int .i64 (t.ps.length : Int))),(32,iv i),(13,R.sl1 (!D 5) (.own 40 0)),(141,R.sl1 (D 0) (.own 14 0)),(142,R.sl1 (D 1) (.own 14 0)),(143,R.sl1 (D 2) (.own 14 0)),(144,R.sl1 (D 3) (.own 14 3)),(145,R.sl1 (D 4) (.row 19 PS.length)),(146,R.sl1 (D 5) (.agg (cRs ⟨LS,NS,mi⟩))),(147,R.sl1 (D 6) (aRs [⟨LS,NS,mi⟩])),(148,R.sl1 (D 7) (.row 19 (PS.length + 1))),(149,R.sl1 (D 8) (.own 14 0)),(150,R.sl1 (D 9) (.own 14 3))],gM b g CD F N PS ⟨LS,NS,mi⟩ (D 5) (D 7) (D 10),60⟩
theorem d88 (l : List Aut) (t : Trp) (i : Nat) (b : Nat) (g : Value → Option Value) (CD : List Cnd) (F N : Int) (PS : List Rls) (LS : List Rul) (NS : List Int) (mi : Int) (hp : PS.length ≤ 1000) {s : S} {Q : Ex → S → Prop}
  (hs : le s (gS l t i b g CD F N PS LS NS mi fun _=>false))
  (hQ : Q .n ⟨[(0,aAu l),(3,.fp (cTr t) 0),(8,.own 14 0),(9,.v (.map (some b))),(30,aPs t.ps),(31,.v (.int .i64 (t.ps.length : Int))),(32,iv i)],[(19,.row (PS.length + 1) 114 3 dRs cRs (PS ++ [⟨LS,NS,mi⟩])),(18,.row CD.length 127 3 dCd cCd CD),(14,.cells [.row 18 CD.length,iv F,iv N,.row 19 (PS.length + 1)]),(16,.oth (.mp b 0 g))],60⟩) :
  W Try.prog 153 Xn49_88 s Q:=by
 have L : ∀ (x y z : Bool) (q : Nat),60 ≤ q → lm (gM b g CD F N PS ⟨LS,NS,mi⟩ x y z) q = none:=fun x y z q hq=>gM_no b g CD F N PS _ x y z q hq
 refine W_regJ (gS l t i b g CD F N PS LS NS mi) hs (fun D i' ro m hro hms hD ha hcl=>?_) (fun D hD=>?_)
 ·have off : ∀ (x y w : Nat),D y = false → [0,0,2,6,14,0,32,126,255,511,1023][x]? = some w → tb w y → D x = false:=fun x y w hy hw hb=>by
   rw [← Bool.not_eq_true]
   intro z
   rw [hcl x w z hw y hb] at hy
   cases hy
  rcases i' with _ | _ | _ | _ | _ | _ | _ | _ | _ | _ | _ | i'
  all_goals simp only [List.getElem?_cons_zero,List.getElem?_cons_succ,List.getElem?_nil,Option.some.injEq,reduceCtorEq] at hro hms
  all_goals subst hro
  all_goals subst hms
  all_goals unfold gS
  have h10:=off 10 0 1023 hD rfl (by unfold tb;decide)
  simp only [h10]
  simp (maxSteps:=400000) (disch:=omega) only [push_cast,↓reduceIte,reduceCtorEq,Nat.reduceAdd,Nat.reduceSub,Nat.reduceEqDiff,Nat.reduceLeDiff,Nat.reduceLT,Nat.reduceBEq,Nat.reduceDiv,Nat.reduceMod,Nat.reducePow,Nat.reduceMul,Int.reduceToNat,Int.reduceLT,Int.reduceLE,R.sl1_t,R.sl1_f,gW,gC,gR,hD]
  first | exact R.le_stk kS88 60 (L _ _ _) (by rfl) | exact ⟨by decide,R.le_stk kS88 60 (L _ _ _) (by rfl)⟩ | exact ⟨by omega,R.le_stk kS88 60 (L _ _ _) (by rfl)⟩
  have h7:=off 7 1 126 hD rfl (by unfold tb;decide)
  have h10:=off 10 1 1023 hD rfl (by unfold tb;decide)
  simp only [h7,h10]
  simp (maxSteps:=400000) (disch:=omega) only [push_cast,↓reduceIte,reduceCtorEq,Nat.reduceAdd,Nat.reduceSub,Nat.reduceEqDiff,Nat.reduceLeDiff,Nat.reduceLT,Nat.reduceBEq,Nat.reduceDiv,Nat.reduceMod,Nat.reducePow,Nat.reduceMul,Int.reduceToNat,Int.reduceLT,Int.reduceLE,R.sl1_t,R.sl1_f,gW,gC,gR,hD]
  first | exact R.le_stk kS88 60 (L _ _ _) (by rfl) | exact ⟨by decide,R.le_stk kS88 60 (L _ _ _) (by rfl)⟩ | exact ⟨by omega,R.le_stk kS88 60 (L _ _ _) (by rfl)⟩
  have a1:=ha 1 (by unfold tb;decide)
  have h7:=off 7 2 126 hD rfl (by unfold tb;decide)
  have h10:=off 10 2 1023 hD rfl (by unfold tb;decide)
  simp only [a1,h7,h10]
  simp (maxSteps:=400000) (disch:=omega) only [push_cast,↓reduceIte,reduceCtorEq,Nat.reduceAdd,Nat.reduceSub,Nat.reduceEqDiff,Nat.reduceLeDiff,Nat.reduceLT,Nat.reduceBEq,Nat.reduceDiv,Nat.reduceMod,Nat.reducePow,Nat.reduceMul,Int.reduceToNat,Int.reduceLT,Int.reduceLE,R.sl1_t,R.sl1_f,gW,gC,gR,hD]
  first | exact R.le_stk kS88 60 (L _ _ _) (by rfl) | exact ⟨by decide,R.le_stk kS88 60 (L _ _ _) (by rfl)⟩ | exact ⟨by omega,R.le_stk kS88 60 (L _ _ _) (by rfl)⟩
  have a2:=ha 2 (by unfold tb;decide)
  have h7:=off 7 3 126 hD rfl (by unfold tb;decide)
  have h10:=off 10 3 1023 hD rfl (by unfold tb;decide)
  simp only [a2,h7,h10]
  simp (maxSteps:=400000) (disch:=omega) only [push_cast,↓reduceIte,reduceCtorEq,Nat.reduceAdd,Nat.reduceSub,Nat.reduceEqDiff,Nat.reduceLeDiff,Nat.reduceLT,Nat.reduceBEq,Nat.reduceDiv,Nat.reduceMod,Nat.reducePow,Nat.reduceMul,Int.reduceToNat,Int.reduceLT,Int.reduceLE,R.sl1_t,R.sl1_f,gW,gC,gR,hD]
  first | exact R.le_stk kS88 60 (L _ _ _) (by rfl) | exact ⟨by decide,R.le_stk kS88 60 (L _ _ _) (by rfl)⟩ | exact ⟨by omega,R.le_stk kS88 60 (L _ _ _) (by rfl)⟩
  have a3:=ha 3 (by unfold tb;decide)
  have h7:=off 7 4 126 hD rfl (by unfold tb;decide)
  have h10:=off 10 4 1023 hD rfl (by unfold tb;decide)
  simp only [a3,h7,h10]
  simp (maxSteps:=400000) (disch:=omega) only [push_cast,↓reduceIte,reduceCtorEq,Nat.reduceAdd,Nat.reduceSub,Nat.reduceEqDiff,Nat.reduceLeDiff,Nat.reduceLT,Nat.reduceBEq,Nat.reduceDiv,Nat.reduceMod,Nat.reducePow,Nat.reduceMul,Int.reduceToNat,Int.reduceLT,Int.reduceLE,R.sl1_t,R.sl1_f,gW,gC,gR,hD]
  first | exact R.le_stk kS88 60 (L _ _ _) (by rfl) | exact ⟨by decide,R.le_stk kS88 60 (L _ _ _) (by rfl)⟩ | exact ⟨by omega,R.le_stk kS88 60 (L _ _ _) (by rfl)⟩
  have h7:=off 7 5 126 hD rfl (by unfold tb;decide)
  have h10:=off 10 5 1023 hD rfl (by unfold tb;decide)
  simp only [h7,h10]
  simp (maxSteps:=400000) (disch:=omega) only [push_cast,↓reduceIte,reduceCtorEq,Nat.reduceAdd,Nat.reduceSub,Nat.reduceEqDiff,Nat.reduceLeDiff,Nat.reduceLT,Nat.reduceBEq,Nat.reduceDiv,Nat.reduceMod,Nat.reducePow,Nat.reduceMul,Int.reduceToNat,Int.reduceLT,Int.reduceLE,R.sl1_t,R.sl1_f,gW,gC,gR,hD]
  refine R.le_two (le_frzG 146 [0,3,8,9,30,31,32,141,142,143,144,145,147,148,149,150] [19,18,14,16] 60 _ (cRs ⟨LS,NS,mi⟩) rfl (.row rfl rfl (.row rfl rfl (.same rfl .nil))) (R.nOK (by repeat (first | exact rfl | refine R.okc rfl ?_ | refine R.okc (R.oB rfl) ?_)) rfl rfl)) ?_
  first | exact R.le_stk kS88 60 (L true false false) (by rfl) | exact ⟨by decide,R.le_stk kS88 60 (L true false false) (by rfl)⟩ | exact ⟨by omega,R.le_stk kS88 60 (L true false false) (by rfl)⟩
  have a5:=ha 5 (by unfold tb;decide)
  have h7:=off 7 6 126 hD rfl (by unfold tb;decide)
  have h10:=off 10 6 1023 hD rfl (by unfold tb;decide)
  simp only [a5,h7,h10]
  simp (maxSteps:=400000) (disch:=omega) only [push_cast,↓reduceIte,reduceCtorEq,Nat.reduceAdd,Nat.reduceSub,Nat.reduceEqDiff,Nat.reduceLeDiff,Nat.reduceLT,Nat.reduceBEq,Nat.reduceDiv,Nat.reduceMod,Nat.reducePow,Nat.reduceMul,Int.reduceToNat,Int.reduceLT,Int.reduceLE,R.sl1_t,R.sl1_f,gW,gC,gR,hD]
  refine ⟨rfl,trivial,Rls,dRs,cRs,[⟨LS,NS,mi⟩],rfl,by omega,fun x _=>⟨rfl,rfl⟩,rfl,?_⟩
  simp (maxSteps:=400000) (disch:=omega) only [push_cast,↓reduceIte,reduceCtorEq,Nat.reduceAdd,Nat.reduceSub,Nat.reduceEqDiff,Nat.reduceLeDiff,Nat.reduceLT,Nat.reduceBEq,Nat.reduceDiv,Nat.reduceMod,Nat.reducePow,Nat.reduceMul,Int.reduceToNat,Int.reduceLT,Int.reduceLE,R.sl1_t,R.sl1_f,gW,gC,gR,hD]
  refine R.le_two (le_frzR 147 [0,3,8,9,30,31,32,141,142,143,144,145,146,148,149,150] [19,18,14,16] 60 60 0 114 3 dRs cRs [⟨LS,NS,mi⟩] rfl rfl rfl (R.nOK (by repeat (first | exact rfl | refine R.okc rfl ?_ | refine R.okc (R.oB rfl) ?_)) rfl rfl)) ?_
  first | exact R.le_stk kS88 60 (L true false false) (by rfl) | exact ⟨by decide,R.le_stk kS88 60 (L true false false) (by rfl)⟩ | exact ⟨by omega,R.le_stk kS88 60 (L true false false) (by rfl)⟩
  have a4:=ha 4 (by unfold tb;decide)
  have a5:=ha 5 (by unfold tb;decide)
  have a6:=ha 6 (by unfold tb;decide)
  have h10:=off 10 7 1023 hD rfl (by unfold tb;decide)
  simp only [a4,a5,a6,h10]
  simp (maxSteps:=400000) (disch:=omega) only [push_cast,↓reduceIte,reduceCtorEq,Nat.reduceAdd,Nat.reduceSub,Nat.reduceEqDiff,Nat.reduceLeDiff,Nat.reduceLT,Nat.reduceBEq,Nat.reduceDiv,Nat.reduceMod,Nat.reducePow,Nat.reduceMul,Int.reduceToNat,Int.reduceLT,Int.reduceLE,R.sl1_t,R.sl1_f,gW,gC,gR,hD]
  refine ⟨rfl,⟨Nat.le_of_ble_eq_true rfl,rfl⟩,trivial,[⟨LS,NS,mi⟩],rfl,by first | omega | (simp;omega),by first | omega | (simp;omega),?_⟩
  (refine sy1 ?_;try exact tTI)
  first | exact R.le_stk kS88 60 (L true true false) (by rfl) | exact ⟨by decide,R.le_stk kS88 60 (L true true false) (by rfl)⟩ | exact ⟨by omega,R.le_stk kS88 60 (L true true false) (by rfl)⟩
  have a0:=ha 0 (by unfold tb;decide)
  have a5:=ha 5 (by unfold tb;decide)
  have a7:=ha 7 (by unfold tb;decide)
  have h10:=off 10 8 1023 hD rfl (by unfold tb;decide)
  simp only [a0,a5,a7,h10]
  simp (maxSteps:=400000) (disch:=omega) only [push_cast,↓reduceIte,reduceCtorEq,Nat.reduceAdd,Nat.reduceSub,Nat.reduceEqDiff,Nat.reduceLeDiff,Nat.reduceLT,Nat.reduceBEq,Nat.reduceDiv,Nat.reduceMod,Nat.reducePow,Nat.reduceMul,Int.reduceToNat,Int.reduceLT,Int.reduceLE,R.sl1_t,R.sl1_f,gW,gC,gR,hD]
  first | exact R.le_stk kS88 60 (L true true false) (by rfl) | exact ⟨by decide,R.le_stk kS88 60 (L true true false) (by rfl)⟩ | exact ⟨by omega,R.le_stk kS88 60 (L true true false) (by rfl)⟩
  have a5:=ha 5 (by unfold tb;decide)
  have a7:=ha 7 (by unfold tb;decide)
  have a8:=ha 8 (by unfold tb;decide)
  have h10:=off 10 9 1023 hD rfl (by unfold tb;decide)
  simp only [a5,a7,a8,h10]
  simp (maxSteps:=400000) (disch:=omega) only [push_cast,↓reduceIte,reduceCtorEq,Nat.reduceAdd,Nat.reduceSub,Nat.reduceEqDiff,Nat.reduceLeDiff,Nat.reduceLT,Nat.reduceBEq,Nat.reduceDiv,Nat.reduceMod,Nat.reducePow,Nat.reduceMul,Int.reduceToNat,Int.reduceLT,Int.reduceLE,R.sl1_t,R.sl1_f,gW,gC,gR,hD]
  first | exact R.le_stk kS88 60 (L true true false) (by rfl) | exact ⟨by decide,R.le_stk kS88 60 (L true true false) (by rfl)⟩ | exact ⟨by omega,R.le_stk kS88 60 (L true true false) (by rfl)⟩
  have a5:=ha 5 (by unfold tb;decide)
  have a7:=ha 7 (by unfold tb;decide)
  have a9:=ha 9 (by unfold tb;decide)
  simp only [a5,a7,a9]
  simp (maxSteps:=400000) (disch:=omega) only [push_cast,↓reduceIte,reduceCtorEq,Nat.reduceAdd,Nat.reduceSub,Nat.reduceEqDiff,Nat.reduceLeDiff,Nat.reduceLT,Nat.reduceBEq,Nat.reduceDiv,Nat.reduceMod,Nat.reducePow,Nat.reduceMul,Int.reduceToNat,Int.reduceLT,Int.reduceLE,R.sl1_t,R.sl1_f,gW,gC,gR,hD]
  first | exact R.le_stk kS88 60 (L true true true) (by rfl) | exact ⟨by decide,R.le_stk kS88 60 (L true true true) (by rfl)⟩ | exact ⟨by omega,R.le_stk kS88 60 (L true true true) (by rfl)⟩
 ·have d5:=hD 5 (by decide)
  have d7:=hD 7 (by decide)
  have d10:=hD 10 (by decide)
  refine ⟨_,le.refl _,?_⟩
  unfold gS
  rw [d5,d7,d10]
  exact hQ
open Classical in
noncomputable def gU (l : List Int) (k : Value) : Option Value:=if ∃ s ∈ l,k = .int .i64 s then some (.bool true) else none
theorem gU_nil : gU [] = fun _=>none:=by
 funext k
 unfold gU
 rw [if_neg]
 rintro ⟨s,hs,_⟩;cases hs
theorem gU_snoc (l : List Int) (x : Int) : updG (gU l) (.int .i64 x) (.bool true) = gU (l ++ [x]):=by
 funext k
 unfold updG gU
 by_cases hk : k = .int .i64 x
 ·rw [if_pos hk,if_pos ⟨x,by simp,hk⟩]
 ·rw [if_neg hk]
  by_cases h : ∃ s ∈ l,k = .int .i64 s
  ·obtain ⟨s,hs,e⟩:=h
   rw [if_pos ⟨s,hs,e⟩,if_pos ⟨s,by simp [hs],e⟩]
  ·rw [if_neg h,if_neg]
   rintro ⟨s,hs,e⟩
   rw [List.mem_append,List.mem_singleton] at hs
   rcases hs with hs | rfl
   ·exact h ⟨s,hs,e⟩
   ·exact hk e
theorem gU_in {l : List Int} {x : Int} (h : x ∈ l) : valG (gU l) (.bool false) (.int .i64 x) = .bool true:=by
 unfold valG gU
 rw [if_pos ⟨x,h,rfl⟩];rfl
theorem gU_out {l : List Int} {x : Int} (h : x ∉ l) : valG (gU l) (.bool false) (.int .i64 x) = .bool false:=by
 unfold valG gU
 rw [if_neg]
 ·rfl
 ·rintro ⟨s,hs,e⟩
  cases e
  exact h hs
theorem okK_int (x : Int) : okK 0 (.int .i64 x):=by
 unfold okK
 rw [if_neg (by decide)]
 exact ⟨x,rfl⟩
open Classical in
noncomputable def dskV (l : List Aut) (t : Trp) : AV:=if dskE l t = 0 then .fp (cDk (dkN l t t.ps.length)) 0 else .v (.pointer none)
theorem fn49 (l : List Aut) (t : Trp) (hl : l.length ≤ 140737488355328) (hg : ∀ a ∈ l,GrA a) (ht : t.ps.length ≤ 140737488355328) : Sy.Fn Try.prog 49 [aAu l,aTr t] (.tup [dskV l t,iv (dskE l t)]):=by
 refine Fn_of_W mixed Xt49 rfl ?_
 have c67:=fn67 l hl hg
 have c68:=fn68 t ht
 by_cases h1 : allE l = 0
 rotate_left
 ·have e : dskE l t = allE l:=by unfold dskE;rw [if_neg h1]
  have e2 : dskV l t = .v (.pointer none):=by unfold dskV;rw [e,if_neg h1]
  rw [e,e2]
  generalize allE l = E at *
  (refine go_c c67 ?_;try exact tTI)
  refine W_cond (by rfl) (fun _=>?_) (fun h=>absurd (by simpa using h) h1)
  (refine go0 ?_;try exact tTI)
  exact W_ret ⟨[_,_],⟨rfl,rfl,rfl⟩,rfl⟩
 rw [h1] at c67
 (refine go_c c67 ?_;try exact tTI)
 refine W_cond (by rfl) (fun h=>by cases h) (fun _=>?_)
 by_cases h2 : trpE t = 0
 rotate_left
 ·have e : dskE l t = trpE t:=by unfold dskE;rw [if_pos h1,if_neg h2]
  have e2 : dskV l t = .v (.pointer none):=by unfold dskV;rw [e,if_neg h2]
  rw [e,e2]
  generalize trpE t = E at *
  (refine go_c c68 ?_;try exact tTI)
  refine W_cond (by rfl) (fun _=>?_) (fun h=>absurd (by simpa using h) h2)
  (refine go0 ?_;try exact tTI)
  exact W_ret ⟨[_,_],⟨rfl,rfl,rfl⟩,rfl⟩
 rw [h2] at c68
 (refine go_c c68 ?_;try exact tTI)
 refine W_cond (by rfl) (fun h=>by cases h) (fun _=>?_)
 repeat (first | refine WK_go ?_ | refine W_seqL ?_ | refine W_seq ?_ | refine W_block ?_)
 refine W_skip ?_
 (refine sy1 ?_;try exact tTI)
 repeat (first | refine WK_go ?_ | refine W_seqL ?_ | refine W_seq ?_ | refine W_block ?_)
 refine W_regL ?_
 (refine sy1 ?_;try exact tTI)
 repeat (first | refine WK_go ?_ | refine W_seqL ?_ | refine W_seq ?_ | refine W_block ?_)
 refine W_regX [0] ?_
 (refine sCS ?_;try exact tTI)
 refine ⟨[],rfl,rfl,fun b=>?_⟩
 (refine sy1 ?_;try exact tTI)
 refine W_le (le_adoptC 14 0 127 3 dCd cCd (by omega) _ rfl rfl (by simp)) ?_
 (refine sy1 ?_;try exact tTI)
 refine W_le (le_adoptC 14 3 114 3 dRs cRs (by omega) _ rfl rfl (by simp)) ?_
 (refine sy1 ?_;try exact tTI)
 rw [← gU_nil]
 (refine go0 ?_;try exact tTI)
 have hA:=allE_ok h1
 obtain ⟨hT1,hT2,hT3⟩:=trpE_ok h2
 refine W_loopU (fun i : Nat=>[(32,iv i)]) (fun i=>[(19,.row (dkN l t i).ps.length 114 3 dRs cRs (dkN l t i).ps),(18,.row (dkN l t i).cd.length 127 3 dCd cCd (dkN l t i).cd),(14,.cells [.row 18 (dkN l t i).cd.length,iv (dkN l t i).fe,iv (dkN l t i).no,.row 19 (dkN l t i).ps.length]),(16,.oth (.mp b 0 (gU (dkN l t i).us)))])
  (fun i=>i ≤ t.ps.length ∧ ∀ j,j < i → 0 ≤ kA l (t.ps.getD j dPs)) (fun i=>t.ps.length - i) 0 ⟨by omega,fun j hj=>by omega⟩ (by rfl) (by rfl) (fun i hi=>?_)
 obtain ⟨hi,hall⟩:=hi
 have hdk:=dkN_ok hA.2.1 i hi hall
 have hsu:=dkN_succ l t i
 (refine sy1 ?_;try exact tTI)
 (refine go0 ?_;try exact tTI)
 refine W_condD (by rfl) (fun h5=>?_) (fun h5=>?_)
 ·have hlt : i < t.ps.length:=by omega
  have hup : 0 ≤ kA l (t.ps.getD i dPs) → ∀ j,j < i + 1 → 0 ≤ kA l (t.ps.getD j dPs):=fun q=>up_all hall q
  have hbad : kA l (t.ps.getD i dPs) < 0 → dskE l t = 5:=fun q=>by
   unfold dskE
   rw [if_pos h1,if_pos h2,if_neg]
   rw [Bool.not_eq_true]
   exact all_no (d:=dPs) hlt (decide_eq_false (by omega))
  unfold dkS inA at hsu
  have hkr:=idxF_rng (fun a=>a.nm == (t.ps.getD i dPs).au) l
  change -1 ≤ kA l (t.ps.getD i dPs) ∧ kA l (t.ps.getD i dPs) < l.length at hkr
  have c69 : Sy.Fn Try.prog 69 [aAu l,.clo 70 [] [.fp (cPs (t.ps.getD i dPs)) 0]] (iv (kA l (t.ps.getD i dPs))):=fn69 l hl 70 [] [.fp (cPs (t.ps.getD i dPs)) 0] (fun a=>a.nm == (t.ps.getD i dPs).au) (fun a ha=>fn70 a _)
  generalize hK : kA l (t.ps.getD i dPs) = k at *
  generalize hX : t.ps.getD i dPs = X at *
  generalize dkN l t i = s at *
  (refine gofg hX c69 ?_;try exact tTI)
  refine W_condD (by rfl) (fun h6=>?_) (fun h6=>?_)
  ·have e:=hbad (by omega)
   have e2 : dskV l t = .v (.pointer none):=by unfold dskV;rw [e,if_neg (by decide)]
   rw [e,e2]
   (refine go0 ?_;try exact tTI)
   exact W_ret ⟨[_,_],⟨rfl,rfl,rfl⟩,rfl⟩
  repeat (first | refine WK_go ?_ | refine W_seqL ?_ | refine W_seq ?_ | refine W_block ?_)
  refine W_skip ?_
  (refine sy1 ?_;try exact tTI)
  repeat (first | refine WK_go ?_ | refine W_seqL ?_)
  have hk0 : 0 ≤ k:=by omega
  have hkl : k.toNat < l.length:=by omega
  have hY:=getD_mem' dAu l k.toNat hkl
  have hYo:=hA.2.1 _ hY
  have hYg:=hg _ hY
  have hfe:=hYo.fe
  have hno:=hYo.no
  have hi24 : i ≤ 24:=by omega
  obtain ⟨k1,k2,k3,k4⟩:=hdk
  have hfe1 : 0 ≤ (dk1 l s k).1 ∧ (dk1 l s k).1 ≤ 26843545600 * i + 1073741824:=by
   unfold dk1
   split
   ·show 0 ≤ s.fe ∧ s.fe ≤ _;omega
   ·show 0 ≤ s.fe + (l.getD k.toNat dAu).fe ∧ s.fe + (l.getD k.toNat dAu).fe ≤ _;omega
  refine W_meet [] [(14,.cells [.row 18 s.cd.length,iv (dk1 l s k).1,iv (dk1 l s k).2,.row 19 s.ps.length]),(16,.oth (.mp b 0 (gU (if k ∈ s.us then s.us else s.us ++ [k]))))] ?_ ?_
  ·repeat (first | refine WK_go ?_ | refine W_seqL ?_ | refine W_seq ?_ | refine W_block ?_)
   refine W_regX [2] ?_
   (refine sCS ?_;try exact tTI)
   refine ⟨[],rfl,16,b,_,.int .i64 k,rfl,rfl,rfl,fun _=>okK_int k,?_⟩
   by_cases hin : k ∈ s.us
   ·rw [gU_in hin]
    (refine sy1 ?_;try exact tTI)
    refine W_cond (by rfl) (fun h=>by cases h) (fun _=>?_)
    refine W_skip ?_
    (refine sy1 ?_;try exact tTI)
    have ed : dk1 l s k = (s.fe,s.no):=if_pos hin
    rw [ed,if_pos hin]
    refine ⟨by rfl,?_⟩
    (refine syE ?_;try exact tTI)
   ·rw [gU_out hin]
    (refine sy1 ?_;try exact tTI)
    refine W_cond (by rfl) (fun _=>?_) (fun h=>by cases h)
    repeat (first | refine WK_go ?_ | refine W_seqL ?_ | refine W_seq ?_ | refine W_block ?_)
    refine W_regX [2] ?_
    (refine sCS ?_;try exact tTI)
    refine ⟨[],rfl,rfl,16,b,_,.int .i64 k,.bool true,rfl,rfl,rfl,okK_int k,rfl,?_⟩
    rw [gU_snoc]
    have ed : dk1 l s k = (s.fe + (l.getD k.toNat dAu).fe,max s.no (l.getD k.toNat dAu).no):=if_neg hin
    rw [ed,if_neg hin]
    generalize hYe : l.getD k.toNat dAu = Y at *
    (refine sy1 ?_;try exact tTI)
    (refine gof hYe ?_;try exact tTI)
    rfl
  generalize hYe : l.getD k.toNat dAu = Y at *
  generalize (dk1 l s k).1 = F1 at *
  generalize (dk1 l s k).2 = N1 at *
  generalize (if k ∈ s.us then s.us else s.us ++ [k]) = U1 at *
  (refine sy1 ?_;try exact tTI)
  have hpm:=hT3 _ (hX ▸ getD_mem' dPs t.ps i hlt)
  (refine gof hYe ?_;try exact tTI)
  refine W_le (le_adoptC 40 0 104 11 dRu cRu (by omega) _ rfl rfl (by simp)) ?_
  (refine sy1 ?_;try exact tTI)
  refine W_le (le_adoptC 40 1 3 1 (0 : Int) cI (by omega) _ rfl rfl (by simp)) ?_
  (refine sy1 ?_;try exact tTI)
  obtain ⟨P,hP⟩ : ∃ P : Rul → Bool,P = fun r=>forB r X.rd t.sz:=⟨_,rfl⟩
  rw [← hP] at hsu
  refine W_loopU (fun n : Nat=>[(86,iv n)]) (fun n=>[(50,.row (inN P Y.ru i k ⟨[],[],s.cd,F1⟩ n).ns.length 3 1 0 cI (inN P Y.ru i k ⟨[],[],s.cd,F1⟩ n).ns),(49,.row (inN P Y.ru i k ⟨[],[],s.cd,F1⟩ n).ls.length 104 11 dRu cRu (inN P Y.ru i k ⟨[],[],s.cd,F1⟩ n).ls),(18,.row (inN P Y.ru i k ⟨[],[],s.cd,F1⟩ n).cd.length 127 3 dCd cCd (inN P Y.ru i k ⟨[],[],s.cd,F1⟩ n).cd),(14,.cells [.row 18 (inN P Y.ru i k ⟨[],[],s.cd,F1⟩ n).cd.length,iv (inN P Y.ru i k ⟨[],[],s.cd,F1⟩ n).fe,iv N1,.row 19 s.ps.length]),(40,.cells [.row 49 (inN P Y.ru i k ⟨[],[],s.cd,F1⟩ n).ls.length,.row 50 (inN P Y.ru i k ⟨[],[],s.cd,F1⟩ n).ns.length,iv X.mi])])
   (fun n=>n ≤ Y.ru.length) (fun n=>Y.ru.length - n) 0 (by omega) (by rfl) (by rfl) (fun n hn=>?_)
  have hIn : (0 ≤ (inN P Y.ru i k ⟨[],[],s.cd,F1⟩ n).fe ∧ (inN P Y.ru i k ⟨[],[],s.cd,F1⟩ n).fe ≤ 26843545600 * i + 1073741824 + 1073741824 * n) ∧ (inN P Y.ru i k ⟨[],[],s.cd,F1⟩ n).cd.length ≤ s.cd.length + n ∧ (inN P Y.ru i k ⟨[],[],s.cd,F1⟩ n).ls.length ≤ 0 + n ∧ (inN P Y.ru i k ⟨[],[],s.cd,F1⟩ n).ls.length = (inN P Y.ru i k ⟨[],[],s.cd,F1⟩ n).ns.length:=inN_ok (P:=P) (i:=(i : Int)) (k:=k) (s:=⟨[],[],s.cd,F1⟩) hYo.ru (F:=26843545600 * i + 1073741824) hfe1 rfl n hn
  have hsc:=inN_succ P Y.ru i k ⟨[],[],s.cd,F1⟩ n
  have hn24:=hYo.n
  unfold inS at hsc
  (refine sy1 ?_;try exact tTI)
  (refine go0 ?_;try exact tTI)
  refine W_condD (by rfl) (fun h7=>?_) (fun h7=>?_)
  ·have hnl : n < Y.ru.length:=by omega
   have hZ:=getD_mem' dRu Y.ru n hnl
   have hZo:=rulB_ok (hYo.ru _ hZ)
   have c71:=fn71 (Y.ru.getD n dRu) X.rd t.sz (hYg.r _ hZ) hZo.ws
   have hco:=hZo.co
   have hPZ : P (Y.ru.getD n dRu) = forB (Y.ru.getD n dRu) X.rd t.sz:=by rw [hP]
   rw [← hPZ] at c71
   generalize hZe : Y.ru.getD n dRu = Z at *
   generalize inN P Y.ru i k ⟨[],[],s.cd,F1⟩ n = q at *
   (refine gofc hZe c71 ?_;try exact tTI)
   by_cases hf : P Z = true
   rotate_left
   ·rw [if_neg hf] at hsc
    refine W_cond (by rfl) (fun h=>absurd h hf) (fun _=>?_)
    (refine go0 ?_;try exact tTI)
    refine ⟨n + 1,by omega,by omega,by rfl,?_⟩
    rw [hsc]
    (refine syE ?_;try exact tTI)
   ·rw [if_pos hf] at hsc
    refine W_cond (by rfl) (fun _=>?_) (fun h=>absurd hf (by rw [h];decide))
    (refine go0 ?_;try exact tTI)
    refine ⟨rfl,trivial,Rul,dRu,cRu,[Z],rfl,by omega,fun x _=>⟨rfl,rfl⟩,rfl,?_⟩
    (refine sy1 ?_;try exact tTI)
    refine ⟨rfl,⟨Nat.le_of_ble_eq_true rfl,rfl⟩,trivial,[Z],rfl,by first | omega | (simp;omega),by first | omega | (simp;omega),?_⟩
    (refine sy1 ?_;try exact tTI)
    refine ⟨rfl,trivial,Int,0,cI,[(q.cd.length : Int)],rfl,by omega,fun x _=>⟨rfl,rfl⟩,rfl,?_⟩
    (refine sy1 ?_;try exact tTI)
    refine ⟨rfl,⟨Nat.le_of_ble_eq_true rfl,rfl⟩,trivial,[(q.cd.length : Int)],rfl,by first | omega | (simp;omega),by first | omega | (simp;omega),?_⟩
    (refine sy1 ?_;try exact tTI)
    (refine go0 ?_;try exact tTI)
    refine ⟨rfl,trivial,Cnd,dCd,cCd,[⟨i,k,n⟩],rfl,by omega,fun x _=>⟨rfl,rfl⟩,rfl,?_⟩
    (refine sy1 ?_;try exact tTI)
    refine ⟨rfl,⟨Nat.le_of_ble_eq_true rfl,rfl⟩,trivial,[⟨i,k,n⟩],rfl,by first | omega | (simp;omega),by first | omega | (simp;omega),?_⟩
    (refine sy1 ?_;try exact tTI)
    (refine go0 ?_;try exact tTI)
    refine ⟨n + 1,by omega,by omega,by rfl,?_⟩
    rw [hsc]
    simp only [List.length_append,List.length_singleton]
    (refine syE ?_;try exact tTI)
  obtain rfl : n = Y.ru.length:=by omega
  refine w1e ?_
  (refine sy1 ?_;try exact tTI)
  generalize inN P Y.ru i k ⟨[],[],s.cd,F1⟩ Y.ru.length = q at *
  refine w1g ?_
  have hm : ∀ j,lm (gM b (gU U1) q.cd q.fe N1 s.ps ⟨q.ls,q.ns,X.mi⟩ false false false) j = lm [(50,.row q.ns.length 3 1 0 cI q.ns),(49,.row q.ls.length 104 11 dRu cRu q.ls),(19,.row s.ps.length 114 3 dRs cRs s.ps),(18,.row q.cd.length 127 3 dCd cCd q.cd),(14,.cells [.row 18 q.cd.length,iv q.fe,iv N1,.row 19 s.ps.length]),(16,.oth (.mp b 0 (gU U1))),(40,.cells [.row 49 q.ls.length,.row 50 q.ns.length,iv X.mi])] j:=fun j=>by
   by_cases j1 : j = 50
   ·subst j1;rfl
   by_cases j2 : j = 49
   ·subst j2;rfl
   by_cases j3 : j = 19
   ·subst j3;rfl
   by_cases j4 : j = 18
   ·subst j4;rfl
   by_cases j5 : j = 14
   ·subst j5;rfl
   by_cases j6 : j = 16
   ·subst j6;rfl
   by_cases j7 : j = 40
   ·subst j7;rfl
   simp only [gM,gR,lm,if_neg j1,if_neg j2,if_neg j3,if_neg j4,if_neg j5,if_neg j6,if_neg j7]
  refine d88 l t i b (gU U1) q.cd q.fe N1 s.ps q.ls q.ns X.mi (by omega) (R.le_two (le_to [0,3,8,9,30,31,32,13] [50,49,19,18,14,16,40] 60 (by rfl) rfl) (R.le_two (le_same _ 60 hm (fun j hj=>gM_no _ _ _ _ _ _ _ _ _ _ j hj)) (R.le_stk kS88 60 (fun j hj=>gM_no _ _ _ _ _ _ _ _ _ _ j hj) (by rfl)))) ?_
  (refine sy1 ?_;try exact tTI)
  (refine go0 ?_;try exact tTI)
  refine ⟨i + 1,⟨by omega,hup hk0⟩,by omega,by rfl,?_⟩
  rw [hsu]
  simp only [List.length_append,List.length_singleton]
  (refine syE ?_;try exact tTI)
 obtain rfl : i = t.ps.length:=by omega
 have e0 : dskE l t = 0:=by
  unfold dskE
  rw [if_pos h1,if_pos h2,if_pos (all_yes (d:=dPs) fun j hj=>decide_eq_true (hall j hj))]
 have e1 : dskV l t = .fp (cDk (dkN l t t.ps.length)) 0:=by unfold dskV;rw [if_pos e0]
 rw [e0,e1]
 generalize dkN l t t.ps.length = s at *
 refine w1e ?_
 (refine sy1 ?_;try exact tTI)
 refine w1g ?_
 refine W_le (le_frzO 8 [] [] 25 14 0 _ (cDk s) rfl rfl rfl (.row rfl rfl (.same rfl (.same rfl (.row rfl rfl .nil)))) (by rfl)) ?_
 (refine sy1 ?_;try exact tTI)
 (refine go0 ?_;try exact tTI)
 exact W_ret ⟨[_,_],⟨rfl,rfl,rfl⟩,rfl⟩
open Classical in
noncomputable def pmV (l : List Aut) (t : Trp) : List AV:=if dskE l t = 0 then [aCd (dkN l t t.ps.length).cd,iv (dkN l t t.ps.length).fe,iv (dkN l t t.ps.length).no] else [.v (.slice none 0 0),iv 0,iv 0]
theorem fn39 (l : List Aut) (t : Trp) (hl : l.length ≤ 140737488355328) (hg : ∀ a ∈ l,GrA a) (ht : t.ps.length ≤ 140737488355328) : Sy.Fn Try.prog 39 [aAu l,aTr t] (.tup [.agg (pmV l t),iv (dskE l t)]):=by
 refine Fn_of_W mixed Xt39 rfl ?_
 have c49:=fn49 l t hl hg ht
 unfold pmV
 by_cases h : dskE l t = 0
 ·have e1 : dskV l t = .fp (cDk (dkN l t t.ps.length)) 0:=by unfold dskV;rw [if_pos h]
  rw [if_pos h,h]
  rw [e1,h] at c49
  generalize dkN l t t.ps.length = s at *
  (refine go_c c49 ?_;try exact tTI)
  refine W_cond (by rfl) (fun h=>by cases h) (fun _=>?_)
  (refine go0 ?_;try exact tTI)
  exact W_ret ⟨[_,_],⟨⟨by simp,rfl⟩,rfl,rfl⟩,rfl⟩
 ·have e1 : dskV l t = .v (.pointer none):=by unfold dskV;rw [if_neg h]
  rw [if_neg h]
  rw [e1] at c49
  generalize dskE l t = E at *
  (refine go_c c49 ?_;try exact tTI)
  refine W_cond (by rfl) (fun _=>?_) (fun q=>absurd (by simpa using q) h)
  (refine go0 ?_;try exact tTI)
  exact W_ret ⟨[_,_],⟨⟨by simp,rfl⟩,rfl,rfl⟩,rfl⟩
noncomputable def fdE (l : List Aut) (t : Trp) (p : Int) : Int:=if dskE l t = 0 then (if 0 ≤ p ∧ p < t.ps.length then 0 else 3) else dskE l t
open Classical in
noncomputable def fdV (l : List Aut) (t : Trp) (p : Int) : AV:=if fdE l t p = 0 then .fp (cRs ((dkN l t t.ps.length).ps.getD p.toNat dRs)) 0 else .v (.pointer none)
theorem dsk_ok {l : List Aut} {t : Trp} (h : dskE l t = 0) : allE l = 0 ∧ trpE t = 0 ∧ (∀ j,j < t.ps.length → 0 ≤ kA l (t.ps.getD j dPs)) ∧ DkOK (dkN l t t.ps.length) t.ps.length:=by
 unfold dskE at h
 by_cases h1 : allE l = 0
 ·rw [if_pos h1] at h
  by_cases h2 : trpE t = 0
  ·rw [if_pos h2] at h
   by_cases h3 : (t.ps.all fun p=>decide (0 ≤ kA l p)) = true
   ·have h4 : ∀ j,j < t.ps.length → 0 ≤ kA l (t.ps.getD j dPs):=fun j hj=>by
     have:=List.all_eq_true.1 h3 _ (getD_mem' dPs t.ps j hj)
     exact of_decide_eq_true this
    exact ⟨h1,h2,h4,dkN_ok (allE_ok h1).2.1 _ (Nat.le_refl _) h4⟩
   ·rw [if_neg h3] at h;omega
  ·rw [if_neg h2] at h;exact absurd h h2
 ·rw [if_neg h1] at h;exact absurd h h1
theorem fn66 (l : List Aut) (t : Trp) (p : Int) (hl : l.length ≤ 140737488355328) (hg : ∀ a ∈ l,GrA a) (ht : t.ps.length ≤ 140737488355328) : Sy.Fn Try.prog 66 [aAu l,aTr t,iv p] (.tup [fdV l t p,iv (fdE l t p)]):=by
 refine Fn_of_W mixed Xt66 rfl ?_
 have c49:=fn49 l t hl hg ht
 by_cases h : dskE l t = 0
 rotate_left
 ·have e1 : dskV l t = .v (.pointer none):=by unfold dskV;rw [if_neg h]
  have e2 : fdE l t p = dskE l t:=by unfold fdE;rw [if_neg h]
  have e3 : fdV l t p = .v (.pointer none):=by unfold fdV;rw [e2,if_neg h]
  rw [e2,e3]
  rw [e1] at c49
  generalize dskE l t = E at *
  (refine go_c c49 ?_;try exact tTI)
  refine W_cond (by rfl) (fun _=>?_) (fun q=>absurd (by simpa using q) h)
  (refine go0 ?_;try exact tTI)
  exact W_ret ⟨[_,_],⟨rfl,rfl,rfl⟩,rfl⟩
 have e1 : dskV l t = .fp (cDk (dkN l t t.ps.length)) 0:=by unfold dskV;rw [if_pos h]
 have hk:=(dsk_ok h).2.2.2
 have hT:=(trpE_ok (dsk_ok h).2.1).1
 rw [e1,h] at c49
 have e2 : fdE l t p = if 0 ≤ p ∧ p < t.ps.length then 0 else 3:=by unfold fdE;rw [if_pos h]
 have e3 : fdV l t p = if fdE l t p = 0 then .fp (cRs ((dkN l t t.ps.length).ps.getD p.toNat dRs)) 0 else .v (.pointer none):=by
  unfold fdV
  split <;> rfl
 have hpl:=hk.ps
 generalize dkN l t t.ps.length = s at *
 (refine go_c c49 ?_;try exact tTI)
 refine W_cond (by rfl) (fun h=>by cases h) (fun _=>?_)
 by_cases hp : 0 ≤ p ∧ p < t.ps.length
 ·rw [if_pos hp] at e2
  rw [e3,e2,if_pos rfl]
  have d1 : decide (p < 0) = false:=decide_eq_false (by omega)
  have d2 : decide ((s.ps.length : Int) ≤ p) = false:=decide_eq_false (by omega)
  (refine gof (ad2 d1 d2) ?_;try exact tTI)
  refine W_cond (by rfl) (fun h=>by cases h) (fun _=>?_)
  (refine go0 ?_;try exact tTI)
  exact W_ret ⟨[_,_],⟨rfl,rfl,rfl⟩,rfl⟩
 ·rw [if_neg hp] at e2
  rw [e3,e2,if_neg (by decide)]
  (refine go0 ?_;try exact tTI)
  refine W_cond (by rfl) (fun _=>?_) (fun q=>?_)
  ·(refine go0 ?_;try exact tTI)
   exact W_ret ⟨[_,_],⟨rfl,rfl,rfl⟩,rfl⟩
  ·simp only [Bool.or_eq_false_iff,decide_eq_false_iff_not] at q
   exact absurd ⟨by omega,by omega⟩ hp
def lieB (x a b : Int) : Bool:=if a < b then inR x a (b - 1) else decide (a ≤ x) || decide (x < b)
theorem fn99 (x a b : Int) (hb : 0 ≤ b ∧ b ≤ 1000000) : Sy.Fn Try.prog 99 [iv x,.agg [iv a,iv b]] (bv (lieB x a b)):=by
 refine Fn_of_W mixed Xt99 rfl ?_
 have c72:=fn72 x a (b - 1)
 unfold lieB
 (refine go0 ?_;try exact tTI)
 refine W_condD (by rfl) (fun h=>?_) (fun h=>?_)
 ·rw [if_pos h]
  (refine go_c c72 ?_;try exact tTI)
  exact W_ret ⟨[_],⟨rfl,rfl⟩,rfl⟩
 ·rw [if_neg h]
  (refine go0 ?_;try exact tTI)
  exact W_ret ⟨[_],⟨rfl,rfl⟩,rfl⟩
theorem fn50 (x : Int) : Sy.Fn Try.prog 50 [iv x] (bv (inR x 0 1099511627776)):=by
 refine Fn_of_W mixed Xt50 rfl ?_
 (refine go_c (fn72 x 0 1099511627776) ?_;try exact tTI)
 exact W_ret ⟨[_],⟨rfl,rfl⟩,rfl⟩
def dayB (r : Rul) (d : Int) : Bool:=!r.fb && bits BinOp.and IntKind.i64 r.dy (IntKind.i64.wrap (1 * 2 ^ min (d % 7).toNat IntKind.i64.bits)) != 0 && lieB (d % 365) r.s0 r.s1
theorem fn93 (r : Rul) (d : Int) (hr : rulB r = true) (hd : 0 ≤ d ∧ d ≤ 1099511627776) : Sy.Fn Try.prog 93 [.agg (cRu r),iv d] (bv (dayB r d)):=by
 refine Fn_of_W mixed Xt93 rfl ?_
 have h:=rulB_ok hr
 have c99:=fn99 (d % 365) r.s0 r.s1 (by have:=h.s1;omega)
 have e1 : d.tmod 365 = d % 365:=Int.tmod_eq_emod_of_nonneg hd.1
 have e2 : d.tmod 7 = d % 7:=Int.tmod_eq_emod_of_nonneg hd.1
 unfold dayB
 generalize lieB (d % 365) r.s0 r.s1 = x1 at *
 (refine gofg (ad2 e1 e2) c99 ?_;try exact tTI)
 exact W_ret ⟨[_],⟨rfl,rfl⟩,rfl⟩
def alwB (r : Rul) (a : Int) : Bool:=dayB r (a / 1440) && lieB (a % 1440) r.h0 r.h1
theorem fn85 (r : Rul) (a : Int) (hr : rulB r = true) (ha : 0 ≤ a ∧ a ≤ 1099511627776000) : Sy.Fn Try.prog 85 [.agg (cRu r),iv a] (bv (alwB r a)):=by
 refine Fn_of_W mixed Xt85 rfl ?_
 have h:=rulB_ok hr
 have c93:=fn93 r (a / 1440) hr (by omega)
 have c99:=fn99 (a % 1440) r.h0 r.h1 (by have:=h.h1;omega)
 have e1 : a.tdiv 1440 = a / 1440:=Int.tdiv_eq_ediv_of_nonneg ha.1
 have e2 : a.tmod 1440 = a % 1440:=Int.tmod_eq_emod_of_nonneg ha.1
 unfold alwB
 generalize dayB r (a / 1440) = x1 at *
 generalize lieB (a % 1440) r.h0 r.h1 = x2 at *
 (refine gofcg (ad2 e1 e2) c93 c99 ?_;try exact tTI)
 exact W_ret ⟨[_],⟨rfl,rfl⟩,rfl⟩
theorem fn100 (r : Rul) (a : Int) (hr : rulB r = true) (ha : 0 ≤ a ∧ a ≤ 1099511627776000) : Sy.Fn Try.prog 100 ([] ++ [.agg (cRu r)] ++ [.fp [iv a] 0]) (bv (!alwB r a)):=by
 refine Fn_of_W mixed Xt100 rfl ?_
 have c85:=fn85 r a hr ha
 generalize alwB r a = x1 at *
 (refine go_c c85 ?_;try exact tTI)
 exact W_ret ⟨[_],⟨rfl,rfl⟩,rfl⟩
def allB (l : List Rul) (a : Int) : Bool:=!l.any fun r=>!alwB r a
structure OkR (s : Rls) : Prop where
 n : s.ls.length ≤ 24
 r : ∀ r ∈ s.ls,rulB r = true
theorem fn90 (s : Rls) (a : Int) (hs : OkR s) (ha : 0 ≤ a ∧ a ≤ 1099511627776000) : Sy.Fn Try.prog 90 [.fp (cRs s) 0,iv a] (bv (allB s.ls a)):=by
 refine Fn_of_W mixed Xt90 rfl ?_
 have c91:=fn91 s.ls (by have:=hs.n;omega) 100 [] [.fp [iv a] 0] (fun r=>!alwB r a) (fun r hr=>fn100 r a (hs.r r hr) ha)
 unfold allB
 generalize (s.ls.any fun r=>!alwB r a) = x1 at *
 (refine go_c c91 ?_;try exact tTI)
 exact W_ret ⟨[_],⟨rfl,rfl⟩,rfl⟩
theorem fn92 (r : Rul) (a : Int) (hr : rulB r = true) (ha : 0 ≤ a ∧ a ≤ 1099511627776000) : Sy.Fn Try.prog 92 ([] ++ [.agg (cRu r)] ++ [.fp [iv a] 0]) (bv (!dayB r (a / 1440))):=by
 refine Fn_of_W mixed Xt92 rfl ?_
 have c93:=fn93 r (a / 1440) hr (by omega)
 have e1 : a.tdiv 1440 = a / 1440:=Int.tdiv_eq_ediv_of_nonneg ha.1
 generalize dayB r (a / 1440) = x1 at *
 (refine gofc e1 c93 ?_;try exact tTI)
 exact W_ret ⟨[_],⟨rfl,rfl⟩,rfl⟩
theorem fn78 (s : Rls) (a b : Int) : Sy.Fn Try.prog 78 [.fp (cRs s) 0,iv a,iv b] (.clo 89 [] [.fp [iv a] 0,.fp [iv b] 0,.fp [.fp (cRs s) 0] 0]):=by
 refine Fn_of_W mixed Xt78 rfl ?_
 (refine go0 ?_;try exact tTI)
 exact W_ret ⟨[_],⟨rfl,rfl⟩,rfl⟩
def nxP (l : List Rul) (mi a b s : Int) : Prop:=a ≤ s ∧ s < b ∧ ∀ x,s ≤ x → x < s + mi → allB l x = true
open Classical in
noncomputable def lst (P : Int → Prop) : Option Int:=if h : ∃ s,P s ∧ ∀ s',P s' → s ≤ s' then some h.choose else none
theorem lst_at {P : Int → Prop} {s : Int} (h : P s) (hl : ∀ s',P s' → s ≤ s') : lst P = some s:=by
 have hx : ∃ s,P s ∧ ∀ s',P s' → s ≤ s':=⟨s,h,hl⟩
 unfold lst
 rw [dif_pos hx]
 have h1:=hx.choose_spec
 congr 1
 exact Int.le_antisymm (h1.2 _ h) (hl _ h1.1)
theorem lst_no {P : Int → Prop} (h : ∀ s,¬ P s) : lst P = none:=by
 unfold lst
 rw [dif_neg]
 rintro ⟨s,hs,_⟩
 exact h s hs
theorem lst_some {P : Int → Prop} {s : Int} (h : lst P = some s) : P s ∧ ∀ s',P s' → s ≤ s':=by
 unfold lst at h
 split at h
 ·rename_i hx
  cases h
  exact hx.choose_spec
 ·cases h
structure WI (l : List Rul) (mi a b : Int) (st x : Int) : Prop where
 w : st = -1 ∨ (a ≤ st ∧ 0 ≤ st ∧ st < x ∧ ∀ y,st ≤ y → y < x → allB l y = true)
 no : ∀ s,nxP l mi a b s → (if st < 0 then x else st) ≤ s
 lo : a ≤ x
section
variable {l : List Rul} {mi a b st x : Int}
theorem wi_ini : WI l mi a b (-1) a:=⟨.inl rfl,fun s hs=>by rw [if_pos (by omega)];exact hs.1,Int.le_refl _⟩
theorem wi_in (h : WI l mi a b st x) (ha : 0 ≤ a) (hx : allB l x = true) : WI l mi a b (if st < 0 then x else st) (x + 1):=by
 have hl:=h.lo
 by_cases hs : st < 0
 ·rw [if_pos hs]
  refine ⟨.inr ⟨hl,by omega,by omega,fun y h1 h2=>?_⟩,fun s q=>?_,by omega⟩
  ·obtain rfl : y = x:=by omega
   exact hx
  ·have:=h.no s q
   rw [if_pos hs] at this
   rw [if_neg (by omega)];exact this
 ·rw [if_neg hs]
  rcases h.w with q | ⟨q1,q2,q3,q4⟩
  ·omega
  ·refine ⟨.inr ⟨q1,q2,by omega,fun y h1 h2=>?_⟩,fun s q=>?_,by omega⟩
   ·by_cases e : y = x
    ·rw [e];exact hx
    ·exact q4 y h1 (by omega)
   ·have:=h.no s q
    rw [if_neg hs] at this ⊢;exact this
theorem wi_hit (h : WI l mi a b st x) (h0 : 0 ≤ st) (hb : st < b) (hm : mi ≤ x - st) : lst (nxP l mi a b) = some st:=by
 rcases h.w with q | ⟨q1,q2,q3,q4⟩
 ·omega
 ·refine lst_at ⟨q1,hb,fun y h1 h2=>q4 y h1 (by omega)⟩ fun s hs=>?_
  have:=h.no s hs
  rwa [if_neg (by omega)] at this
theorem wi_late (h : WI l mi a b st x) (h0 : 0 ≤ st) (hb : b ≤ st) : lst (nxP l mi a b) = none:=lst_no fun s hs=>by
 have:=h.no s hs
 rw [if_neg (by omega)] at this
 have:=hs.2.1
 omega
theorem wi_out (h : WI l mi a b st x) (hmi : 1 ≤ mi) (hx : x = b + mi ∨ allB l x = false) (hm : 0 ≤ st → x - st < mi) (hxb : x ≤ b + mi) : ∀ s,nxP l mi a b s → x + 1 ≤ s:=fun s hs=>by
 have h1:=h.no s hs
 obtain ⟨s1,s2,s3⟩:=hs
 apply Classical.byContradiction
 intro hc
 have hle : s ≤ x:=by omega
 have hlt : x < s + mi:=by
  by_cases q : st < 0
  ·rw [if_pos q] at h1;omega
  ·rw [if_neg q] at h1
   have:=hm (by omega)
   omega
 rcases hx with hx | hx
 ·omega
 ·rw [s3 x hle hlt] at hx;cases hx
theorem wi_none (h : WI l mi a b (-1) x) (hmi : 1 ≤ mi) (hx : b ≤ x) : lst (nxP l mi a b) = none:=lst_no fun s hs=>by
 have:=h.no s hs
 rw [if_pos (by omega)] at this
 have:=hs.2.1
 omega
theorem all_day {r : Rul} (hr : r ∈ l) {y : Int} (h : dayB r (y / 1440) = false) : allB l y = false:=by
 unfold allB
 rw [Bool.not_eq_false',List.any_eq_true]
 refine ⟨r,hr,?_⟩
 unfold alwB
 rw [h];rfl
theorem wi_skip (hno : ∀ s,nxP l mi a b s → x + 1 ≤ s) (hmi : 1 ≤ mi) (hax : a ≤ x) (h0 : 0 ≤ x) (hd : (l.any fun r=>!dayB r (x / 1440)) = true) {z : Int} (hz : z ≤ x / 1440 * 1440 + 1440) (hzx : x + 1 ≤ z) : WI l mi a b (-1) z:=by
 refine ⟨.inl rfl,fun s hs=>?_,by omega⟩
 rw [if_pos (by omega)]
 have h1:=hno s hs
 apply Classical.byContradiction
 intro hc
 rw [List.any_eq_true] at hd
 obtain ⟨r,hr,hq⟩:=hd
 have e : s / 1440 = x / 1440:=by omega
 have:=hs.2.2 s (Int.le_refl _) (by omega)
 rw [all_day hr (by rw [e];simpa using hq)] at this
 cases this
theorem wi_next (hno : ∀ s,nxP l mi a b s → x + 1 ≤ s) (hax : a ≤ x) : WI l mi a b (-1) (x + 1):=
 ⟨.inl rfl,fun s hs=>by rw [if_pos (by omega)];exact hno s hs,by omega⟩
end
theorem dk_len (l : List Aut) (t : Trp) : ∀ n,(dkN l t n).ps.length = n
 |0=>rfl
 |n + 1=>by
  rw [dkN_succ]
  show ((dkN l t n).ps ++ [_]).length = _
  rw [List.length_append,List.length_singleton,dk_len l t n]
theorem dk_ps (l : List Aut) (t : Trp) : ∀ n i,i < n → (dkN l t n).ps.getD i dRs = ⟨(inA l t.sz (dkN l t i) i (t.ps.getD i dPs)).ls,(inA l t.sz (dkN l t i) i (t.ps.getD i dPs)).ns,(t.ps.getD i dPs).mi⟩
 |0,i,h=>absurd h (Nat.not_lt_zero _)
 |n + 1,i,h=>by
  rw [dkN_succ]
  have hl:=dk_len l t n
  show ((dkN l t n).ps ++ [_]).getD i dRs = _
  by_cases hi : i < n
  ·rw [← dk_ps l t n i hi]
   simp only [List.getD]
   rw [List.getElem?_append_left (by omega)]
  ·obtain rfl : i = n:=by omega
   simp only [List.getD]
   rw [List.getElem?_append_right (by omega),hl]
   simp
theorem inN_mem (P : Rul → Bool) (ru : List Rul) (i k : Int) (s : In) : ∀ n,n ≤ ru.length → ∀ r ∈ (inN P ru i k s n).ls,r ∈ s.ls ∨ r ∈ ru
 |0,_,r,hr=>.inl hr
 |n + 1,hn,r,hr=>by
  rw [inN_succ] at hr
  have ih:=inN_mem P ru i k s n (by omega)
  unfold inS at hr
  split at hr
  ·have hr : r ∈ (inN P ru i k s n).ls ++ [ru.getD n dRu]:=hr
   rw [List.mem_append,List.mem_singleton] at hr
   rcases hr with hr | rfl
   ·exact ih r hr
   ·exact .inr (getD_mem' dRu ru n (by omega))
  ·exact ih r hr
theorem dk_rls {l : List Aut} {t : Trp} (h : dskE l t = 0) {i : Nat} (hi : i < t.ps.length) : OkR ((dkN l t t.ps.length).ps.getD i dRs) ∧ 1 ≤ ((dkN l t t.ps.length).ps.getD i dRs).mi ∧ ((dkN l t t.ps.length).ps.getD i dRs).mi ≤ 10080:=by
 obtain ⟨h1,h2,h3,_⟩:=dsk_ok h
 rw [dk_ps l t _ i hi]
 have hp:=(trpE_ok h2).2.2 _ (getD_mem' dPs t.ps i hi)
 have h0:=h3 i hi
 have hr:=idxF_rng (fun a=>a.nm == (t.ps.getD i dPs).au) l
 have hkl : (kA l (t.ps.getD i dPs)).toNat < l.length:=by unfold kA at h0 ⊢;omega
 have ha:=(allE_ok h1).2.1 _ (getD_mem' dAu l _ hkl)
 have hn:=ha.n
 refine ⟨⟨?_,fun r hr=>?_⟩,hp.mi⟩
 ·have hdk:=dkN_ok (t:=t) (allE_ok h1).2.1 i (by omega) (fun j hj=>h3 j (by omega))
  have hfe:=ha.fe
  have hf : 0 ≤ (dk1 l (dkN l t i) (kA l (t.ps.getD i dPs))).1 ∧ (dk1 l (dkN l t i) (kA l (t.ps.getD i dPs))).1 ≤ 26843545600 * i + 1073741824:=by
   have:=hdk.fe
   unfold dk1
   split
   ·show 0 ≤ (dkN l t i).fe ∧ (dkN l t i).fe ≤ _;omega
   ·show 0 ≤ (dkN l t i).fe + (l.getD (kA l (t.ps.getD i dPs)).toNat dAu).fe ∧ (dkN l t i).fe + (l.getD (kA l (t.ps.getD i dPs)).toNat dAu).fe ≤ _;omega
  have q:=inN_ok (P:=fun r=>forB r (t.ps.getD i dPs).rd t.sz) (i:=(i : Int)) (k:=kA l (t.ps.getD i dPs)) (s:=⟨[],[],(dkN l t i).cd,(dk1 l (dkN l t i) (kA l (t.ps.getD i dPs))).1⟩) ha.ru hf rfl _ (Nat.le_refl _)
  have q3 : (inA l t.sz (dkN l t i) i (t.ps.getD i dPs)).ls.length ≤ 0 + (l.getD (kA l (t.ps.getD i dPs)).toNat dAu).ru.length:=q.2.2.1
  show (inA l t.sz (dkN l t i) i (t.ps.getD i dPs)).ls.length ≤ 24
  omega
 ·rcases inN_mem _ _ _ _ _ _ (Nat.le_refl _) r hr with q | q
  ·cases q
  ·exact ha.ru r q
noncomputable def rlA (l : List Aut) (t : Trp) (p : Int) : Rls:=(dkN l t t.ps.length).ps.getD p.toNat dRs
noncomputable def nxR (l : List Aut) (t : Trp) (p a : Int) : Option Int:=lst (nxP (rlA l t p).ls (rlA l t p).mi a ((a / 1440 + 400) * 1440))
noncomputable def nxE (l : List Aut) (t : Trp) (p a : Int) : Int:=if fdE l t p = 0 then (if inR a 0 1099511627776 = true then (if nxR l t p a = none then 22 else 0) else 3) else fdE l t p
noncomputable def nxV (l : List Aut) (t : Trp) (p a : Int) : Int:=if nxE l t p a = 0 then (nxR l t p a).getD 0 else 0
abbrev tT (s : Rls) (a b : Int) : List (Nat × AV):=[(8,.own 1 0),(9,.own 2 0),(10,.own 10 0),(12,.own 22 0),(39,.clo 89 [] [.fp [iv a] 0,.fp [iv (b + s.mi)] 0,.fp [.fp (cRs s) 0] 0])]
theorem t39 {lp : Nat} {R : Loop} {vs : Array Value} (s : Rls) (a b st x c1 c2 : Int) {Q : Ex → S → Prop} (hx : 0 ≤ x ∧ x ≤ 1099511627776000)
  (hQ : Q .n ⟨[(0,yv lp),(2,.fp [iv (b + s.mi)] 0),(3,.fp [.fp (cRs s) 0] 0),(5,iv st),(6,.own 37 0)],[(34,.oth (.fr vs (tT s a b))),(33,.oth (.lp lp R (tT s a b))),(1,.cells [iv c1]),(2,.cells [iv c2]),(10,.cells [.fp (cRs s) 0]),(22,.cells [iv b]),(37,.cells [iv (x + 1)])],42⟩) :
  W Try.prog 53 Xn89_39 ⟨[(0,yv lp),(2,.fp [iv (b + s.mi)] 0),(3,.fp [.fp (cRs s) 0] 0),(5,iv st),(6,.own 37 0)],[(34,.oth (.fr vs (tT s a b))),(33,.oth (.lp lp R (tT s a b))),(1,.cells [iv c1]),(2,.cells [iv c2]),(10,.cells [.fp (cRs s) 0]),(22,.cells [iv b]),(37,.cells [iv x])],39⟩ Q:=by
 repeat (first | refine WK_go ?_ | refine W_seqL ?_ | refine W_seq ?_ | refine W_block ?_)
 refine W_regL ?_
 (refine sy1 ?_;try exact tTI)
 repeat (first | refine WK_go ?_ | refine W_seqL ?_ | refine W_seq ?_ | refine W_block ?_)
 refine W_regL ?_
 (refine sy1 ?_;try exact tTI)
 refine w1g ?_
 refine W_le (le_moveE 6 37 40 [0,2,3,5] [34,33,1,2,10,22] 39 [iv x] rfl rfl rfl rfl rfl (by rfl) (by rfl) (by rfl) (by omega)) ?_
 (refine sy1 ?_;try exact tTI)
 (refine go0 ?_;try exact tTI)
 exact hQ
theorem t32 {lp : Nat} {R : Loop} {vs : Array Value} (s : Rls) (a b x c1 c2 : Int) {Q : Ex → S → Prop} (hO : OkR s) (ha : 0 ≤ a ∧ a ≤ x) (hb : 0 ≤ b ∧ b ≤ 1099512203776) (hm : 1 ≤ s.mi ∧ s.mi ≤ 10080) (hx : x ≤ b + s.mi)
  (hno : ∀ y,nxP s.ls s.mi a b y → x + 1 ≤ y)
  (hQ : ∀ z,x ≤ z → z ≤ b + s.mi → WI s.ls s.mi a b (-1) (z + 1) → ∀ s2,le s2 ⟨[(0,yv lp),(2,.fp [iv (b + s.mi)] 0),(3,.fp [.fp (cRs s) 0] 0),(5,iv (-1)),(6,.own 37 0)],[(34,.oth (.fr vs (tT s a b))),(33,.oth (.lp lp R (tT s a b))),(1,.cells [iv c1]),(2,.cells [iv c2]),(10,.cells [.fp (cRs s) 0]),(22,.cells [iv b]),(37,.cells [iv z])],39⟩ → Q .n s2) :
  W Try.prog 53 Xn89_32 ⟨[(0,yv lp),(2,.fp [iv (b + s.mi)] 0),(3,.fp [.fp (cRs s) 0] 0),(6,.own 37 0)],[(34,.oth (.fr vs (tT s a b))),(33,.oth (.lp lp R (tT s a b))),(1,.cells [iv c1]),(2,.cells [iv c2]),(10,.cells [.fp (cRs s) 0]),(22,.cells [iv b]),(37,.cells [iv x])],39⟩ Q:=by
 have c91:=fn91 s.ls (by have:=hO.n;omega) 92 [] [.fp [iv x] 0] (fun r=>!dayB r (x / 1440)) (fun r hr=>fn92 r x (hO.r r hr) (by omega))
 have ex : x.tdiv 1440 = x / 1440:=Int.tdiv_eq_ediv_of_nonneg (by omega)
 have hs:=fun (h : (s.ls.any fun r=>!dayB r (x / 1440)) = true) {z : Int} (h1 : z ≤ x / 1440 * 1440 + 1440) (h2 : x + 1 ≤ z)=>wi_skip hno hm.1 ha.2 (by omega) h h1 h2
 generalize (s.ls.any fun r=>!dayB r (x / 1440)) = D at *
 (refine go_g c91 ?_;try exact tTI)
 by_cases hc : (decide (x < b + s.mi) && D) = true
 ·refine W_cond (by rfl) (fun _=>?_) (fun h=>by rw [hc] at h;cases h)
  rw [Bool.and_eq_true,decide_eq_true_eq] at hc
  have hq:=hQ (min (b + s.mi) (x / 1440 * 1440 + 1440) - 1) (by omega) (by omega) (by rw [Int.sub_add_cancel];exact hs hc.2 (by omega) (by omega))
  (refine gof ex ?_;try exact tTI)
  exact hq _ (le_to [0,2,3,5,6] [34,33,1,2,10,22,37] 39 (by rfl) rfl)
 ·refine W_cond (by rfl) (fun h=>absurd h hc) (fun _=>?_)
  have hq:=hQ x (by omega) (by omega) (wi_next hno ha.2)
  refine W_skip ?_
  (refine sy1 ?_;try exact tTI)
  exact hq _ (le_to [0,2,3,5,6] [34,33,1,2,10,22,37] 39 (by rfl) rfl)
theorem fn65 (l : List Aut) (t : Trp) (p a : Int) (hl : l.length ≤ 140737488355328) (hg : ∀ a ∈ l,GrA a) (ht : t.ps.length ≤ 140737488355328) : Sy.Fn Try.prog 65 [aAu l,aTr t,iv p,iv a] (.tup [iv (nxV l t p a),iv (nxE l t p a)]):=by
 refine Fn_of_W mixed Xt65 rfl ?_
 have c66:=fn66 l t p hl hg ht
 by_cases h1 : fdE l t p = 0
 rotate_left
 ·have e : nxE l t p a = fdE l t p:=by unfold nxE;rw [if_neg h1]
  have e2 : nxV l t p a = 0:=by unfold nxV;rw [e,if_neg h1]
  have e3 : fdV l t p = .v (.pointer none):=by unfold fdV;rw [if_neg h1]
  rw [e,e2]
  rw [e3] at c66
  generalize fdE l t p = E at *
  (refine go_c c66 ?_;try exact tTI)
  refine W_cond (by rfl) (fun _=>?_) (fun h=>absurd (by simpa using h) h1)
  (refine go0 ?_;try exact tTI)
  exact W_ret ⟨[_,_],⟨⟨by simp,rfl⟩,⟨by simp,rfl⟩,rfl⟩,rfl⟩
 have e3 : fdV l t p = .fp (cRs (rlA l t p)) 0:=by unfold fdV;rw [if_pos h1];rfl
 rw [h1,e3] at c66
 have c50:=fn50 a
 (refine go_c c66 ?_;try exact tTI)
 refine W_cond (by rfl) (fun h=>by cases h) (fun _=>?_)
 by_cases h2 : inR a 0 1099511627776 = true
 rotate_left
 ·have e : nxE l t p a = 3:=by unfold nxE;rw [if_pos h1,if_neg h2]
  have e2 : nxV l t p a = 0:=by unfold nxV;rw [e];rfl
  rw [e,e2]
  rw [Bool.not_eq_true] at h2
  rw [h2] at c50
  (refine go_c c50 ?_;try exact tTI)
  refine W_cond (by rfl) (fun _=>?_) (fun h=>by cases h)
  (refine go0 ?_;try exact tTI)
  exact W_ret ⟨[_,_],⟨⟨by simp,rfl⟩,⟨by simp,rfl⟩,rfl⟩,rfl⟩
 rw [h2] at c50
 have ha:=inR_iff.1 h2
 have hfd : dskE l t = 0 ∧ 0 ≤ p ∧ p < t.ps.length:=by
  have h1:=h1
  unfold fdE at h1
  by_cases q : dskE l t = 0
  ·rw [if_pos q] at h1
   by_cases q2 : 0 ≤ p ∧ p < t.ps.length
   ·exact ⟨q,q2⟩
   ·rw [if_neg q2] at h1;omega
  ·rw [if_neg q] at h1;exact absurd h1 q
 obtain ⟨hO,hm1,hm2⟩:=dk_rls hfd.1 (i:=p.toNat) (by omega)
 change OkR (rlA l t p) at hO
 change 1 ≤ (rlA l t p).mi at hm1
 change (rlA l t p).mi ≤ 10080 at hm2
 have en : nxE l t p a = if nxR l t p a = none then 22 else 0:=by unfold nxE;rw [if_pos h1,if_pos h2]
 have ev : nxV l t p a = (nxR l t p a).getD 0:=by
  unfold nxV
  rw [en]
  by_cases q : nxR l t p a = none
  ·rw [if_pos q,q];rfl
  ·rw [if_neg q];rfl
 have eq : a.tdiv 1440 = a / 1440:=Int.tdiv_eq_ediv_of_nonneg ha.1
 rw [ev,en]
 unfold nxR
 have hB : 0 ≤ (a / 1440 + 400) * 1440 ∧ (a / 1440 + 400) * 1440 ≤ 1099512203776 ∧ a ≤ (a / 1440 + 400) * 1440:=by omega
 have c78:=fn78 (rlA l t p) a ((a / 1440 + 400) * 1440 + (rlA l t p).mi)
 generalize hb : (a / 1440 + 400) * 1440 = b at *
 generalize rlA l t p = s at *
 (refine go_c c50 ?_;try exact tTI)
 refine W_cond (by rfl) (fun h=>by cases h) (fun _=>?_)
 (refine gofc (ad2 eq hb) c78 ?_;try exact tTI)
 refine W_rfn (.inl rfl) (fun lp R hR=>Inl_of_W mixed Xt89 rfl (fun vs=>?_))
 (refine sy1 ?_;try exact tTI)
 (refine go0 ?_;try exact tTI)
 have hc52:=fun (x : Int) (hx : 0 ≤ x ∧ x ≤ 1099511627776000)=>fn91 s.ls (by have:=hO.n;omega) 92 [] [.fp [iv x] 0] (fun r=>!dayB r (x / 1440)) (fun r hr=>fn92 r x (hO.r r hr) hx)
 refine W_loopU (fun q : Int × Int=>[(5,iv q.1)]) (fun q=>[(37,.cells [iv q.2])]) (fun q=>WI s.ls s.mi a b q.1 q.2 ∧ q.2 ≤ b + s.mi + 1 ∧ -1 ≤ q.1 ∧ (q.2 ≤ b + s.mi ∨ q.1 = -1)) (fun q=>(b + s.mi + 1 - q.2).toNat) (-1,a) ⟨wi_ini,by show a ≤ _;omega,by show -1 ≤ -1;omega,.inr rfl⟩ (by rfl) (by rfl) (fun q hq=>?_)
 obtain ⟨st,x⟩:=q
 obtain ⟨hw,hx1,hst1,hor⟩:=hq
 have hx1 : x ≤ b + s.mi + 1:=hx1
 have hst1 : -1 ≤ st:=hst1
 have hor : x ≤ b + s.mi ∨ st = -1:=hor
 have hw : WI s.ls s.mi a b st x:=hw
 have hax:=hw.lo
 have hx0 : 0 ≤ x ∧ x ≤ 1099511627776000:=by omega
 have c90:=fn90 s x hO hx0
 have c91:=hc52 x hx0
 have ex : x.tdiv 1440 = x / 1440:=Int.tdiv_eq_ediv_of_nonneg hx0.1
 (refine sy1 ?_;try exact tTI)
 (refine go0 ?_;try exact tTI)
 refine W_condD (by rfl) (fun h5=>?_) (fun h5=>?_)
 ·(refine go_g c90 ?_;try exact tTI)
  by_cases hal : (decide (x < b + s.mi) && allB s.ls x) = true
  ·refine W_cond (by rfl) (fun _=>?_) (fun h=>by rw [hal] at h;cases h)
   have hal2 : allB s.ls x = true:=by rw [Bool.and_eq_true] at hal;exact hal.2
   have hw2:=wi_in hw (by omega) hal2
   (refine go0 ?_;try exact tTI)
   refine W_condD (by rfl) (fun h6=>?_) (fun h6=>?_)
   ·rw [if_pos h6] at hw2
    repeat (first | refine WK_go ?_ | refine W_seqL ?_ | refine W_seq ?_ | refine W_block ?_)
    refine W_regL ?_
    (refine sy1 ?_;try exact tTI)
    refine w1g ?_
    refine w1e ?_
    (refine sy1 ?_;try exact tTI)
    refine w1g ?_
    refine W_le (le_to [0,2,3,5,6] [34,33,1,2,10,22,37] 39 (by rfl) rfl) ?_
    refine t39 s a b x x 0 0 hx0 ?_
    (refine sy1 ?_;try exact tTI)
    have hlt : x < b + s.mi:=by rw [Bool.and_eq_true,decide_eq_true_eq] at hal;exact hal.1
    refine ⟨(x,x + 1),⟨hw2,by show x + 1 ≤ _;omega,by show -1 ≤ x;omega,.inl (by show x + 1 ≤ _;omega)⟩,by show (b + s.mi + 1 - (x + 1)).toNat < _;omega,by rfl,?_⟩
    (refine syE ?_;try exact tTI)
   ·rw [if_neg h6] at hw2
    repeat (first | refine WK_go ?_ | refine W_seqL ?_ | refine W_seq ?_ | refine W_block ?_)
    refine W_skip ?_
    (refine sy1 ?_;try exact tTI)
    refine w1g ?_
    refine w1e ?_
    (refine sy1 ?_;try exact tTI)
    refine w1g ?_
    refine W_le (le_to [0,2,3,5,6] [34,33,1,2,10,22,37] 39 (by rfl) rfl) ?_
    refine t39 s a b st x 0 0 hx0 ?_
    (refine sy1 ?_;try exact tTI)
    have hlt : x < b + s.mi:=by rw [Bool.and_eq_true,decide_eq_true_eq] at hal;exact hal.1
    refine ⟨(st,x + 1),⟨hw2,by show x + 1 ≤ _;omega,by show -1 ≤ st;omega,.inl (by show x + 1 ≤ _;omega)⟩,by show (b + s.mi + 1 - (x + 1)).toNat < _;omega,by rfl,?_⟩
    (refine syE ?_;try exact tTI)
  ·refine W_cond (by rfl) (fun h=>absurd h hal) (fun _=>?_)
   have hal3 : x = b + s.mi ∨ allB s.ls x = false:=by
    by_cases q : x < b + s.mi
    ·right
     rw [decide_eq_true q,Bool.true_and] at hal
     simpa using hal
    ·left;omega
   by_cases hst : 0 ≤ st
   ·have qb : decide (0 ≤ st) = true:=decide_eq_true hst
    (refine gof qb ?_;try exact tTI)
    refine StopC.yld (fun hpc=>⟨trivial,Yl_of_W (k:=33) mixed hR rfl rfl rfl (fun vs2=>?_)⟩) (fun hpc=>absurd (by simp [Sy.pc]) hpc)
    (refine sy1 ?_;try exact tTI)
    (refine go0 ?_;try exact tTI)
    refine ⟨_,rfl,?_⟩
    (refine sy1 ?_;try exact tTI)
    (refine go0 ?_;try exact tTI)
    by_cases hbs : b ≤ st
    ·have hz:=wi_late hw hst hbs
     rw [hz]
     have qb2 : decide (b ≤ st) = true:=decide_eq_true hbs
     (refine gof qb2 ?_;try exact tTI)
     refine W_cond (by rfl) (fun _=>?_) (fun h=>by rw [qb2] at h;cases h)
     (refine go0 ?_;try exact tTI)
     refine ⟨_,_,rfl,rfl,?_⟩
     (refine sy1 ?_;try exact tTI)
     (refine go0 ?_;try exact tTI)
     refine W_cond (by rfl) (fun _=>?_) (fun h=>by cases h)
     (refine go0 ?_;try exact tTI)
     refine W_ret ?_
     refine ⟨_,_,rfl,rfl,⟨_,_,rfl,by simp [doneL],?_⟩⟩
     simp (maxSteps:=400000) (disch:=omega) only [push_cast,↓reduceIte,reduceCtorEq,Nat.reduceAdd,Nat.reduceSub,Nat.reduceEqDiff,Nat.reduceLeDiff,Nat.reduceLT,Nat.reduceBEq,Nat.reduceDiv,Nat.reduceMod,Nat.reducePow,Nat.reduceMul,Int.reduceToNat,Int.reduceLT,Int.reduceLE,doneL,EndP]
     (refine go0 ?_;try exact tTI)
     exact W_ret ⟨[_,_],⟨⟨by simp,rfl⟩,⟨by simp,rfl⟩,rfl⟩,rfl⟩
    have qb2 : decide (b ≤ st) = false:=decide_eq_false hbs
    (refine gof qb2 ?_;try exact tTI)
    refine W_cond (by rfl) (fun h=>by rw [qb2] at h;cases h) (fun _=>?_)
    (refine go0 ?_;try exact tTI)
    by_cases hms : s.mi ≤ x - st
    ·have hz:=wi_hit hw hst (by omega) hms
     rw [hz]
     have qb3 : decide (s.mi ≤ x - st) = true:=decide_eq_true hms
     (refine gof qb3 ?_;try exact tTI)
     refine W_cond (by rfl) (fun _=>?_) (fun h=>by rw [qb3] at h;cases h)
     (refine go0 ?_;try exact tTI)
     refine W_ret ?_
     refine ⟨_,_,rfl,rfl,?_⟩
     (refine sy1 ?_;try exact tTI)
     (refine go0 ?_;try exact tTI)
     refine W_cond (by rfl) (fun _=>?_) (fun h=>by cases h)
     (refine go0 ?_;try exact tTI)
     refine W_ret ?_
     refine ⟨_,_,rfl,rfl,⟨_,_,rfl,by simp [doneL],?_⟩⟩
     simp (maxSteps:=400000) (disch:=omega) only [push_cast,↓reduceIte,reduceCtorEq,Nat.reduceAdd,Nat.reduceSub,Nat.reduceEqDiff,Nat.reduceLeDiff,Nat.reduceLT,Nat.reduceBEq,Nat.reduceDiv,Nat.reduceMod,Nat.reducePow,Nat.reduceMul,Int.reduceToNat,Int.reduceLT,Int.reduceLE,doneL,EndP]
     exact ⟨[_,_],⟨⟨by simp,rfl⟩,⟨by simp,rfl⟩,rfl⟩,rfl⟩
    have qb3 : decide (s.mi ≤ x - st) = false:=decide_eq_false hms
    (refine gof qb3 ?_;try exact tTI)
    refine W_cond (by rfl) (fun h=>by rw [qb3] at h;cases h) (fun _=>?_)
    (refine go0 ?_;try exact tTI)
    refine ⟨_,_,rfl,rfl,?_⟩
    (refine sy1 ?_;try exact tTI)
    (refine go0 ?_;try exact tTI)
    refine W_cond (by rfl) (fun h=>by cases h) (fun _=>?_)
    refine W_skip ?_
    (refine sy1 ?_;try exact tTI)
    refine w1g ?_
    refine W_le (le_to [0,2,3,6] [34,33,1,2,10,22,37] 39 (by rfl) rfl) ?_
    refine t32 s a b x 0 0 hO ⟨by omega,by omega⟩ (by omega) ⟨hm1,hm2⟩ h5 (wi_out hw hm1 hal3 (fun _=>by omega) h5) (fun z hz1 hz2 hz3 s2 hs2=>?_)
    simp only [blockQ,thenQ]
    refine w1g ?_
    refine W_le hs2 ?_
    refine t39 s a b (-1) z 0 0 (by omega) ?_
    (refine sy1 ?_;try exact tTI)
    refine ⟨(-1,z + 1),⟨hz3,by show z + 1 ≤ _;omega,by show -1 ≤ (-1 : Int);omega,.inr rfl⟩,by show (b + s.mi + 1 - (z + 1)).toNat < _;omega,by rfl,?_⟩
    (refine syE ?_;try exact tTI)
   ·have qb : decide (0 ≤ st) = false:=decide_eq_false hst
    (refine gof qb ?_;try exact tTI)
    refine StopC.yld (fun hpc=>absurd hpc (by simp [Sy.pc])) (fun hpc=>?_)
    (refine sy1 ?_;try exact tTI)
    (refine go0 ?_;try exact tTI)
    refine W_cond (by rfl) (fun h=>by cases h) (fun _=>?_)
    refine W_skip ?_
    (refine sy1 ?_;try exact tTI)
    refine w1g ?_
    refine W_le (le_to [0,2,3,6] [34,33,1,2,10,22,37] 39 (by rfl) rfl) ?_
    refine t32 s a b x 0 0 hO ⟨by omega,by omega⟩ (by omega) ⟨hm1,hm2⟩ h5 (wi_out hw hm1 hal3 (fun h=>absurd h hst) h5) (fun z hz1 hz2 hz3 s2 hs2=>?_)
    simp only [blockQ,thenQ]
    refine w1g ?_
    refine W_le hs2 ?_
    refine t39 s a b (-1) z 0 0 (by omega) ?_
    (refine sy1 ?_;try exact tTI)
    refine ⟨(-1,z + 1),⟨hz3,by show z + 1 ≤ _;omega,by show -1 ≤ (-1 : Int);omega,.inr rfl⟩,by show (b + s.mi + 1 - (z + 1)).toNat < _;omega,by rfl,?_⟩
    (refine syE ?_;try exact tTI)
 ·have hst0 : lst (nxP s.ls s.mi a b) = none:=by
   rcases hor with q | rfl
   ·omega
   ·exact wi_none hw hm1 (by omega)
  rw [hst0]
  (refine go0 ?_;try exact tTI)
  refine ⟨_,_,rfl,rfl,⟨_,_,rfl,by rw [hR.st];simp,?_⟩⟩
  rw [hR.pe]
  (refine syN ?_;try exact tTI)
  (refine go0 ?_;try exact tTI)
  exact W_ret ⟨[_,_],⟨⟨by simp,rfl⟩,⟨by simp,rfl⟩,rfl⟩,rfl⟩
structure Crs where
 st : Int
 th : List Cnt
def dCr : Crs:=⟨0,[]⟩
def cCr (x : Crs) : List AV:=[iv x.st,aCt x.th]
theorem nCr0 (x : Crs) : nth (cCr x) 0 = iv x.st:=rfl
theorem nCr1 (x : Crs) : nth (cCr x) 1 = aCt x.th:=rfl
theorem lCr (x : Crs) : (cCr x).length = 2:=rfl
theorem frCr (x : Crs) : frzAll (cCr x) = true:=rfl
theorem tCr (x : Crs) : List.take 2 (List.drop 0 (cCr x)) = cCr x:=rfl
theorem uCr (x : Crs) : List.take 2 (cCr x) = cCr x:=rfl
theorem iCr {m : Nat → Option Blk} {n : Nat} (x : Crs) : List.flatMap (ids m n) (cCr x) = []:=flat_frz n _ (frCr x)
theorem vCr {m : Nat → Option Blk} {n : Nat} (x : Crs) : List.map (view m n) (cCr x) = cCr x:=viewL_frz n _ (frCr x)
abbrev aCr (l : List Crs) : AV:=.sl 2 dCr cCr l
attribute [push_cast] nCr0 nCr1 lCr frCr tCr uCr iCr vCr
def thB (c : Cnt) : Bool:=nameB c.th && inR c.lo 0 1000
theorem fn74 (c : Cnt) : Sy.Fn Try.prog 74 ([] ++ [.agg (cCt c)] ++ []) (bv (!thB c)):=by
 refine Fn_of_W mixed Xt74 rfl ?_
 have c75:=fn75 c.th
 have c72:=fn72 c.lo 0 1000
 unfold thB
 generalize nameB c.th = x1 at *
 generalize inR c.lo 0 1000 = x2 at *
 (refine go_cg c75 c72 ?_;try exact tTI)
 rw [Bool.not_and]
 exact W_ret ⟨[_],⟨rfl,rfl⟩,rfl⟩
def crE (c : Crs) : Int:=if inR c.st 0 1099511627776 = true then (if 6 < c.th.length then 6 else if (c.th.any fun x=>!thB x) = true then 2 else 0) else 3
theorem fn51 (c : Crs) (hl : c.th.length ≤ 140737488355328) : Sy.Fn Try.prog 51 [.agg (cCr c)] (iv (crE c)):=by
 refine Fn_of_W mixed Xt51 rfl ?_
 have c50:=fn50 c.st
 have c73:=fn73 c.th hl 74 [] [] (fun x=>!thB x) (fun x _=>fn74 x)
 unfold crE
 generalize (c.th.any fun x=>!thB x) = x2 at *
 cases h1 : inR c.st 0 1099511627776
 ·rw [h1] at c50
  (refine go_c c50 ?_;try exact tTI)
  refine W_cond (by rfl) (fun _=>?_) (fun h=>by cases h)
  (refine go0 ?_;try exact tTI)
  exact W_ret ⟨[_],⟨rfl,rfl⟩,rfl⟩
 rw [h1] at c50
 rw [if_pos rfl]
 (refine go_c c50 ?_;try exact tTI)
 refine W_cond (by rfl) (fun h=>by cases h) (fun _=>?_)
 (refine go0 ?_;try exact tTI)
 refine W_condD (by rfl) (fun h=>?_) (fun h=>?_)
 ·rw [if_pos (by omega)]
  (refine go0 ?_;try exact tTI)
  exact W_ret ⟨[_],⟨rfl,rfl⟩,rfl⟩
 rw [if_neg (by omega)]
 (refine go_c c73 ?_;try exact tTI)
 refine W_cond (by rfl) (fun h=>?_) (fun h=>?_)
 ·rw [if_pos h]
  (refine go0 ?_;try exact tTI)
  exact W_ret ⟨[_],⟨rfl,rfl⟩,rfl⟩
 ·rw [h,if_neg (by decide)]
  (refine go0 ?_;try exact tTI)
  exact W_ret ⟨[_],⟨rfl,rfl⟩,rfl⟩
theorem fn87 (y x : Cnt) : Sy.Fn Try.prog 87 ([] ++ [.agg (cCt y)] ++ [.fp (cCt x) 0]) (bv (y.th == x.th)):=by
 refine Fn_of_W mixed Xt87 rfl ?_
 (refine go0 ?_;try exact tTI)
 exact W_ret ⟨[_],⟨rfl,rfl⟩,rfl⟩
def thI (l : List Cnt) (s : ByteArray) : Int:=idxF (fun y=>y.th == s) l 0
def manyV (l : List Cnt) (s : ByteArray) : Int:=if 0 ≤ thI l s then (l.getD (thI l s).toNat dCt).lo else 0
def cnB (l : List Cnt) (x : Cnt) : Bool:=inR (manyV l x.th) x.lo x.hi
theorem thI_lt (l : List Cnt) (s : ByteArray) : -1 ≤ thI l s ∧ thI l s < l.length:=idxF_rng _ l
theorem fn86 (c : Crs) (x : Cnt) (hl : c.th.length ≤ 140737488355328) : Sy.Fn Try.prog 86 ([] ++ [.agg (cCt x)] ++ [.fp (cCr c) 0]) (bv (!cnB c.th x)):=by
 refine Fn_of_W mixed Xt86 rfl ?_
 have c58:=fn58 c.th hl 87 [] [.fp (cCt x) 0] (fun y=>y.th == x.th) (fun y _=>fn87 y x)
 have hr:=thI_lt c.th x.th
 have e : cnB c.th x = inR (if 0 ≤ thI c.th x.th then (c.th.getD (thI c.th x.th).toNat dCt).lo else 0) x.lo x.hi:=rfl
 rw [e]
 change Sy.Fn Try.prog 58 [aCt c.th,.clo 87 [] [.fp (cCt x) 0]] (iv (thI c.th x.th)) at c58
 generalize thI c.th x.th = i at *
 (refine go_c c58 ?_;try exact tTI)
 refine W_condD (by rfl) (fun h=>?_) (fun h=>?_)
 ·rw [if_pos (by omega)]
  obtain ⟨n,rfl⟩:=Int.eq_ofNat_of_zero_le (show 0 ≤ i by omega)
  (refine go0 ?_;try exact tTI)
  (refine go_c (fn72 (c.th.getD n dCt).lo x.lo x.hi) ?_;try exact tTI)
  exact W_ret ⟨[_],⟨rfl,rfl⟩,rfl⟩
 ·rw [if_neg (by omega)]
  (refine go_c (fn72 0 x.lo x.hi) ?_;try exact tTI)
  exact W_ret ⟨[_],⟨rfl,rfl⟩,rfl⟩
def brkB (mi : Int) (r : Rul) (c : Crs) : Bool:=((List.range mi.toNat).any fun k=>!alwB r (c.st + k)) || r.cn.any fun x=>!cnB c.th x
theorem brk_yes {mi : Int} {r : Rul} {c : Crs} {k : Nat} (hk : (k : Int) < mi) (h : alwB r (c.st + k) = false) : brkB mi r c = true:=by
 unfold brkB
 rw [Bool.or_eq_true]
 exact .inl (List.any_eq_true.2 ⟨k,List.mem_range.2 (by omega),by rw [h];rfl⟩)
theorem brk_no {mi : Int} {r : Rul} {c : Crs} (h : ∀ k : Nat,(k : Int) < mi → alwB r (c.st + k) = true) : brkB mi r c = r.cn.any fun x=>!cnB c.th x:=by
 unfold brkB
 rw [show ((List.range mi.toNat).any fun k=>!alwB r (c.st + k)) = false from ?_,Bool.false_or]
 rw [List.any_eq_false]
 intro k hk
 have:=h k (by have:=List.mem_range.1 hk;omega)
 rw [this];decide
theorem fn76 (s : Rls) (r : Rul) (c : Crs) (hr : rulB r = true) (hm : s.mi ≤ 10080) (hc : 0 ≤ c.st ∧ c.st ≤ 1099511627776) (hl : c.th.length ≤ 140737488355328) : Sy.Fn Try.prog 76 [.fp (cRs s) 0,.agg (cRu r),.agg (cCr c)] (bv (brkB s.mi r c)):=by
 refine Fn_of_W mixed Xt76 rfl ?_
 have c73:=fn73 r.cn (by have:=(rulB_ok hr).cn;omega) 86 [] [.fp (cCr c) 0] (fun x=>!cnB c.th x) (fun x _=>fn86 c x hl)
 have c85:=fun (k : Nat) (hk : (k : Int) < s.mi)=>fn85 r (c.st + k) hr (by omega)
 have hy:=fun (k : Nat)=>brk_yes (mi:=s.mi) (r:=r) (c:=c) (k:=k)
 have hn:=brk_no (mi:=s.mi) (r:=r) (c:=c)
 generalize brkB s.mi r c = B at *
 generalize (r.cn.any fun x=>!cnB c.th x) = x2 at *
 (refine go0 ?_;try exact tTI)
 refine W_loopU (fun k : Nat=>[(12,iv k)]) (fun k=>[]) (fun k=>(k = 0 ∨ (k : Int) ≤ s.mi) ∧ ∀ j : Nat,j < k → alwB r (c.st + j) = true) (fun k=>s.mi.toNat - k) 0 ⟨.inl rfl,fun j hj=>by omega⟩ (by rfl) (by rfl) (fun k hk=>?_)
 obtain ⟨hk,hp⟩:=hk
 (refine sy1 ?_;try exact tTI)
 (refine go0 ?_;try exact tTI)
 refine W_condD (by rfl) (fun h=>?_) (fun h=>?_)
 ·have q:=c85 k h
  have hyk:=hy k h
  generalize hX : alwB r (c.st + k) = X at *
  (refine go_c q ?_;try exact tTI)
  refine W_cond (by rfl) (fun hb=>?_) (fun hb=>?_)
  ·rw [hyk (by simpa using hb)]
   (refine go0 ?_;try exact tTI)
   exact W_ret ⟨[_],⟨rfl,rfl⟩,rfl⟩
  ·(refine go0 ?_;try exact tTI)
   refine ⟨k + 1,⟨.inr (by omega),fun j hj=>?_⟩,by omega,by rfl,?_⟩
   ·by_cases e : j = k
    ·rw [e,hX];simpa using hb
    ·exact hp j (by omega)
   (refine syE ?_;try exact tTI)
 ·rw [hn (fun j hj=>hp j (by omega))]
  (refine go_c c73 ?_;try exact tTI)
  exact W_ret ⟨[_],⟨rfl,rfl⟩,rfl⟩
def brkN (s : Rls) (c : Crs) (n : Nat) : List Int:=(List.range n).foldl (fun o i=>if brkB s.mi (s.ls.getD i dRu) c = true then o ++ [s.ns.getD i 0] else o) []
theorem brkN_succ (s : Rls) (c : Crs) (n : Nat) : brkN s c (n + 1) = if brkB s.mi (s.ls.getD n dRu) c = true then brkN s c n ++ [s.ns.getD n 0] else brkN s c n:=by
 unfold brkN;rw [List.range_succ,List.foldl_append];rfl
theorem brkN_len (s : Rls) (c : Crs) : ∀ n,(brkN s c n).length ≤ n
 |0=>Nat.le_refl _
 |n + 1=>by
  rw [brkN_succ]
  have:=brkN_len s c n
  split
  ·rw [List.length_append,List.length_singleton];omega
  ·omega
def brkL (s : Rls) (c : Crs) : List Int:=brkN s c s.ls.length
theorem fn52 (s : Rls) (c : Crs) (hs : OkR s) (hn : s.ls.length = s.ns.length) (hm : s.mi ≤ 10080) (hc : 0 ≤ c.st ∧ c.st ≤ 1099511627776) (hl : c.th.length ≤ 140737488355328) : Sy.Fn Try.prog 52 [.fp (cRs s) 0,.agg (cCr c)] (aI (brkL s c)):=by
 refine Fn_of_W mixed Xt52 rfl ?_
 have h24:=hs.n
 have c76:=fun (i : Nat) (hi : i < s.ls.length)=>fn76 s (s.ls.getD i dRu) c (hs.r _ (getD_mem' dRu s.ls i hi)) hm hc hl
 (refine go0 ?_;try exact tTI)
 refine W_le (le_adopt 4 3 1 0 cI (by omega) rfl) ?_
 (refine sy1 ?_;try exact tTI)
 refine W_loopU (fun i : Nat=>[(12,iv i),(4,.row 8 (brkN s c i).length)]) (fun i=>[(8,.row (brkN s c i).length 3 1 0 cI (brkN s c i))]) (fun i=>i ≤ s.ls.length) (fun i=>s.ls.length - i) 0 (by omega) (by rfl) (by rfl) (fun i hi=>?_)
 have hbl:=brkN_len s c i
 have hbs:=brkN_succ s c i
 obtain ⟨B,hB⟩ : ∃ B,brkN s c i = B:=⟨_,rfl⟩
 rw [hB] at hbl hbs
 rw [hB]
 (refine sy1 ?_;try exact tTI)
 (refine go0 ?_;try exact tTI)
 refine W_condD (by rfl) (fun h=>?_) (fun h=>?_)
 ·have hlt : i < s.ls.length:=by omega
  have q:=c76 i hlt
  obtain ⟨X,hX⟩ : ∃ X,s.ls.getD i dRu = X:=⟨_,rfl⟩
  rw [hX] at q hbs
  generalize brkB s.mi X c = b at *
  (refine gofc hX q ?_;try exact tTI)
  refine W_cond (by rfl) (fun hb=>?_) (fun hb=>?_)
  ·rw [if_pos hb] at hbs
   (refine go0 ?_;try exact tTI)
   refine ⟨rfl,trivial,Int,0,cI,[s.ns.getD i 0],rfl,by omega,fun x _=>⟨rfl,rfl⟩,rfl,?_⟩
   (refine sy1 ?_;try exact tTI)
   refine ⟨rfl,⟨Nat.le_of_ble_eq_true rfl,rfl⟩,trivial,[s.ns.getD i 0],rfl,by first | omega | (simp;omega),by first | omega | (simp;omega),?_⟩
   (refine sy1 ?_;try exact tTI)
   (refine go0 ?_;try exact tTI)
   refine ⟨i + 1,by omega,by omega,by rfl,?_⟩
   rw [hbs,List.length_append,List.length_singleton]
   (refine syE ?_;try exact tTI)
  ·rw [hb,if_neg (by decide)] at hbs
   (refine go0 ?_;try exact tTI)
   refine ⟨i + 1,by omega,by omega,by rfl,?_⟩
   rw [hbs]
   (refine syE ?_;try exact tTI)
 ·obtain rfl : i = s.ls.length:=by omega
  have e : brkL s c = B:=hB
  rw [e]
  (refine go0 ?_;try exact tTI)
  refine W_ret ⟨[_],⟨rfl,rfl⟩,?_⟩
  (refine syP ?_;try exact tTI)
theorem crE_ok {c : Crs} (h : crE c = 0) : (0 ≤ c.st ∧ c.st ≤ 1099511627776) ∧ c.th.length ≤ 6 ∧ ∀ x ∈ c.th,thB x = true:=by
 unfold crE at h
 split at h
 ·rename_i h1
  split at h
  ·cases h
  ·rename_i h2
   split at h
   ·cases h
   ·rename_i h3
    refine ⟨inR_iff.1 h1,by omega,fun x hx=>?_⟩
    rw [Bool.not_eq_true,List.any_eq_false] at h3
    simpa using h3 x hx
 ·cases h
noncomputable def rlP (l : List Aut) (t : Trp) (p : Int) : Rls:=(dkN l t t.ps.length).ps.getD p.toNat dRs
noncomputable def bkE (l : List Aut) (t : Trp) (p : Int) (c : Crs) : Int:=if fdE l t p = 0 then crE c else fdE l t p
noncomputable def bkV (l : List Aut) (t : Trp) (p : Int) (c : Crs) : List Int:=if bkE l t p c = 0 then brkL (rlP l t p) c else []
theorem fd_ok {l : List Aut} {t : Trp} {p : Int} (h : fdE l t p = 0) : dskE l t = 0 ∧ 0 ≤ p ∧ p < t.ps.length:=by
 unfold fdE at h
 by_cases q : dskE l t = 0
 ·rw [if_pos q] at h
  by_cases q2 : 0 ≤ p ∧ p < t.ps.length
  ·exact ⟨q,q2⟩
  ·rw [if_neg q2] at h;omega
 ·rw [if_neg q] at h;exact absurd h q
theorem dk_lsns {l : List Aut} {t : Trp} (h : dskE l t = 0) {i : Nat} (hi : i < t.ps.length) : ((dkN l t t.ps.length).ps.getD i dRs).ls.length = ((dkN l t t.ps.length).ps.getD i dRs).ns.length:=by
 obtain ⟨h1,h2,h3,_⟩:=dsk_ok h
 rw [dk_ps l t _ i hi]
 have h0:=h3 i hi
 have hr:=idxF_rng (fun a=>a.nm == (t.ps.getD i dPs).au) l
 have hkl : (kA l (t.ps.getD i dPs)).toNat < l.length:=by unfold kA at h0 ⊢;omega
 have ha:=(allE_ok h1).2.1 _ (getD_mem' dAu l _ hkl)
 have hdk:=dkN_ok (t:=t) (allE_ok h1).2.1 i (by omega) (fun j hj=>h3 j (by omega))
 have hfe:=ha.fe
 have hf : 0 ≤ (dk1 l (dkN l t i) (kA l (t.ps.getD i dPs))).1 ∧ (dk1 l (dkN l t i) (kA l (t.ps.getD i dPs))).1 ≤ 26843545600 * i + 1073741824:=by
  have:=hdk.fe
  unfold dk1
  split
  ·show 0 ≤ (dkN l t i).fe ∧ (dkN l t i).fe ≤ _;omega
  ·show 0 ≤ (dkN l t i).fe + (l.getD (kA l (t.ps.getD i dPs)).toNat dAu).fe ∧ (dkN l t i).fe + (l.getD (kA l (t.ps.getD i dPs)).toNat dAu).fe ≤ _;omega
 have q:=inN_ok (P:=fun r=>forB r (t.ps.getD i dPs).rd t.sz) (i:=(i : Int)) (k:=kA l (t.ps.getD i dPs)) (s:=⟨[],[],(dkN l t i).cd,(dk1 l (dkN l t i) (kA l (t.ps.getD i dPs))).1⟩) ha.ru hf rfl _ (Nat.le_refl _)
 exact q.2.2.2
def trG (D : Dk) (pl : List Crs) : Nat → Nat → Int → Int × Int
 |0,i,_=>((i : Int),0)
 |k + 1,i,fr=>if crE (pl.getD i dCr) = 0 then (if (pl.getD i dCr).st < fr then ((i : Int),22) else if 0 < (brkL (D.ps.getD i dRs) (pl.getD i dCr)).length then ((i : Int),21) else trG D pl k (i + 1) (max fr ((pl.getD i dCr).st + (D.ps.getD i dRs).mi))) else ((i : Int),crE (pl.getD i dCr))
theorem trG_succ (D : Dk) (pl : List Crs) (k i : Nat) (fr : Int) : trG D pl (k + 1) i fr = if crE (pl.getD i dCr) = 0 then (if (pl.getD i dCr).st < fr then ((i : Int),22) else if 0 < (brkL (D.ps.getD i dRs) (pl.getD i dCr)).length then ((i : Int),21) else trG D pl k (i + 1) (max fr ((pl.getD i dCr).st + (D.ps.getD i dRs).mi))) else ((i : Int),crE (pl.getD i dCr)):=rfl
noncomputable def tpE (l : List Aut) (t : Trp) (q : Int) (pl : List Crs) : Int × Int:=if dskE l t = 0 then (if inR q 0 1099511627776 = true then (if pl.length = t.ps.length then trG (dkN l t t.ps.length) pl pl.length 0 (q + (dkN l t t.ps.length).no) else (0,17)) else (0,3)) else (0,dskE l t)
theorem fn23 (l : List Aut) (t : Trp) (q : Int) (pl : List Crs) (hl : l.length ≤ 140737488355328) (hg : ∀ a ∈ l,GrA a) (ht : t.ps.length ≤ 140737488355328) (hp : pl.length ≤ 140737488355328) (hc : ∀ c ∈ pl,c.th.length ≤ 140737488355328) : Sy.Fn Try.prog 23 [aAu l,aTr t,iv q,aCr pl] (.tup [iv (tpE l t q pl).1,iv (tpE l t q pl).2]):=by
 refine Fn_of_W mixed Xt23 rfl ?_
 have c49:=fn49 l t hl hg ht
 have et : tpE l t q pl = if dskE l t = 0 then (if inR q 0 1099511627776 = true then (if pl.length = t.ps.length then trG (dkN l t t.ps.length) pl pl.length 0 (q + (dkN l t t.ps.length).no) else (0,17)) else (0,3)) else (0,dskE l t):=rfl
 rw [et]
 by_cases h : dskE l t = 0
 rotate_left
 ·have e1 : dskV l t = .v (.pointer none):=by unfold dskV;rw [if_neg h]
  rw [if_neg h]
  rw [e1] at c49
  generalize dskE l t = E at *
  (refine go_c c49 ?_;try exact tTI)
  refine W_cond (by rfl) (fun _=>?_) (fun q=>absurd (by simpa using q) h)
  (refine go0 ?_;try exact tTI)
  exact W_ret ⟨[_,_],⟨rfl,rfl,rfl⟩,rfl⟩
 have e1 : dskV l t = .fp (cDk (dkN l t t.ps.length)) 0:=by unfold dskV;rw [if_pos h]
 rw [e1,h] at c49
 rw [if_pos h]
 have hk:=(dsk_ok h).2.2.2
 have hrl:=fun (i : Nat) (hi : i < t.ps.length)=>dk_rls h (i:=i) hi
 have hln:=fun (i : Nat) (hi : i < t.ps.length)=>dk_lsns h (i:=i) hi
 have hpl:=hk.ps
 have hno:=hk.no
 generalize dkN l t t.ps.length = D at *
 have c50:=fn50 q
 cases h1 : inR q 0 1099511627776
 ·rw [h1] at c50
  (refine go_c c49 ?_;try exact tTI)
  refine W_cond (by rfl) (fun h=>by cases h) (fun _=>?_)
  (refine go_c c50 ?_;try exact tTI)
  refine W_cond (by rfl) (fun _=>?_) (fun h=>by cases h)
  (refine go0 ?_;try exact tTI)
  exact W_ret ⟨[_,_],⟨rfl,rfl,rfl⟩,rfl⟩
 rw [h1] at c50
 rw [if_pos rfl]
 have hq:=inR_iff.1 h1
 (refine go_c c49 ?_;try exact tTI)
 refine W_cond (by rfl) (fun h=>by cases h) (fun _=>?_)
 (refine go_c c50 ?_;try exact tTI)
 refine W_cond (by rfl) (fun h=>by cases h) (fun _=>?_)
 (refine go0 ?_;try exact tTI)
 by_cases h2 : pl.length = t.ps.length
 rotate_left
 ·rw [if_neg h2]
  refine W_cond (by rfl) (fun _=>?_) (fun h=>absurd h (by simp;omega))
  (refine go0 ?_;try exact tTI)
  exact W_ret ⟨[_,_],⟨rfl,rfl,rfl⟩,rfl⟩
 rw [if_pos h2]
 refine W_cond (by rfl) (fun h=>absurd h (by simp;omega)) (fun _=>?_)
 (refine go0 ?_;try exact tTI)
 refine W_loopU (fun u : Nat × Int=>[(43,iv u.1),(12,iv u.2)]) (fun u=>[]) (fun u=>u.1 ≤ pl.length ∧ (0 ≤ u.2 ∧ u.2 ≤ 1100000000000) ∧ trG D pl pl.length 0 (q + D.no) = trG D pl (pl.length - u.1) u.1 u.2) (fun u=>pl.length - u.1) (0,q + D.no) ⟨Nat.zero_le _,by dsimp only;omega,rfl⟩ (by rfl) (by rfl) (fun u hu=>?_)
 obtain ⟨i,fr⟩:=u
 obtain ⟨hi,hfr,hT⟩:=hu
 dsimp only at hi hfr hT
 (refine sy1 ?_;try exact tTI)
 (refine go0 ?_;try exact tTI)
 refine W_condD (by rfl) (fun h5=>?_) (fun h5=>?_)
 ·have hlt : i < pl.length:=by omega
  obtain ⟨X,hX⟩ : ∃ X,pl.getD i dCr = X:=⟨_,rfl⟩
  have hXl:=hc _ (getD_mem' dCr pl i hlt)
  have c51:=fn51 X (by rw [← hX];exact hXl)
  have hr:=hrl i (by omega)
  have hn:=hln i (by omega)
  obtain ⟨R,hR⟩ : ∃ R,D.ps.getD i dRs = R:=⟨_,rfl⟩
  rw [show pl.length - i = (pl.length - (i + 1)) + 1 by omega] at hT
  rw [trG_succ D pl (pl.length - (i + 1)) i fr,hX,hR] at hT
  rw [hR] at hr hn
  rw [hX] at hXl
  rw [hT]
  by_cases hE : crE X = 0
  rotate_left
  ·rw [if_neg hE]
   generalize crE X = E at *
   (refine gofc hX c51 ?_;try exact tTI)
   refine W_cond (by rfl) (fun _=>?_) (fun h=>absurd (by simpa using h) hE)
   (refine go0 ?_;try exact tTI)
   exact W_ret ⟨[_,_],⟨rfl,rfl,rfl⟩,rfl⟩
  rw [if_pos hE]
  rw [hE] at c51
  obtain ⟨k1,k2,_⟩:=crE_ok hE
  have c52:=fn52 R X hr.1 hn hr.2.2 k1 hXl
  have hbl : (brkL R X).length ≤ 24:=Nat.le_trans (brkN_len R X _) hr.1.n
  generalize brkL R X = B at *
  (refine gofc hX c51 ?_;try exact tTI)
  refine W_cond (by rfl) (fun h=>by cases h) (fun _=>?_)
  (refine go0 ?_;try exact tTI)
  refine W_condD (by rfl) (fun h6=>?_) (fun h6=>?_)
  ·rw [if_pos h6]
   (refine go0 ?_;try exact tTI)
   exact W_ret ⟨[_,_],⟨rfl,rfl,rfl⟩,rfl⟩
  rw [if_neg h6]
  (refine gofc hR c52 ?_;try exact tTI)
  refine W_condD (by rfl) (fun h7=>?_) (fun h7=>?_)
  ·rw [if_pos (by omega)]
   (refine go0 ?_;try exact tTI)
   exact W_ret ⟨[_,_],⟨rfl,rfl,rfl⟩,rfl⟩
  rw [if_neg (by omega)]
  have hm1:=hr.2.1
  have hm2:=hr.2.2
  (refine gof hR ?_;try exact tTI)
  refine ⟨(i + 1,max fr (X.st + R.mi)),⟨by dsimp only;omega,by dsimp only;omega,?_⟩,by dsimp only;omega,by rfl,?_⟩
  ·rfl
  (refine syE ?_;try exact tTI)
 ·obtain rfl : i = pl.length:=by omega
  rw [hT,Nat.sub_self]
  rw [show trG D pl 0 pl.length fr = ((pl.length : Int),0) from rfl]
  (refine go0 ?_;try exact tTI)
  exact W_ret ⟨[_,_],⟨rfl,rfl,rfl⟩,rfl⟩
end Go.Proofs.Ytmekmmgiamjfoaa.P
