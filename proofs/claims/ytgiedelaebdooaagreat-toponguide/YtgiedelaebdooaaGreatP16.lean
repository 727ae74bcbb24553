/- For every input the law TopOnGuide returns true: a point of a guide at a length is hardly off it, a track of such points is right, and one that is moved too far is refused. -/
import Derived.Test.YtgiedelaebdooaaGreatP15
import Derived.Test.YtgiedelaebdooaaGreatRows
import Derived.ShutString
namespace Go.Proofs.YtgiedelaebdooaaGreat.U
open Go Sy
set_option maxRecDepth 100000
set_option maxHeartbeats 8000000
set_option linter.unusedVariables false
set_option linter.unusedSimpArgs false
theorem exFit : S.ftV [⟨5,9⟩] 4 0 = 5 ∧ S.ftE [⟨5,9⟩] 4 0 = 0:=by decide +kernel
theorem fn25 : Sy.Fn Tryz.prog 25 [] (bv true):=by
 refine Fn_of_W mixed Xt25 rfl ?_
 have c64:=S.fn64 [⟨5,9⟩] 4 0 (by decide)
 rw [exFit.1,exFit.2] at c64
 have c65:=fn65
 (refine go0 ?_;try exact tTI)
 refine ⟨rfl,trivial,S.Wn,S.dWn,S.cN,[⟨5,9⟩],rfl,by omega,fun x _=>⟨rfl,rfl⟩,rfl,?_⟩
 (refine sy1 ?_;try exact tTI)
 (refine go_gg c64 c65 ?_;try exact tTI)
 exact W_ret ⟨[_],⟨rfl,rfl⟩,rfl⟩
theorem fn7 : Sy.Fn Tryz.prog 7 [] (bv true):=by
 refine Fn_of_W mixed Xt7 rfl ?_
 have c9:=fn9 [⟨0,0⟩,⟨10,0⟩,⟨10,10⟩] ⟨12,6⟩ (by decide)
 rw [exOff.1,exOff.2] at c9
 have c9 : Sy.Fn Tryz.prog 9 [aQ [⟨0,0⟩,⟨10,0⟩,⟨10,10⟩],.agg [iv 12,iv 6]] (.tup [iv 2,iv 1,iv 0]):=c9
 have c6:=P.fn34
 have c25:=fn25
 (refine go0 ?_;try exact tTI)
 refine ⟨rfl,trivial,Pt,dQ,cPt,[⟨0,0⟩,⟨10,0⟩,⟨10,10⟩],rfl,by omega,fun x _=>⟨rfl,rfl⟩,rfl,?_⟩
 (refine sy1 ?_;try exact tTI)
 repeat' (first | refine w1g ?_ | refine w1l ?_ | refine w1q ?_ | refine w1b ?_ | refine w1p ?_ | ((first | refine w1r ?_ | refine w1k ?_ | refine w1e ?_ | refine CallC.go _ (fun _=>⟨trivial,c9⟩) rfl ?_ | refine CallC.go _ (fun _=>⟨trivial,c6⟩) rfl ?_ | refine CallC.go _ (fun _=>⟨trivial,c25⟩) rfl ?_);(refine sy1 ?_;try exact tTI)) | refine an2 ?_ | fail)
 exact W_ret ⟨[_],⟨rfl,rfl⟩,rfl⟩
end Go.Proofs.YtgiedelaebdooaaGreat.U
namespace Go.Proofs.YtgiedelaebdooaaGreat.U
set_option linter.unusedVariables false
theorem pos_nn {b x : Int} (hb : 0 < b) (h : 0 ≤ b * x) : 0 ≤ x:=by
 apply Classical.byContradiction
 intro q
 have:=Int.mul_neg_of_pos_of_neg hb (show x < 0 by omega)
 omega
def LxN (u v : Int) : Prop:=0 < u ∨ (u = 0 ∧ 0 ≤ v)
def LxP (u v : Int) : Prop:=0 < u ∨ (u = 0 ∧ 0 < v)
theorem LxP.n {u v : Int} (h : LxP u v) : LxN u v:=by unfold LxP at h;unfold LxN;omega
theorem crx_trans {a b c d e f : Int} (hA : LxN a b) (hB : LxP c d) (hC : LxN e f) (h1 : 0 ≤ a * d - b * c) (h2 : 0 ≤ c * f - d * e) : 0 ≤ a * f - b * e:=by
 have hid : c * (a * f - b * e) = e * (a * d - b * c) + a * (c * f - d * e):=by grind
 have ha : 0 ≤ a:=by unfold LxN at hA;omega
 have he : 0 ≤ e:=by unfold LxN at hC;omega
 rcases hB with hc | ⟨rfl,hd⟩
 ·apply pos_nn hc
  rw [hid]
  exact Int.add_nonneg (Int.mul_nonneg he h1) (Int.mul_nonneg ha h2)
 ·have h3 : e = 0:=by
   apply Classical.byContradiction
   intro q
   have:=Int.mul_pos hd (show 0 < e by omega)
   omega
  subst h3
  have hf : 0 ≤ f:=by unfold LxN at hC;omega
  have:=Int.mul_nonneg ha hf
  omega
theorem ltP_lx {a b : Pt} : ltP a b = true ↔ LxP (b.x - a.x) (b.y - a.y):=by
 unfold ltP LxP
 rw [decide_eq_true_eq,cmpP_lt]
 omega
theorem ltP_trans {a b c : Pt} (h1 : ltP a b = true) (h2 : ltP b c = true) : ltP a c = true:=by
 rw [ltP_lx] at *
 unfold LxP at *
 omega
theorem ltP_ne {a b : Pt} (h : ltP a b = true) : a ≠ b:=fun e=>by
 subst e
 rw [ltP_lx] at h
 unfold LxP at h
 omega
theorem crs_up {a b x p : Pt} (hab : ltP a b = true) (hbx : ltP b x = true) (hp : p = a ∨ ltP a p = true) (h1 : crs a b x ≤ 0) (h2 : 0 ≤ crs a b p) : 0 ≤ crs a x p:=by
 have hax:=ltP_trans hab hbx
 rw [ltP_lx] at hab hax
 have hN : LxN (p.x - a.x) (p.y - a.y):=by
  rcases hp with rfl | hp
  ·unfold LxN;omega
  ·exact (ltP_lx.1 hp).n
 unfold crs at *
 have h3 : 0 ≤ (x.x - a.x) * (b.y - a.y) - (x.y - a.y) * (b.x - a.x):=by
  rw [Int.mul_comm (x.x - a.x),Int.mul_comm (x.y - a.y)];omega
 have:=crx_trans hax.n hab hN h3 h2
 omega
theorem crs_dn {u a x p : Pt} (hua : ltP u a = true) (hax : ltP a x = true) (hp : ltP p a = true) (h1 : 0 ≤ crs u a x) (h2 : 0 ≤ crs u a p) : 0 ≤ crs a x p:=by
 rw [ltP_lx] at hua hax hp
 have e1 : crs u a x = (a.x - u.x) * (x.y - a.y) - (a.y - u.y) * (x.x - a.x):=by unfold crs;grind
 have e2 : crs u a p = (a.x - p.x) * (a.y - u.y) - (a.y - p.y) * (a.x - u.x):=by unfold crs;grind
 have e3 : crs a x p = (a.x - p.x) * (x.y - a.y) - (a.y - p.y) * (x.x - a.x):=by unfold crs;grind
 rw [e1] at h1
 rw [e2] at h2
 rw [e3]
 exact crx_trans hp.n hua hax.n h2 h1
theorem crs_far {w u a x : Pt} (hwu : ltP w u = true) (hua : ltP u a = true) (hax : ltP a x = true) (h1 : 0 ≤ crs w u a) (h2 : 0 ≤ crs u a x) : 0 ≤ crs w u x:=by
 rw [ltP_lx] at hwu hua hax
 have e1 : crs w u a = (u.x - w.x) * (a.y - u.y) - (u.y - w.y) * (a.x - u.x):=by unfold crs;grind
 have e2 : crs u a x = (a.x - u.x) * (x.y - a.y) - (a.y - u.y) * (x.x - a.x):=by unfold crs;grind
 have e3 : crs w u x = ((u.x - w.x) * (a.y - u.y) - (u.y - w.y) * (a.x - u.x)) + ((u.x - w.x) * (x.y - a.y) - (u.y - w.y) * (x.x - a.x)):=by unfold crs;grind
 rw [e1] at h1
 rw [e2] at h2
 have:=crx_trans hwu.n hua hax.n h1 h2
 omega
def ChS (S : List Pt) : List Pt → Prop
 |b :: a :: r=>(ltP a b = true ∧ (∀ p ∈ S,0 ≤ crs a b p) ∧ (∀ u,r.head? = some u → 0 < crs u a b)) ∧ ChS S (a :: r)
 |_=>True
theorem crs_self (a b : Pt) : crs a b b = 0 ∧ crs a b a = 0:=by unfold crs;constructor <;> grind
theorem chs_ext {S : List Pt} {x : Pt} : ∀ {r : List Pt} {t u : Pt},ChS S (t :: u :: r) → 0 ≤ crs u t x → ltP t x = true → ChS (S ++ [x]) (t :: u :: r)
 |[],t,u,⟨⟨h1,h2,h3⟩,_⟩,h,hx=>⟨⟨h1,fun p hp=>by
   rcases List.mem_append.1 hp with q | q
   ·exact h2 p q
   ·rw [List.mem_singleton] at q;rw [q];exact h,fun v hv=>by cases hv⟩,trivial⟩
 |w :: r,t,u,⟨⟨h1,h2,h3⟩,h4⟩,h,hx=>⟨⟨h1,fun p hp=>by
   rcases List.mem_append.1 hp with q | q
   ·exact h2 p q
   ·rw [List.mem_singleton] at q;rw [q];exact h,h3⟩,chs_ext h4 (by
    have h5:=h4.1.1
    exact crs_far h5 h1 hx (Int.le_of_lt (h3 w rfl)) h) (ltP_trans h1 hx)⟩
theorem chs_push {S : List Pt} {x : Pt} (hx : ∀ p ∈ S,ltP p x = true) : ∀ {r : List Pt} {t : Pt},ChS S (t :: r) → (∀ q ∈ t :: r,q ∈ S) →
  (∀ p ∈ S,p = t ∨ ltP t p = true → 0 ≤ crs t x p) → (∀ p ∈ S,p = (t :: r).getLast (by simp) ∨ ltP ((t :: r).getLast (by simp)) p = true) →
  ChS (S ++ [x]) (x :: popR x (t :: r)) ∧ (∀ q ∈ popR x (t :: r),q ∈ S) ∧ (∀ h,(popR x (t :: r)).getLast h = (t :: r).getLast (by simp))
 |[],t,_,hs,hp,hb=>by
  refine ⟨⟨⟨hx t (hs t List.mem_cons_self),fun p h=>?_,fun u hu=>by cases hu⟩,trivial⟩,hs,fun h=>rfl⟩
  rcases List.mem_append.1 h with q | q
  ·exact hp p q (hb p q)
  ·rw [List.mem_singleton] at q;rw [q];exact Int.le_of_eq (crs_self t x).1.symm
 |u :: r,t,hc,hs,hp,hb=>by
  have htx:=hx t (hs t List.mem_cons_self)
  by_cases q : crs u t x ≤ 0
  ·have e : popR x (t :: u :: r) = popR x (u :: r):=by show (if crs u t x ≤ 0 then _ else _) = _;rw [if_pos q]
   rw [e]
   have ih:=chs_push hx (r:=r) (t:=u) hc.2 (fun z hz=>hs z (List.mem_cons_of_mem _ hz)) (fun p h1 h2=>crs_up hc.1.1 htx h2 q (hc.1.2.1 p h1)) hb
   exact ih
  ·have e : popR x (t :: u :: r) = t :: u :: r:=by show (if crs u t x ≤ 0 then _ else _) = _;rw [if_neg q]
   rw [e]
   refine ⟨⟨⟨htx,fun p h=>?_,fun v hv=>by cases hv;omega⟩,chs_ext hc (by omega) htx⟩,hs,fun h=>rfl⟩
   rcases List.mem_append.1 h with k | k
   ·rcases ltP_tri t p with z | z | z
    ·exact hp p k (.inr z)
    ·exact crs_dn hc.1.1 htx z (by omega) (hc.1.2.1 p k)
    ·exact hp p k (.inl z.symm)
   ·rw [List.mem_singleton] at k;rw [k];exact Int.le_of_eq (crs_self t x).1.symm
def Asc (l : List Pt) : Prop:=l.Pairwise fun a b=>ltP a b = true
structure StI (S r : List Pt) (t f : Pt) : Prop where
 ch : ChS S r
 sub : ∀ q ∈ r,q ∈ S
 top : r.head? = some t
 last : r.getLast? = some f
theorem sti (C : List Pt) (hC : Asc C) : ∀ n,0 < n → n ≤ C.length → StI (C.take n) (stkR C n) (C.getD (n - 1) dQ) (C.getD 0 dQ)
 |0,h,_=>absurd h (by omega)
 |1,_,hl=>by
  have e : stkR C 1 = [C.getD 0 dQ]:=by rw [stkR_succ C (by omega)];rfl
  rw [e]
  have e2 : C.take 1 = [C.getD 0 dQ]:=by
   cases C with
   |nil=>simp at hl
   |cons a r=>rfl
  rw [e2]
  exact ⟨trivial,fun q h=>h,rfl,rfl⟩
 |n + 2,_,hl=>by
  obtain ⟨ih1,ih2,ih3,ih4⟩:=sti C hC (n + 1) (by omega) (by omega)
  have hx : n + 1 < C.length:=by omega
  have et : C.take (n + 2) = C.take (n + 1) ++ [C.getD (n + 1) dQ]:=by
   rw [List.take_succ_eq_append_getElem hx];simp [List.getD,hx]
  have hord : ∀ i j,i < j → j < C.length → ltP (C.getD i dQ) (C.getD j dQ) = true:=fun i j h1 h2=>by
   have:=List.pairwise_iff_getElem.1 hC i j (by omega) h2 h1
   simpa [List.getD,show i < C.length by omega,h2] using this
  have hmem : ∀ p,p ∈ C.take (n + 1) → ∃ i,i < n + 1 ∧ p = C.getD i dQ:=fun p hp=>by
   obtain ⟨i,hi,rfl⟩:=List.getElem_of_mem hp
   rw [List.length_take] at hi
   exact ⟨i,by omega,by simp [List.getD,show i < C.length by omega]⟩
  rw [stkR_succ C hx,et]
  generalize hxx : C.getD (n + 1) dQ = x at *
  cases hr : stkR C (n + 1) with
  |nil=>rw [hr] at ih3;cases ih3
  |cons t r=>
   rw [hr] at ih1 ih2 ih3 ih4
   have ht : t = C.getD n dQ:=by simpa using ih3
   have hlast : (t :: r).getLast (by simp) = C.getD 0 dQ:=by
    rw [List.getLast?_eq_some_getLast (by simp)] at ih4
    simpa using ih4
   obtain ⟨h1,h2,h3⟩:=chs_push (S:=C.take (n + 1)) (x:=x) (fun p hp=>by
    obtain ⟨i,hi,rfl⟩:=hmem p hp
    rw [← hxx];exact hord i (n + 1) (by omega) hx) ih1 ih2 (fun p hp hpt=>by
    obtain ⟨i,hi,rfl⟩:=hmem p hp
    by_cases q : i = n
    ·rw [q,← ht];exact Int.le_of_eq (crs_self t x).2.symm
    ·have:=hord i n (by omega) (by omega)
     rw [← ht] at this
     rcases hpt with e | e
     ·exact absurd e (ltP_ne this)
     ·exact absurd e (by rw [sw_ltP.asym this];decide)) (fun p hp=>by
    obtain ⟨i,hi,rfl⟩:=hmem p hp
    rw [hlast]
    by_cases q : i = 0
    ·rw [q];exact .inl rfl
    ·exact .inr (hord 0 i (by omega) (by omega)))
   have hne:=popR_ne x (t :: r) (by simp)
   refine ⟨h1,fun q hq=>?_,by rw [show n + 2 - 1 = n + 1 by omega,hxx];rfl,?_⟩
   ·rcases List.mem_cons.1 hq with e | e
    ·rw [e];exact List.mem_append.2 (.inr (List.mem_singleton.2 rfl))
    ·exact List.mem_append.2 (.inl (h2 q e))
   ·rw [List.getLast?_cons,List.getLast?_eq_some_getLast hne,h3 hne,hlast];rfl
structure Wy (C h : List Pt) (s t : Pt) (lt : Pt → Pt → Prop) : Prop where
 sub : ∀ q ∈ h,q ∈ C
 hd : h.head? = some s
 la : h.getLast? = some t
 adj : ∀ A u v B,h = A ++ u :: v :: B → lt u v ∧ ∀ p ∈ C,0 ≤ crs u v p
 tri : ∀ A w u v B,h = A ++ w :: u :: v :: B → 0 < crs w u v
theorem chs_tail {S : List Pt} : ∀ (B : List Pt) {r : List Pt},ChS S (B ++ r) → ChS S r
 |[],_,h=>h
 |[b],r,h=>by
  cases r with
  |nil=>trivial
  |cons a r=>exact h.2
 |b :: a :: B,r,h=>chs_tail (a :: B) (by exact h.2)
theorem wy_of {C r : List Pt} {t f : Pt} (h : StI C r t f) : Wy C r.reverse f t (fun u v=>ltP u v = true):=by
 obtain ⟨h1,h2,h3,h4⟩:=h
 refine ⟨fun q hq=>h2 q (List.mem_reverse.1 hq),by rw [List.head?_reverse];exact h4,by rw [List.getLast?_reverse];exact h3,fun A u v B e=>?_,fun A w u v B e=>?_⟩
 ·have e2 : r = B.reverse ++ v :: u :: A.reverse:=by
   have:=congrArg List.reverse e
   simpa using this
  rw [e2] at h1
  have:=chs_tail _ h1
  exact ⟨this.1.1,this.1.2.1⟩
 ·have e2 : r = B.reverse ++ v :: u :: w :: A.reverse:=by
   have:=congrArg List.reverse e
   simpa using this
  rw [e2] at h1
  have:=chs_tail _ h1
  exact this.1.2.2 w rfl
def ng (p : Pt) : Pt:=⟨-p.x,-p.y⟩
theorem ng_ng (p : Pt) : ng (ng p) = p:=by cases p;simp [ng]
theorem ng_inj {p q : Pt} (h : ng p = ng q) : p = q:=by have:=congrArg ng h;rwa [ng_ng,ng_ng] at this
theorem crs_ng (a b c : Pt) : crs (ng a) (ng b) (ng c) = crs a b c:=by unfold crs ng;grind
theorem ltP_ng (a b : Pt) : ltP (ng a) (ng b) = ltP b a:=by
 rw [Bool.eq_iff_iff,ltP_lx,ltP_lx]
 unfold LxP ng
 dsimp only
 omega
theorem popR_ng (x : Pt) : ∀ l,popR (ng x) (l.map ng) = (popR x l).map ng
 |[]=>rfl
 |[b]=>rfl
 |b :: a :: r=>by
  show (if crs (ng a) (ng b) (ng x) ≤ 0 then popR (ng x) ((a :: r).map ng) else _) = _
  rw [crs_ng,popR_ng x (a :: r)]
  show _ = (if crs a b x ≤ 0 then popR x (a :: r) else b :: a :: r).map ng
  split <;> rfl
theorem getD_ng (l : List Pt) {i : Nat} (h : i < l.length) : (l.map ng).getD i dQ = ng (l.getD i dQ):=by
 simp [List.getD,h]
theorem stkR_ng (l : List Pt) : ∀ n,n ≤ l.length → stkR (l.map ng) n = (stkR l n).map ng
 |0,_=>by simp [stkR]
 |n + 1,h=>by
  rw [stkR_succ _ (by rw [List.length_map];omega),stkR_succ l (by omega),stkR_ng l n (by omega),getD_ng l (by omega),popR_ng]
  rfl
theorem asc_ng {C : List Pt} (h : Asc C) : Asc (C.reverse.map ng):=by
 unfold Asc at *
 rw [List.pairwise_map,List.pairwise_reverse]
 exact h.imp fun q=>by rw [ltP_ng];exact q
theorem wy_lo {C : List Pt} (hC : Asc C) (h0 : 0 < C.length) : Wy C (stk C) (C.getD 0 dQ) (C.getD (C.length - 1) dQ) (fun u v=>ltP u v = true):=by
 have:=sti C hC C.length h0 (Nat.le_refl _)
 rw [List.take_length] at this
 exact wy_of this
theorem wy_hi {C : List Pt} (hC : Asc C) (h0 : 0 < C.length) : Wy C (stk C.reverse) (C.getD (C.length - 1) dQ) (C.getD 0 dQ) (fun u v=>ltP v u = true):=by
 have hl : (C.reverse.map ng).length = C.length:=by rw [List.length_map,List.length_reverse]
 have h:=sti (C.reverse.map ng) (asc_ng hC) C.length h0 (by omega)
 have e1 : (C.reverse.map ng).take C.length = C.reverse.map ng:=by rw [← hl,List.take_length]
 have e2 : stkR (C.reverse.map ng) C.length = (stkR C.reverse C.length).map ng:=stkR_ng _ _ (by rw [List.length_reverse];omega)
 rw [e1,e2,getD_ng _ (by rw [List.length_reverse];omega),getD_ng _ (by rw [List.length_reverse];omega)] at h
 have w:=wy_of h
 have e3 : ((stkR C.reverse C.length).map ng).reverse = (stk C.reverse).map ng:=by
  unfold stk
  rw [List.length_reverse,List.map_reverse]
 rw [e3] at w
 obtain ⟨w1,w2,w3,w4,w5⟩:=w
 have g0 : C.reverse.getD 0 dQ = C.getD (C.length - 1) dQ:=by
  simp [List.getD,List.getElem?_reverse h0]
 have g1 : C.reverse.getD (C.length - 1) dQ = C.getD 0 dQ:=by
  simp [List.getD,List.getElem?_reverse (show C.length - 1 < C.length by omega),show C.length - 1 - (C.length - 1) = 0 by omega]
 rw [g0] at w2
 rw [g1] at w3
 refine ⟨fun q hq=>?_,?_,?_,fun A u v B e=>?_,fun A w u v B e=>?_⟩
 ·have:=w1 (ng q) (List.mem_map_of_mem hq)
  rw [List.mem_map] at this
  obtain ⟨z,hz,e⟩:=this
  rw [ng_inj e] at hz
  exact List.mem_reverse.1 hz
 ·rw [List.head?_map] at w2
  cases hh : (stk C.reverse).head? with
  |none=>rw [hh] at w2;cases w2
  |some z=>rw [hh] at w2;injection w2 with w2;rw [ng_inj w2]
 ·rw [List.getLast?_map] at w3
  cases hh : (stk C.reverse).getLast? with
  |none=>rw [hh] at w3;cases w3
  |some z=>rw [hh] at w3;injection w3 with w3;rw [ng_inj w3]
 ·have q:=w4 (A.map ng) (ng u) (ng v) (B.map ng) (by rw [e];simp)
  rw [ltP_ng] at q
  refine ⟨q.1,fun p hp=>?_⟩
  have:=q.2 (ng p) (List.mem_map_of_mem (List.mem_reverse.2 hp))
  rwa [crs_ng] at this
 ·have q:=w5 (A.map ng) (ng w) (ng u) (ng v) (B.map ng) (by rw [e];simp)
  rwa [crs_ng] at q
theorem neg_nn {b x : Int} (hb : 0 < b) (h : b * x ≤ 0) : x ≤ 0:=by
 apply Classical.byContradiction
 intro q
 have:=Int.mul_pos hb (show 0 < x by omega)
 omega
theorem cone {d : Dr} {u v w P : Pt} (h : 0 < crs u v w) (h1 : 0 ≤ crs v w P) (h2 : 0 ≤ crs u v P) (hu : dot d u ≤ dot d v) (hw : dot d w ≤ dot d v) : dot d P ≤ dot d v:=by
 have hid : crs u v w * (dot d P - dot d v) = crs u v P * (dot d w - dot d v) + crs v w P * (dot d u - dot d v):=by
  unfold crs dot;grind
 have h3 : crs u v P * (dot d w - dot d v) ≤ 0:=Int.mul_nonpos_of_nonneg_of_nonpos h2 (by omega)
 have h4 : crs v w P * (dot d u - dot d v) ≤ 0:=Int.mul_nonpos_of_nonneg_of_nonpos h1 (by omega)
 have:=neg_nn h (show crs u v w * (dot d P - dot d v) ≤ 0 by omega)
 omega
theorem exists_max (d : Dr) : ∀ (l : List Pt),l ≠ [] → ∃ v ∈ l,∀ q ∈ l,dot d q ≤ dot d v
 |[],h=>absurd rfl h
 |[a],_=>⟨a,by simp,fun q hq=>by rw [List.mem_singleton] at hq;rw [hq];exact Int.le_refl _⟩
 |a :: b :: r,_=>by
  obtain ⟨v,hv,hm⟩:=exists_max d (b :: r) (by simp)
  by_cases q : dot d v ≤ dot d a
  ·refine ⟨a,List.mem_cons_self,fun x hx=>?_⟩
   rcases List.mem_cons.1 hx with rfl | hx
   ·exact Int.le_refl _
   ·exact Int.le_trans (hm x hx) q
  ·refine ⟨v,List.mem_cons_of_mem _ hv,fun x hx=>?_⟩
   rcases List.mem_cons.1 hx with rfl | hx
   ·omega
   ·exact hm x hx
theorem mem_cut {l : List Pt} {v : Pt} (h : v ∈ l) : (∃ A w B,l = A ++ v :: w :: B) ∨ l.getLast? = some v:=by
 obtain ⟨A,B,rfl⟩:=List.append_of_mem h
 cases B with
 |nil=>right;simp
 |cons w B=>exact .inl ⟨A,w,B,rfl⟩
theorem last_cut {A : List Pt} {v : Pt} (h : A ≠ []) : ∃ A' u,A = A' ++ [u]:=⟨A.dropLast,A.getLast h,(List.dropLast_concat_getLast h).symm⟩
theorem col3 {v w a b c : Pt} (hvw : v ≠ w) (h1 : crs v w a = 0) (h2 : crs v w b = 0) (h3 : crs v w c = 0) : crs a b c = 0:=by
 have e1 : (w.x - v.x) * crs a b c = 0:=by
  have : (w.x - v.x) * crs a b c = (b.x - a.x) * (crs v w c - crs v w a) - (c.x - a.x) * (crs v w b - crs v w a):=by unfold crs;grind
  rw [this,h1,h2,h3];simp
 have e2 : (w.y - v.y) * crs a b c = 0:=by
  have : (w.y - v.y) * crs a b c = (b.y - a.y) * (crs v w c - crs v w a) - (c.y - a.y) * (crs v w b - crs v w a):=by unfold crs;grind
  rw [this,h1,h2,h3];simp
 rcases Int.mul_eq_zero.1 e1 with q | q
 ·rcases Int.mul_eq_zero.1 e2 with q2 | q2
  ·exfalso;apply hvw
   cases v;cases w
   dsimp only at q q2
   congr 1 <;> omega
  ·exact q2
 ·exact q
section
variable {C L H : List Pt} {s t : Pt}
theorem corner_lo (hL : Wy C L s t (fun u v=>ltP u v = true)) (hH : Wy C H t s (fun u v=>ltP v u = true)) (hs : ∀ p ∈ C,p = s ∨ ltP s p = true) {w u : Pt} {B A : List Pt} (e1 : L = s :: w :: B) (e2 : H = A ++ u :: s :: []) :
  0 < crs u s w ∨ ∀ p ∈ C,crs s w p = 0:=by
 have a1:=hL.adj [] s w B e1
 have a2:=hH.adj A u s [] e2
 have hu : u ∈ C:=hH.sub u (by rw [e2];simp)
 have h1:=a1.2 u hu
 have e3 : crs u s w = crs s w u:=by unfold crs;grind
 by_cases q : crs s w u = 0
 ·right
  intro p hp
  have p1:=a1.2 p hp
  have p2:=a2.2 p hp
  have lw:=ltP_lx.1 a1.1
  have lu:=ltP_lx.1 a2.1
  have lp : LxN (p.x - s.x) (p.y - s.y):=by
   rcases hs p hp with rfl | k
   ·unfold LxN;omega
   ·exact (ltP_lx.1 k).n
  have f1 : crs u s p = (p.x - s.x) * (u.y - s.y) - (p.y - s.y) * (u.x - s.x):=by unfold crs;grind
  have f2 : (u.x - s.x) * (w.y - s.y) - (u.y - s.y) * (w.x - s.x) = -crs s w u:=by unfold crs;grind
  have f3 : crs s w p = -((p.x - s.x) * (w.y - s.y) - (p.y - s.y) * (w.x - s.x)):=by unfold crs;grind
  rw [f1] at p2
  have:=crx_trans lp lu lw.n p2 (by rw [f2];omega)
  omega
 ·left;omega
theorem corner_hi (hL : Wy C L s t (fun u v=>ltP u v = true)) (hH : Wy C H t s (fun u v=>ltP v u = true)) (ht : ∀ p ∈ C,p = t ∨ ltP p t = true) {w u : Pt} {B A : List Pt} (e1 : H = t :: w :: B) (e2 : L = A ++ u :: t :: []) :
  0 < crs u t w ∨ ∀ p ∈ C,crs t w p = 0:=by
 have a1:=hH.adj [] t w B e1
 have a2:=hL.adj A u t [] e2
 have hu : u ∈ C:=hL.sub u (by rw [e2];simp)
 have h1:=a1.2 u hu
 have e3 : crs u t w = crs t w u:=by unfold crs;grind
 by_cases q : crs t w u = 0
 ·right
  intro p hp
  have p1:=a1.2 p hp
  have p2:=a2.2 p hp
  have lw:=ltP_lx.1 a1.1
  have lu:=ltP_lx.1 a2.1
  have lp : LxN (t.x - p.x) (t.y - p.y):=by
   rcases ht p hp with rfl | k
   ·unfold LxN;omega
   ·exact (ltP_lx.1 k).n
  have f1 : crs u t p = (t.x - p.x) * (t.y - u.y) - (t.y - p.y) * (t.x - u.x):=by unfold crs;grind
  have f2 : (t.x - u.x) * (t.y - w.y) - (t.y - u.y) * (t.x - w.x) = -crs t w u:=by unfold crs;grind
  have f3 : crs t w p = -((t.x - p.x) * (t.y - w.y) - (t.y - p.y) * (t.x - w.x)):=by unfold crs;grind
  rw [f1] at p2
  have:=crx_trans lp lu lw.n p2 (by rw [f2];omega)
  omega
 ·left;omega
theorem two_first {l : List Pt} (h1 : l.head? = some s) (h2 : l.getLast? = some t) (h : s ≠ t) : ∃ w B,l = s :: w :: B:=by
 cases l with
 |nil=>cases h1
 |cons a r=>
  injection h1 with h1
  subst h1
  cases r with
  |nil=>simp at h2;exact absurd h2 h
  |cons w B=>exact ⟨w,B,rfl⟩
theorem two_last {l : List Pt} (h1 : l.head? = some s) (h2 : l.getLast? = some t) (h : s ≠ t) : ∃ A u,l = A ++ u :: t :: []:=by
 obtain ⟨w,B,rfl⟩:=two_first h1 h2 h
 have hne : (s :: w :: B) ≠ []:=by simp
 have e:=List.dropLast_concat_getLast hne
 rw [List.getLast?_eq_some_getLast hne] at h2
 injection h2 with h2
 rw [h2] at e
 obtain ⟨A,u,e2⟩:=last_cut (A:=(s :: w :: B).dropLast) (v:=t) (by simp)
 rw [e2] at e
 exact ⟨A,u,by rw [← e];simp⟩
theorem one_way (hL : Wy C L s t (fun u v=>ltP u v = true)) (hH : Wy C H t s (fun u v=>ltP v u = true)) (hst : s ≠ t) (h : ∀ a ∈ C,∀ b ∈ C,∀ c ∈ C,crs a b c = 0) : L = [s,t] ∧ H = [t,s]:=by
 obtain ⟨w,B,e⟩:=two_first hL.hd hL.la hst
 obtain ⟨w2,B2,e2⟩:=two_first hH.hd hH.la (Ne.symm hst)
 constructor
 ·cases B with
  |nil=>
   have:=hL.la
   rw [e] at this ⊢
   simp at this
   rw [this]
  |cons x B=>
   have:=hL.tri [] s w x B e
   rw [h s (hL.sub _ (by rw [e];simp)) w (hL.sub _ (by rw [e];simp)) x (hL.sub _ (by rw [e];simp))] at this
   omega
 ·cases B2 with
  |nil=>
   have:=hH.la
   rw [e2] at this ⊢
   simp at this
   rw [this]
  |cons x B=>
   have:=hH.tri [] t w2 x B e2
   rw [h t (hH.sub _ (by rw [e2];simp)) w2 (hH.sub _ (by rw [e2];simp)) x (hH.sub _ (by rw [e2];simp))] at this
   omega
theorem sat (hL : Wy C L s t (fun u v=>ltP u v = true)) (hH : Wy C H t s (fun u v=>ltP v u = true)) (hst : s ≠ t) (hs : ∀ p ∈ C,p = s ∨ ltP s p = true) (ht : ∀ p ∈ C,p = t ∨ ltP p t = true)
  {P : Pt} (hPL : ∀ A u v B,L = A ++ u :: v :: B → 0 ≤ crs u v P) (hPH : ∀ A u v B,H = A ++ u :: v :: B → 0 ≤ crs u v P) (d : Dr) :
  (∃ v ∈ L ++ H,dot d P ≤ dot d v) ∨ (L = [s,t] ∧ H = [t,s]):=by
 obtain ⟨w0,B0,eL0⟩:=two_first hL.hd hL.la hst
 obtain ⟨w1,B1,eH0⟩:=two_first hH.hd hH.la (Ne.symm hst)
 obtain ⟨A2,u2,eL1⟩:=two_last hL.hd hL.la hst
 obtain ⟨A3,u3,eH1⟩:=two_last hH.hd hH.la (Ne.symm hst)
 have hcol : ∀ {a b : Pt},a ≠ b → (∀ p ∈ C,crs a b p = 0) → L = [s,t] ∧ H = [t,s]:=fun hab h=>one_way hL hH hst (fun x hx y hy z hz=>col3 hab (h x hx) (h y hy) (h z hz))
 obtain ⟨v,hv,hm⟩:=exists_max d (L ++ H) (by rw [eL0];simp)
 have hmL : ∀ q ∈ L,dot d q ≤ dot d v:=fun q hq=>hm q (List.mem_append.2 (.inl hq))
 have hmH : ∀ q ∈ H,dot d q ≤ dot d v:=fun q hq=>hm q (List.mem_append.2 (.inr hq))
 have atS : v = s → (∃ v ∈ L ++ H,dot d P ≤ dot d v) ∨ (L = [s,t] ∧ H = [t,s]):=fun e=>by
  subst e
  rcases corner_lo hL hH hs eL0 eH1 with k | k
  ·exact .inl ⟨v,hv,cone k (hPL [] v w0 B0 eL0) (hPH A3 u3 v [] eH1) (hmH u3 (by rw [eH1];simp)) (hmL w0 (by rw [eL0];simp))⟩
  ·exact .inr (hcol (ltP_ne (hL.adj [] v w0 B0 eL0).1) k)
 have atT : v = t → (∃ v ∈ L ++ H,dot d P ≤ dot d v) ∨ (L = [s,t] ∧ H = [t,s]):=fun e=>by
  subst e
  rcases corner_hi hL hH ht eH0 eL1 with k | k
  ·exact .inl ⟨v,hv,cone k (hPH [] v w1 B1 eH0) (hPL A2 u2 v [] eL1) (hmL u2 (by rw [eL1];simp)) (hmH w1 (by rw [eH0];simp))⟩
  ·exact .inr (hcol (Ne.symm (ltP_ne (hH.adj [] v w1 B1 eH0).1)) k)
 rcases List.mem_append.1 hv with hv' | hv'
 ·rcases mem_cut hv' with ⟨A,w,B,e⟩ | e
  ·cases A with
   |nil=>
    apply atS
    rw [eL0] at e
    injection e with e _
    exact e.symm
   |cons a A=>
    obtain ⟨A',u,e2⟩:=last_cut (A:=a :: A) (v:=v) (by simp)
    rw [e2] at e
    have e : L = A' ++ u :: v :: w :: B:=by rw [e];simp
    exact .inl ⟨v,hv,cone (hL.tri A' u v w B e) (hPL (A' ++ [u]) v w B (by rw [e];simp)) (hPL A' u v (w :: B) e) (hmL u (by rw [e];simp)) (hmL w (by rw [e];simp))⟩
  ·apply atT
   have:=hL.la
   rw [e] at this
   injection this
 ·rcases mem_cut hv' with ⟨A,w,B,e⟩ | e
  ·cases A with
   |nil=>
    apply atT
    rw [eH0] at e
    injection e with e _
    exact e.symm
   |cons a A=>
    obtain ⟨A',u,e2⟩:=last_cut (A:=a :: A) (v:=v) (by simp)
    rw [e2] at e
    have e : H = A' ++ u :: v :: w :: B:=by rw [e];simp
    exact .inl ⟨v,hv,cone (hH.tri A' u v w B e) (hPH (A' ++ [u]) v w B (by rw [e];simp)) (hPH A' u v (w :: B) e) (hmH u (by rw [e];simp)) (hmH w (by rw [e];simp))⟩
  ·apply atS
   have:=hH.la
   rw [e] at this
   injection this
end
theorem cpt_asc {l : List Pt} (hl : SrtL ltP l) : ∀ n,0 < n → n ≤ l.length → Asc (cpt l n) ∧ (cpt l n).getLast? = some (l.getD (n - 1) dQ) ∧ ∀ p ∈ l.take n,p ∈ cpt l n
 |0,h,_=>absurd h (by omega)
 |1,_,h=>by
  show Asc (l.take 1) ∧ (l.take 1).getLast? = _ ∧ _
  cases l with
  |nil=>simp at h
  |cons a r=>exact ⟨by simp [Asc],rfl,fun p hp=>hp⟩
 |n + 2,_,h=>by
  obtain ⟨h1,h2,h3⟩:=cpt_asc hl (n + 1) (by omega) (by omega)
  have hx : n + 1 < l.length:=by omega
  have et : l.take (n + 2) = l.take (n + 1) ++ [l.getD (n + 1) dQ]:=by
   rw [List.take_succ_eq_append_getElem hx];simp [List.getD,hx]
  rw [show n + 1 - 1 = n by omega] at h2
  rw [et]
  rw [show n + 2 - 1 = n + 1 by omega]
  by_cases q : eqP (l.getD (n + 1) dQ) (l.getD n dQ) = true
  ·have e : cpt l (n + 2) = cpt l (n + 1):=by rw [cpt_succ l (by omega),show n + 1 - 1 = n by omega,if_pos q]
   rw [e,eqP_iff.1 q]
   refine ⟨h1,h2,fun p hp=>?_⟩
   rcases List.mem_append.1 hp with k | k
   ·exact h3 p k
   ·rw [List.mem_singleton] at k
    rw [k]
    exact List.mem_of_getLast? h2
  ·have e : cpt l (n + 2) = cpt l (n + 1) ++ [l.getD (n + 1) dQ]:=by rw [cpt_succ l (by omega),show n + 1 - 1 = n by omega,if_neg q]
   rw [e]
   have hlt : ltP (l.getD n dQ) (l.getD (n + 1) dQ) = true:=by
    rcases ltP_tri (l.getD n dQ) (l.getD (n + 1) dQ) with k | k | k
    ·exact k
    ·have:=srt_get hl dQ (show n < n + 1 by omega) hx
     rw [k] at this;cases this
    ·exact absurd (eqP_iff.2 k.symm) q
   refine ⟨?_,by simp,fun p hp=>?_⟩
   ·unfold Asc
    rw [List.pairwise_append]
    refine ⟨h1,by simp,fun a ha b hb=>?_⟩
    rw [List.mem_singleton] at hb
    rw [hb]
    obtain ⟨A,e2⟩ : ∃ A,cpt l (n + 1) = A ++ [l.getD n dQ]:=by
     have hne : cpt l (n + 1) ≠ []:=fun e=>by rw [e] at h2;cases h2
     rw [List.getLast?_eq_some_getLast hne] at h2
     injection h2 with h2
     exact ⟨_,by rw [← h2];exact (List.dropLast_concat_getLast hne).symm⟩
    rw [e2] at ha h1
    rcases List.mem_append.1 ha with k | k
    ·unfold Asc at h1
     rw [List.pairwise_append] at h1
     exact ltP_trans (h1.2.2 a k _ (by simp)) hlt
    ·rw [List.mem_singleton] at k
     rw [k];exact hlt
   ·rcases List.mem_append.1 hp with k | k
    ·exact List.mem_append.2 (.inl (h3 p k))
    ·exact List.mem_append.2 (.inr k)
def srC (G : List Pt) : List Pt:=cpt (isort ltP G) G.length
theorem srC_ok {G : List Pt} (h : 0 < G.length) : Asc (srC G) ∧ 0 < (srC G).length ∧ ∀ p,p ∈ srC G ↔ p ∈ G:=by
 have hl:=isort_len (lt:=ltP) G
 obtain ⟨h1,h2,h3⟩:=cpt_asc (srt_isort sw_ltP G) G.length h (by omega)
 refine ⟨h1,?_,fun p=>⟨fun hp=>(isort_mem G).1 (cpt_mem _ _ (by omega) hp),fun hp=>?_⟩⟩
 ·exact cpt_ne _ _ h (by omega)
 ·apply h3
  rw [← hl,List.take_length]
  exact (isort_mem G).2 hp
theorem crn_eq (G : List Pt) : crn G = if (srC G).length < 2 then srC G else (stk (srC G)).dropLast ++ (stk (srC G).reverse).dropLast:=rfl
theorem foldm (d : Dr) : ∀ (l : List Pt) (a b : Int),(∀ q ∈ l,dot d q ≤ (l.foldl (fun s p=>(min s.1 (dot d p),max s.2 (dot d p))) (a,b)).2) ∧ b ≤ (l.foldl (fun s p=>(min s.1 (dot d p),max s.2 (dot d p))) (a,b)).2 ∧ ((l.foldl (fun s p=>(min s.1 (dot d p),max s.2 (dot d p))) (a,b)).2 = b ∨ ∃ q ∈ l,(l.foldl (fun s p=>(min s.1 (dot d p),max s.2 (dot d p))) (a,b)).2 = dot d q)
 |[],a,b=>⟨(fun q h=>by cases h),Int.le_refl _,.inl rfl⟩
 |p :: l,a,b=>by
  obtain ⟨h1,h2,h3⟩:=foldm d l (min a (dot d p)) (max b (dot d p))
  rw [List.foldl_cons]
  generalize (l.foldl (fun s p=>(min s.1 (dot d p),max s.2 (dot d p))) (min a (dot d p),max b (dot d p))).2 = M at *
  refine ⟨fun q hq=>?_,by omega,?_⟩
  ·rcases List.mem_cons.1 hq with rfl | hq
   ·omega
   ·exact h1 q hq
  ·rcases h3 with h3 | ⟨q,hq,h3⟩
   ·by_cases c : b ≤ dot d p
    ·exact .inr ⟨p,List.mem_cons_self,by omega⟩
    ·exact .inl (by omega)
   ·exact .inr ⟨q,List.mem_cons_of_mem _ hq,h3⟩
theorem hiS_iff (d : Dr) {h : List Pt} (h0 : h ≠ []) (x : Int) : x ≤ hiS d h ↔ ∃ q ∈ h,x ≤ dot d q:=by
 cases h with
 |nil=>exact absurd rfl h0
 |cons a r=>
  have e : hiS d (a :: r) = (r.foldl (fun s p=>(min s.1 (dot d p),max s.2 (dot d p))) (dot d a,dot d a)).2:=by
   unfold hiS spn
   have : (List.drop 1 (a :: r)).take ((a :: r).length - 1) = r:=by
    show r.take (r.length + 1 - 1) = r
    rw [Nat.add_sub_cancel,List.take_length]
   rw [this];rfl
  obtain ⟨h1,h2,h3⟩:=foldm d r (dot d a) (dot d a)
  rw [e]
  generalize (r.foldl (fun s p=>(min s.1 (dot d p),max s.2 (dot d p))) (dot d a,dot d a)).2 = M at *
  constructor
  ·intro hx
   rcases h3 with h3 | ⟨q,hq,h3⟩
   ·exact ⟨a,List.mem_cons_self,by omega⟩
   ·exact ⟨q,List.mem_cons_of_mem _ hq,by omega⟩
  ·rintro ⟨q,hq,hx⟩
   rcases List.mem_cons.1 hq with rfl | hq
   ·omega
   ·have:=h1 q hq;omega
theorem loS_one (d : Dr) (P : Pt) : loS d [P] = dot d P:=rfl
theorem apB_no {H : List Pt} {P : Pt} (h0 : H ≠ []) : apB H [P] = false ↔ ∀ d ∈ drL H [P],∃ q ∈ H,dot d P ≤ dot d q:=by
 unfold apB
 rw [Option.isSome_eq_false_iff,Option.isNone_iff_eq_none]
 unfold fdD
 rw [List.find?_eq_none]
 constructor
 ·intro h d hd
  have:=h d hd
  rw [decide_eq_true_eq,loS_one] at this
  exact (hiS_iff d h0 _).1 (by omega)
 ·intro h d hd
  have:=(hiS_iff d h0 _).2 (h d hd)
  rw [decide_eq_true_eq,loS_one]
  omega
theorem dd_at {H : List Pt} {i : Nat} (hi : i < H.length) : ∀ d ∈ dd (H.getD i dQ) (H.getD ((i + 1) % H.length) dQ),d ∈ sdL H:=fun d hd=>by
 unfold sdL sdN
 rw [List.mem_flatMap]
 exact ⟨i,List.mem_range.2 hi,hd⟩
theorem getD_mid {A R : List Pt} {u : Pt} : (A ++ u :: R).getD A.length dQ = u:=by simp [List.getD]
theorem dd_in {H A R : List Pt} {u v : Pt} (h : H = A ++ u :: v :: R) : ∀ d ∈ dd u v,d ∈ sdL H:=fun d hd=>by
 have e1 : H.getD A.length dQ = u:=by rw [h];exact getD_mid
 have hl : H.length = A.length + R.length + 2:=by rw [h];simp;omega
 have e2 : H.getD (A.length + 1) dQ = v:=by
  rw [h,show A ++ u :: v :: R = (A ++ [u]) ++ v :: R by simp,show A.length + 1 = (A ++ [u]).length by simp]
  exact getD_mid
 have:=dd_at (H:=H) (i:=A.length) (by omega) d
 rw [Nat.mod_eq_of_lt (by omega),e1,e2] at this
 exact this hd
theorem dd_wrap {H A : List Pt} {u v : Pt} (h : H = A ++ [u]) (hv : H.head? = some v) : ∀ d ∈ dd u v,d ∈ sdL H:=fun d hd=>by
 have e1 : H.getD A.length dQ = u:=by rw [h];exact getD_mid
 have hl : H.length = A.length + 1:=by rw [h];simp
 have e2 : H.getD 0 dQ = v:=by
  cases H with
  |nil=>cases hv
  |cons a r=>injection hv
 have:=dd_at (H:=H) (i:=A.length) (by omega) d
 rw [hl,Nat.mod_self,e1,e2] at this
 exact this hd
theorem crs_dot (u v q : Pt) : crs u v q = dot (v.y - u.y,0 - (v.x - u.x)) u - dot (v.y - u.y,0 - (v.x - u.x)) q:=by
 unfold crs dot;grind
theorem sq_nn (x : Int) : 0 ≤ x * x:=by
 rcases Int.le_total 0 x with h | h
 ·exact Int.mul_nonneg h h
 ·exact Int.mul_nonneg_of_nonpos_of_nonpos h h
theorem sq_sum0 {x y : Int} (h : x * x + y * y ≤ 0) : x = 0 ∧ y = 0:=by
 have h1:=sq_nn x
 have h2:=sq_nn y
 constructor
 ·rcases Int.mul_eq_zero.1 (show x * x = 0 by omega) with q | q <;> exact q
 ·rcases Int.mul_eq_zero.1 (show y * y = 0 by omega) with q | q <;> exact q
theorem seg {d : Dr} {s t P : Pt} (hst : s ≠ t) (h0 : crs s t P = 0) (h1 : dot (t.x - s.x,t.y - s.y) s ≤ dot (t.x - s.x,t.y - s.y) P) (h2 : dot (t.x - s.x,t.y - s.y) P ≤ dot (t.x - s.x,t.y - s.y) t) : dot d P ≤ dot d s ∨ dot d P ≤ dot d t:=by
 have hU : 0 < (t.x - s.x) * (t.x - s.x) + (t.y - s.y) * (t.y - s.y):=by
  apply Classical.byContradiction
  intro q
  obtain ⟨a,b⟩:=sq_sum0 (show (t.x - s.x) * (t.x - s.x) + (t.y - s.y) * (t.y - s.y) ≤ 0 by omega)
  apply hst
  cases s;cases t
  dsimp only at a b
  congr 1 <;> omega
 have hid : ((t.x - s.x) * (t.x - s.x) + (t.y - s.y) * (t.y - s.y)) * (dot d P - dot d s) = (dot (t.x - s.x,t.y - s.y) P - dot (t.x - s.x,t.y - s.y) s) * (dot d t - dot d s) + crs s t P * ((t.x - s.x) * d.2 - (t.y - s.y) * d.1):=by
  unfold crs dot;grind
 rw [h0,Int.zero_mul,Int.add_zero] at hid
 have hUe : dot (t.x - s.x,t.y - s.y) t - dot (t.x - s.x,t.y - s.y) s = (t.x - s.x) * (t.x - s.x) + (t.y - s.y) * (t.y - s.y):=by
  unfold dot;grind
 have hm1 : 0 ≤ dot (t.x - s.x,t.y - s.y) P - dot (t.x - s.x,t.y - s.y) s:=by omega
 have hm2 : dot (t.x - s.x,t.y - s.y) P - dot (t.x - s.x,t.y - s.y) s ≤ (t.x - s.x) * (t.x - s.x) + (t.y - s.y) * (t.y - s.y):=by omega
 generalize dot (t.x - s.x,t.y - s.y) P - dot (t.x - s.x,t.y - s.y) s = m at *
 by_cases q : dot d t ≤ dot d s
 ·left
  have h3 : m * (dot d t - dot d s) ≤ 0:=Int.mul_nonpos_of_nonneg_of_nonpos hm1 (by omega)
  have:=neg_nn hU (show _ ≤ 0 by rw [hid];exact h3)
  omega
 ·right
  have h3 : m * (dot d t - dot d s) ≤ ((t.x - s.x) * (t.x - s.x) + (t.y - s.y) * (t.y - s.y)) * (dot d t - dot d s):=Int.mul_le_mul_of_nonneg_right hm2 (by omega)
  have h4 : ((t.x - s.x) * (t.x - s.x) + (t.y - s.y) * (t.y - s.y)) * (dot d P - dot d t) ≤ 0:=by
   have : ((t.x - s.x) * (t.x - s.x) + (t.y - s.y) * (t.y - s.y)) * (dot d P - dot d t) = ((t.x - s.x) * (t.x - s.x) + (t.y - s.y) * (t.y - s.y)) * (dot d P - dot d s) - ((t.x - s.x) * (t.x - s.x) + (t.y - s.y) * (t.y - s.y)) * (dot d t - dot d s):=by grind
   rw [this,hid];omega
  have:=neg_nn hU h4
  omega
structure Rnd (G L K : List Pt) (s t : Pt) : Prop where
 st : s ≠ t
 lo : Wy (srC G) L s t (fun u v=>ltP u v = true)
 hi : Wy (srC G) K t s (fun u v=>ltP v u = true)
 fs : ∀ p ∈ srC G,p = s ∨ ltP s p = true
 ls : ∀ p ∈ srC G,p = t ∨ ltP p t = true
 eq : crn G = L.dropLast ++ K.dropLast
theorem crn_cases {G : List Pt} (h : 0 < G.length) : (∃ a,srC G = [a] ∧ crn G = [a]) ∨ ∃ L K s t,Rnd G L K s t:=by
 obtain ⟨h1,h2,h3⟩:=srC_ok h
 by_cases q : (srC G).length < 2
 ·left
  have e : crn G = srC G:=by rw [crn_eq,if_pos q]
  rw [e]
  generalize srC G = C at *
  match C,h2,q with
  |[a],_,_=>exact ⟨a,rfl,rfl⟩
 ·right
  have hord : ∀ i j,i < j → j < (srC G).length → ltP ((srC G).getD i dQ) ((srC G).getD j dQ) = true:=fun i j a1 a2=>by
   have:=List.pairwise_iff_getElem.1 h1 i j (by omega) a2 a1
   simpa [List.getD,show i < (srC G).length by omega,a2] using this
  have hmem : ∀ p,p ∈ srC G → ∃ i,i < (srC G).length ∧ p = (srC G).getD i dQ:=fun p hp=>by
   obtain ⟨i,hi,rfl⟩:=List.getElem_of_mem hp
   exact ⟨i,hi,by simp [List.getD,hi]⟩
  refine ⟨_,_,_,_,⟨ltP_ne (hord 0 ((srC G).length - 1) (by omega) (by omega)),wy_lo h1 h2,wy_hi h1 h2,fun p hp=>?_,fun p hp=>?_,by rw [crn_eq,if_neg q]⟩⟩
  ·obtain ⟨i,hi,rfl⟩:=hmem p hp
   by_cases k : i = 0
   ·rw [k];exact .inl rfl
   ·exact .inr (hord 0 i (by omega) hi)
  ·obtain ⟨i,hi,rfl⟩:=hmem p hp
   by_cases k : i = (srC G).length - 1
   ·rw [k];exact .inl rfl
   ·exact .inr (hord i _ (by omega) (by omega))
section
variable {G L K : List Pt} {s t : Pt}
theorem Rnd.mem (h : Rnd G L K s t) {v : Pt} (hv : v ∈ L ++ K) : v ∈ crn G:=by
 obtain ⟨w0,B0,eL0⟩:=two_first h.lo.hd h.lo.la h.st
 obtain ⟨w1,B1,eH0⟩:=two_first h.hi.hd h.hi.la (Ne.symm h.st)
 have hs : s ∈ L.dropLast:=by rw [eL0];simp
 have ht : t ∈ K.dropLast:=by rw [eH0];simp
 rw [h.eq]
 rcases List.mem_append.1 hv with k | k
 ·rcases mem_cut k with ⟨A,w,B,e⟩ | e
  ·apply List.mem_append.2;left
   rw [e,show A ++ v :: w :: B = (A ++ [v]) ++ (w :: B) by simp,List.dropLast_append_of_ne_nil (by simp)]
   simp
  ·have:=h.lo.la
   rw [e] at this;injection this with this
   rw [this];exact List.mem_append.2 (.inr ht)
 ·rcases mem_cut k with ⟨A,w,B,e⟩ | e
  ·apply List.mem_append.2;right
   rw [e,show A ++ v :: w :: B = (A ++ [v]) ++ (w :: B) by simp,List.dropLast_append_of_ne_nil (by simp)]
   simp
  ·have:=h.hi.la
   rw [e] at this;injection this with this
   rw [this];exact List.mem_append.2 (.inl hs)
theorem Rnd.dd_lo (h : Rnd G L K s t) {A B : List Pt} {u v : Pt} (e : L = A ++ u :: v :: B) : ∀ d ∈ dd u v,d ∈ sdL (crn G):=by
 obtain ⟨w1,B1,eH0⟩:=two_first h.hi.hd h.hi.la (Ne.symm h.st)
 rw [h.eq]
 cases B with
 |nil=>
  have hv : v = t:=by have:=h.lo.la;rw [e] at this;simpa using this
  subst hv
  refine dd_in (A:=A) (R:=(w1 :: B1).dropLast) ?_
  rw [e,eH0,show A ++ [u,v] = (A ++ [u]) ++ [v] by simp,List.dropLast_concat]
  simp
 |cons x B=>
  refine dd_in (A:=A) (R:=(x :: B).dropLast ++ K.dropLast) ?_
  rw [e,show A ++ u :: v :: x :: B = (A ++ [u,v]) ++ (x :: B) by simp,List.dropLast_append_of_ne_nil (by simp)]
  simp
theorem Rnd.dd_hi (h : Rnd G L K s t) {A B : List Pt} {u v : Pt} (e : K = A ++ u :: v :: B) : ∀ d ∈ dd u v,d ∈ sdL (crn G):=by
 obtain ⟨w0,B0,eL0⟩:=two_first h.lo.hd h.lo.la h.st
 rw [h.eq]
 cases B with
 |nil=>
  have hv : v = s:=by have:=h.hi.la;rw [e] at this;simpa using this
  subst hv
  refine dd_wrap (A:=L.dropLast ++ A) ?_ ?_
  ·rw [e,show A ++ [u,v] = (A ++ [u]) ++ [v] by simp,List.dropLast_concat]
   simp
  ·rw [eL0];simp
 |cons x B=>
  refine dd_in (A:=L.dropLast ++ A) (R:=(x :: B).dropLast) ?_
  rw [e,show A ++ u :: v :: x :: B = (A ++ [u,v]) ++ (x :: B) by simp,List.dropLast_append_of_ne_nil (by simp)]
  simp
theorem Rnd.crnC (h : Rnd G L K s t) {q : Pt} (hq : q ∈ crn G) : q ∈ srC G:=by
 rw [h.eq] at hq
 rcases List.mem_append.1 hq with k | k
 ·exact h.lo.sub q (List.dropLast_subset _ k)
 ·exact h.hi.sub q (List.dropLast_subset _ k)
theorem Rnd.two (h : Rnd G L K s t) (e1 : L = [s,t]) (e2 : K = [t,s]) : crn G = [s,t]:=by rw [h.eq,e1,e2];rfl
end
theorem apB_iff {G : List Pt} {P : Pt} (h : 0 < G.length) : apB (crn G) [P] = false ↔ ∀ d : Dr,∃ g ∈ G,dot d P ≤ dot d g:=by
 obtain ⟨q1,q2,q3⟩:=srC_ok h
 have hne : crn G ≠ []:=fun e=>by have:=(crn_rng G h).1.1;rw [e] at this;simp at this
 rw [apB_no hne]
 rcases crn_cases h with ⟨a,e1,e2⟩ | ⟨L,K,s,t,R⟩
 ·have haG : a ∈ G:=(q3 a).1 (by rw [e1];simp)
  have hG : ∀ g ∈ G,g = a:=fun g hg=>by have:=(q3 g).2 hg;rw [e1] at this;simpa using this
  rw [e2]
  constructor
  ·intro hd d
   obtain ⟨q,hq,hle⟩:=hd (d0 [a] [P]) (List.mem_cons_self)
   rw [List.mem_singleton] at hq
   subst hq
   have : dot (d0 [q] [P]) P - dot (d0 [q] [P]) q = (P.x - q.x) * (P.x - q.x) + (P.y - q.y) * (P.y - q.y):=by
    show dot (P.x - q.x,P.y - q.y) P - dot (P.x - q.x,P.y - q.y) q = _
    unfold dot;grind
   obtain ⟨u1,u2⟩:=sq_sum0 (show (P.x - q.x) * (P.x - q.x) + (P.y - q.y) * (P.y - q.y) ≤ 0 by omega)
   have : P = q:=by
    cases P;cases q
    dsimp only at u1 u2
    congr 1 <;> omega
   exact ⟨q,haG,by rw [this];exact Int.le_refl _⟩
  ·intro hd d _
   obtain ⟨g,hg,hle⟩:=hd d
   exact ⟨a,by simp,by rw [hG g hg] at hle;exact hle⟩
 ·have hL : ∀ A u v B,L = A ++ u :: v :: B → ltP u v = true ∧ ∀ p ∈ srC G,0 ≤ crs u v p:=R.lo.adj
  have hK : ∀ A u v B,K = A ++ u :: v :: B → ltP v u = true ∧ ∀ p ∈ srC G,0 ≤ crs u v p:=R.hi.adj
  constructor
  ·intro hd d
   have hdr : ∀ x ∈ sdL (crn G),∃ q ∈ crn G,dot x P ≤ dot x q:=fun x hx=>hd x (List.mem_cons_of_mem _ (List.mem_append.2 (.inl hx)))
   have hedge : ∀ u v,(∀ x ∈ dd u v,x ∈ sdL (crn G)) → (∀ p ∈ srC G,0 ≤ crs u v p) → 0 ≤ crs u v P:=fun u v h1 h2=>by
    obtain ⟨q,hq,hle⟩:=hdr (v.y - u.y,0 - (v.x - u.x)) (h1 _ (by simp [dd]))
    have:=h2 q (R.crnC hq)
    rw [crs_dot] at this ⊢
    omega
   have hPL : ∀ A u v B,L = A ++ u :: v :: B → 0 ≤ crs u v P:=fun A u v B e=>hedge u v (R.dd_lo e) (hL A u v B e).2
   have hPK : ∀ A u v B,K = A ++ u :: v :: B → 0 ≤ crs u v P:=fun A u v B e=>hedge u v (R.dd_hi e) (hK A u v B e).2
   rcases sat R.lo R.hi R.st R.fs R.ls hPL hPK d with ⟨v,hv,hle⟩ | ⟨e1,e2⟩
   ·exact ⟨v,(q3 v).1 (R.crnC (R.mem hv)),hle⟩
   ·have ec:=R.two e1 e2
    have c1:=hPL [] s t [] e1
    have c2:=hPK [] t s [] e2
    have c3 : crs t s P = -crs s t P:=by unfold crs;grind
    have m1:=R.dd_lo (A:=[]) (B:=[]) e1
    obtain ⟨x1,y1,z1⟩:=hdr (t.x - s.x,t.y - s.y) (m1 _ (by simp [dd]))
    obtain ⟨x2,y2,z2⟩:=hdr (0 - (t.x - s.x),0 - (t.y - s.y)) (m1 _ (by simp [dd]))
    have hsq : dot (t.x - s.x,t.y - s.y) s ≤ dot (t.x - s.x,t.y - s.y) t:=by
     have : dot (t.x - s.x,t.y - s.y) t - dot (t.x - s.x,t.y - s.y) s = (t.x - s.x) * (t.x - s.x) + (t.y - s.y) * (t.y - s.y):=by unfold dot;grind
     have:=sq_nn (t.x - s.x)
     have:=sq_nn (t.y - s.y)
     omega
    have hng : ∀ p : Pt,dot (0 - (t.x - s.x),0 - (t.y - s.y)) p = -dot (t.x - s.x,t.y - s.y) p:=fun p=>by unfold dot;grind
    rw [hng,hng] at z2
    rw [ec] at y1 y2
    have b1 : dot (t.x - s.x,t.y - s.y) P ≤ dot (t.x - s.x,t.y - s.y) t:=by
     simp only [List.mem_cons,List.not_mem_nil,or_false] at y1
     rcases y1 with rfl | rfl <;> omega
    have b2 : dot (t.x - s.x,t.y - s.y) s ≤ dot (t.x - s.x,t.y - s.y) P:=by
     simp only [List.mem_cons,List.not_mem_nil,or_false] at y2
     rcases y2 with rfl | rfl <;> omega
    have hsG : s ∈ G:=(q3 s).1 (R.crnC (by rw [ec];simp))
    have htG : t ∈ G:=(q3 t).1 (R.crnC (by rw [ec];simp))
    rcases seg (d:=d) R.st (by omega) b2 b1 with k | k
    ·exact ⟨s,hsG,k⟩
    ·exact ⟨t,htG,k⟩
  ·intro hd d _
   obtain ⟨g,hg,hle⟩:=hd d
   have hgC:=(q3 g).2 hg
   suffices ∃ q ∈ crn G,dot d g ≤ dot d q by
    obtain ⟨q,hq,h2⟩:=this
    exact ⟨q,hq,by omega⟩
   rcases sat R.lo R.hi R.st R.fs R.ls (P:=g) (fun A u v B e=>(hL A u v B e).2 g hgC) (fun A u v B e=>(hK A u v B e).2 g hgC) d with ⟨v,hv,hle⟩ | ⟨e1,e2⟩
   ·exact ⟨v,R.mem hv,hle⟩
   ·have ec:=R.two e1 e2
    have c1:=(hL [] s t [] e1).2 g hgC
    have c2:=(hK [] t s [] e2).2 g hgC
    have c3 : crs t s g = -crs s t g:=by unfold crs;grind
    have c0 : crs s t g = 0:=by omega
    have lst:=ltP_lx.1 (hL [] s t [] e1).1
    have l1 : LxN (g.x - s.x) (g.y - s.y):=by
     rcases R.fs g hgC with rfl | k
     ·unfold LxN;omega
     ·exact (ltP_lx.1 k).n
    have l2 : LxN (t.x - g.x) (t.y - g.y):=by
     rcases R.ls g hgC with rfl | k
     ·unfold LxN;omega
     ·exact (ltP_lx.1 k).n
    have hw : ∀ (a b : Int),LxN a b → (t.x - s.x) * b = (t.y - s.y) * a → 0 ≤ (t.x - s.x) * a + (t.y - s.y) * b:=fun a b hl he=>by
     rcases lst with k | ⟨k1,k2⟩
     ·apply pos_nn k
      have : (t.x - s.x) * ((t.x - s.x) * a + (t.y - s.y) * b) = a * ((t.x - s.x) * (t.x - s.x) + (t.y - s.y) * (t.y - s.y)):=by grind
      rw [this]
      have:=sq_nn (t.x - s.x)
      have:=sq_nn (t.y - s.y)
      exact Int.mul_nonneg (by unfold LxN at hl;omega) (by omega)
     ·rw [k1,Int.zero_mul] at he ⊢
      have ha : a = 0:=by
       rcases Int.mul_eq_zero.1 he.symm with q | q
       ·omega
       ·exact q
      have hb : 0 ≤ b:=by unfold LxN at hl;omega
      have:=Int.mul_nonneg (Int.le_of_lt k2) hb
      omega
    have w1:=hw _ _ l1 (by unfold crs at c0;omega)
    have w2:=hw _ _ l2 (by unfold crs at c0;grind)
    have v1 : dot (t.x - s.x,t.y - s.y) s ≤ dot (t.x - s.x,t.y - s.y) g:=by
     have : dot (t.x - s.x,t.y - s.y) g - dot (t.x - s.x,t.y - s.y) s = (t.x - s.x) * (g.x - s.x) + (t.y - s.y) * (g.y - s.y):=by unfold dot;grind
     omega
    have v2 : dot (t.x - s.x,t.y - s.y) g ≤ dot (t.x - s.x,t.y - s.y) t:=by
     have : dot (t.x - s.x,t.y - s.y) t - dot (t.x - s.x,t.y - s.y) g = (t.x - s.x) * (t.x - g.x) + (t.y - s.y) * (t.y - g.y):=by unfold dot;grind
     omega
    rw [ec]
    rcases seg (d:=d) R.st c0 v1 v2 with k | k
    ·exact ⟨s,by simp,k⟩
    ·exact ⟨t,by simp,k⟩
def l1 (d : Dr) : Int:=max d.1 (-d.1) + max d.2 (-d.2)
theorem l1_nn (d : Dr) : 0 ≤ l1 d:=by unfold l1;omega
def NrH (h : List Pt) (P : Pt) (t : Int) : Prop:=∀ d : Dr,∃ z ∈ h,dot d P ≤ dot d z + t * l1 d
theorem NrH.mono {h : List Pt} {P : Pt} {t t' : Int} (q : NrH h P t) (ht : t ≤ t') : NrH h P t':=fun d=>by
 obtain ⟨z,hz,hle⟩:=q d
 have:=Int.mul_le_mul_of_nonneg_right ht (l1_nn d)
 exact ⟨z,hz,by omega⟩
theorem gr4_le {d : Dr} {t : Int} (ht : 0 ≤ t) {z g : Pt} (hg : g ∈ gr4 t z) : dot d g ≤ dot d z + t * l1 d:=by
 have e : t * l1 d = t * max d.1 (-d.1) + t * max d.2 (-d.2):=by unfold l1;rw [Int.mul_add]
 have a1:=Int.mul_le_mul_of_nonneg_left (show d.1 ≤ max d.1 (-d.1) by omega) ht
 have a2:=Int.mul_le_mul_of_nonneg_left (show -d.1 ≤ max d.1 (-d.1) by omega) ht
 have a3:=Int.mul_le_mul_of_nonneg_left (show d.2 ≤ max d.2 (-d.2) by omega) ht
 have a4:=Int.mul_le_mul_of_nonneg_left (show -d.2 ≤ max d.2 (-d.2) by omega) ht
 rw [e]
 generalize t * max d.1 (-d.1) = M at *
 generalize t * max d.2 (-d.2) = N at *
 rw [Int.mul_neg] at a2 a4
 unfold gr4 at hg
 simp only [List.mem_cons,List.not_mem_nil,or_false] at hg
 unfold dot
 rcases hg with rfl | rfl | rfl | rfl
 ·have : d.1 * (z.x + (0 - t)) + d.2 * (z.y + (0 - t)) = d.1 * z.x + d.2 * z.y - t * d.1 - t * d.2:=by grind
  show d.1 * (z.x + (0 - t)) + d.2 * (z.y + (0 - t)) ≤ _
  omega
 ·have : d.1 * (z.x + (0 - t)) + d.2 * (z.y + t) = d.1 * z.x + d.2 * z.y - t * d.1 + t * d.2:=by grind
  show d.1 * (z.x + (0 - t)) + d.2 * (z.y + t) ≤ _
  omega
 ·have : d.1 * (z.x + t) + d.2 * (z.y + (0 - t)) = d.1 * z.x + d.2 * z.y + t * d.1 - t * d.2:=by grind
  show d.1 * (z.x + t) + d.2 * (z.y + (0 - t)) ≤ _
  omega
 ·have : d.1 * (z.x + t) + d.2 * (z.y + t) = d.1 * z.x + d.2 * z.y + t * d.1 + t * d.2:=by grind
  show d.1 * (z.x + t) + d.2 * (z.y + t) ≤ _
  omega
theorem gr4_hit (d : Dr) (t : Int) (z : Pt) : ∃ g ∈ gr4 t z,dot d g = dot d z + t * l1 d:=by
 have e : t * l1 d = t * max d.1 (-d.1) + t * max d.2 (-d.2):=by unfold l1;rw [Int.mul_add]
 rw [e]
 unfold dot gr4
 by_cases h1 : 0 ≤ d.1 <;> by_cases h2 : 0 ≤ d.2
 ·rw [show max d.1 (-d.1) = d.1 by omega,show max d.2 (-d.2) = d.2 by omega]
  exact ⟨_,by simp only [List.mem_cons];exact .inr (.inr (.inr (.inl rfl))),by dsimp only;grind⟩
 ·rw [show max d.1 (-d.1) = d.1 by omega,show max d.2 (-d.2) = -d.2 by omega]
  exact ⟨_,by simp only [List.mem_cons];exact .inr (.inr (.inl rfl)),by dsimp only;grind⟩
 ·rw [show max d.1 (-d.1) = -d.1 by omega,show max d.2 (-d.2) = d.2 by omega]
  exact ⟨_,by simp only [List.mem_cons];exact .inr (.inl rfl),by dsimp only;grind⟩
 ·rw [show max d.1 (-d.1) = -d.1 by omega,show max d.2 (-d.2) = -d.2 by omega]
  exact ⟨_,by simp only [List.mem_cons];exact .inl rfl,by dsimp only;grind⟩
theorem gpF_iff {h : List Pt} {P : Pt} {t : Int} (h0 : 0 < h.length) (ht : 0 ≤ t) : gpF h [P] t = false ↔ NrH h P t:=by
 unfold gpF
 rw [apB_iff (by rw [grL_len];omega)]
 constructor
 ·intro q d
  obtain ⟨g,hg,hle⟩:=q d
  unfold grL at hg
  rw [List.mem_flatMap] at hg
  obtain ⟨z,hz,hg⟩:=hg
  have:=gr4_le (d:=d) ht hg
  exact ⟨z,hz,by omega⟩
 ·intro q d
  obtain ⟨z,hz,hle⟩:=q d
  obtain ⟨g,hg,e⟩:=gr4_hit d t z
  exact ⟨g,by unfold grL;rw [List.mem_flatMap];exact ⟨z,hz,hg⟩,by omega⟩
theorem bis_spec (f : Int → Bool) : ∀ (n : Nat) (lo hi : Int),lo ≤ hi → hi - lo < 2 ^ n → (lo ≤ bis f n lo hi ∧ bis f n lo hi ≤ hi) ∧ (bis f n lo hi = lo ∨ f (bis f n lo hi - 1) = true) ∧ (bis f n lo hi = hi ∨ f (bis f n lo hi) = false)
 |0,lo,hi,h,hp=>by
  have hp : hi - lo < 1:=hp
  have e : bis f 0 lo hi = lo:=rfl
  rw [e]
  exact ⟨⟨Int.le_refl _,h⟩,.inl rfl,.inl (by omega)⟩
 |n + 1,lo,hi,h,hp=>by
  have e2 : (2 : Int) ^ (n + 1) = 2 * 2 ^ n:=by rw [Int.pow_succ];omega
  rw [e2] at hp
  by_cases hlt : lo < hi
  ·by_cases c : f ((lo + hi) / 2) = true
   ·have e : bis f (n + 1) lo hi = bis f n ((lo + hi) / 2 + 1) hi:=by rw [bis,if_pos hlt,if_pos c]
    obtain ⟨h1,h2,h3⟩:=bis_spec f n ((lo + hi) / 2 + 1) hi (by omega) (by omega)
    rw [e]
    generalize bis f n ((lo + hi) / 2 + 1) hi = r at *
    refine ⟨by omega,?_,h3⟩
    rcases h2 with q | q
    ·right;rw [q,Int.add_sub_cancel];exact c
    ·exact .inr q
   ·have e : bis f (n + 1) lo hi = bis f n lo ((lo + hi) / 2):=by rw [bis,if_pos hlt,if_neg c]
    obtain ⟨h1,h2,h3⟩:=bis_spec f n lo ((lo + hi) / 2) (by omega) (by omega)
    rw [e]
    generalize bis f n lo ((lo + hi) / 2) = r at *
    refine ⟨by omega,h2,?_⟩
    rcases h3 with q | q
    ·right;rw [q];simpa using c
    ·exact .inr q
  ·rw [bis_end f (n + 1) hlt]
   exact ⟨⟨Int.le_refl _,h⟩,.inl rfl,.inl (by omega)⟩
theorem gpV_rng (h b : List Pt) : 0 ≤ gpV h b ∧ gpV h b ≤ 33554432:=(bis_spec (gpF h b) 26 0 33554432 (by decide) (by decide)).1
theorem gp_le {h : List Pt} {P : Pt} {t : Int} (h0 : 0 < h.length) (ht : 0 ≤ t ∧ t < 33554432) : gpV h [P] ≤ t ↔ NrH h P t:=by
 obtain ⟨h1,h2,h3⟩:=bis_spec (gpF h [P]) 26 0 33554432 (by decide) (by decide)
 have e : gpV h [P] = bis (gpF h [P]) 26 0 33554432:=rfl
 rw [e]
 generalize bis (gpF h [P]) 26 0 33554432 = r at *
 constructor
 ·intro q
  rcases h3 with k | k
  ·omega
  ·exact ((gpF_iff h0 h1.1).1 k).mono q
 ·intro q
  apply Classical.byContradiction
  intro k
  rcases h2 with k2 | k2
  ·omega
  ·rw [(gpF_iff h0 (show 0 ≤ r - 1 by omega)).2 (q.mono (by omega))] at k2
   cases k2
def NrS (a b P : Pt) (t : Int) : Prop:=∀ d : Dr,dot d P ≤ max (dot d a) (dot d b) + t * l1 d
theorem nrS_iff {a b P : Pt} {t : Int} : NrH (crn [a,b]) P t ↔ NrS a b P t:=by
 have hm : ∀ z,z ∈ crn [a,b] ↔ z = a ∨ z = b:=fun z=>by
  rcases sg_cases a b with ⟨e,_⟩ | ⟨e,_⟩ | ⟨e1,e⟩
  ·rw [e];simp
  ·rw [e];simp;exact or_comm
  ·rw [e];subst e1;simp
 unfold NrH NrS
 constructor
 ·intro q d
  obtain ⟨z,hz,hle⟩:=q d
  rcases (hm z).1 hz with rfl | rfl <;> omega
 ·intro q d
  have:=q d
  by_cases c : dot d a ≤ dot d b
  ·exact ⟨b,(hm b).2 (.inr rfl),by omega⟩
  ·exact ⟨a,(hm a).2 (.inl rfl),by omega⟩
theorem gpP_le {g : List Pt} {P : Pt} {i : Nat} {t : Int} (ht : 0 ≤ t ∧ t < 33554432) : gpP g P i ≤ t ↔ NrS (g.getD i dQ) (g.getD (i + 1) dQ) P t:=by
 have e : gpP g P i = gpV (crn [g.getD i dQ,g.getD (i + 1) dQ]) [P]:=rfl
 rw [e,gp_le (crn_rng _ (by simp)).1.1 ht,nrS_iff]
theorem gpP_rng (g : List Pt) (P : Pt) (i : Nat) : 0 ≤ gpP g P i ∧ gpP g P i ≤ 33554432:=gpV_rng _ _
theorem off_spec (g : List Pt) (p : Pt) : ∀ n,0 < n → ∃ i,i < n ∧ offN g p n = (gpP g p i,(i : Int)) ∧ ∀ j,j < n → gpP g p i ≤ gpP g p j
 |0,h=>absurd h (by omega)
 |n + 1,_=>by
  have hs : offN g p (n + 1) = if (offN g p n).1 < 0 ∨ gpP g p n < (offN g p n).1 then (gpP g p n,(n : Int)) else offN g p n:=rfl
  by_cases h0 : n = 0
  ·subst h0
   refine ⟨0,by omega,?_,fun j hj=>by rw [show j = 0 by omega];exact Int.le_refl _⟩
   rw [hs,if_pos (.inl (by show (-1 : Int) < 0;decide))]
  ·obtain ⟨i,hi,e,hm⟩:=off_spec g p n (by omega)
   have h1:=gpP_rng g p i
   rw [hs,e]
   by_cases c : gpP g p n < gpP g p i
   ·rw [if_pos (.inr c)]
    refine ⟨n,by omega,rfl,fun j hj=>?_⟩
    by_cases q : j = n
    ·rw [q];exact Int.le_refl _
    ·have:=hm j (by omega);omega
   ·rw [if_neg (by dsimp only;omega)]
    refine ⟨i,by omega,rfl,fun j hj=>?_⟩
    by_cases q : j = n
    ·rw [q];omega
    ·exact hm j (by omega)
theorem nr_near (n : Int) {d : Int} (hd : 0 < d) : 2 * (d * nr n d) ≤ 2 * n + d ∧ 2 * n ≤ 2 * (d * nr n d) + d:=by
 have e1:=Int.ediv_mul_add_emod n d
 have e2:=Int.emod_nonneg n (show d ≠ 0 by omega)
 have e3:=Int.emod_lt_of_pos n hd
 unfold nr
 split
 ·rw [Int.mul_add,Int.mul_one,Int.mul_comm d];omega
 ·rw [Int.mul_comm d];omega
theorem nr_btw {n d k : Int} (hd : 0 < d) : (0 ≤ n → n ≤ k * d → 0 ≤ nr n d ∧ nr n d ≤ k) ∧ (n ≤ 0 → -(k * d) ≤ n → -k ≤ nr n d ∧ nr n d ≤ 0):=by
 have h:=nr_near n hd
 have hup : ∀ z,n ≤ z * d → nr n d ≤ z:=fun z hz=>by
  apply Classical.byContradiction
  intro q
  have h1:=Int.mul_le_mul_of_nonneg_left (show z + 1 ≤ nr n d by omega) (Int.le_of_lt hd)
  rw [Int.mul_add,Int.mul_one,Int.mul_comm d z] at h1
  have h2 : 2 * n = 2 * (z * d):=by omega
  have h3 : n / d = z:=by rw [show n = z * d by omega];exact Int.mul_ediv_cancel z (by omega)
  unfold nr at q
  rw [h3] at q
  split at q
  ·omega
  ·omega
 have hdn : ∀ z,z * d ≤ n → z ≤ nr n d:=fun z hz=>by
  have h3 : z ≤ n / d:=by rw [Int.le_ediv_iff_mul_le hd];exact hz
  unfold nr
  split <;> omega
 refine ⟨fun h1 h2=>⟨hdn 0 (by omega),hup k h2⟩,fun h1 h2=>⟨hdn (-k) (by rw [Int.neg_mul];omega),hup 0 (by omega)⟩⟩
def alP (a b : Pt) (s : Int) : Pt:=⟨a.x + nr ((b.x - a.x) * s) (farP a b),a.y + nr ((b.y - a.y) * s) (farP a b)⟩
theorem al_co {u s D : Int} (hD : 0 < D) (hs : 0 ≤ s ∧ s ≤ D) : (0 ≤ u → 0 ≤ nr (u * s) D ∧ nr (u * s) D ≤ u) ∧ (u ≤ 0 → u ≤ nr (u * s) D ∧ nr (u * s) D ≤ 0):=by
 constructor
 ·intro h
  exact (nr_btw hD).1 (Int.mul_nonneg h hs.1) (Int.mul_le_mul_of_nonneg_left hs.2 h)
 ·intro h
  have h1:=Int.mul_le_mul_of_nonneg_left hs.2 (show 0 ≤ -u by omega)
  have h2:=Int.mul_nonneg (show 0 ≤ -u by omega) hs.1
  rw [Int.neg_mul] at h1 h2
  have:=(nr_btw (n:=u * s) (k:=-u) hD).2 (by omega) (by rw [Int.neg_mul] at *;omega)
  omega
theorem alP_ok {a b : Pt} {s : Int} (ha : okQ a = true) (hb : okQ b = true) (hD : 0 < farP a b) (hs : 0 ≤ s ∧ s ≤ farP a b) : okQ (alP a b s) = true:=by
 have h1:=okQ_iff.1 ha
 have h2:=okQ_iff.1 hb
 obtain ⟨x1,x2⟩:=al_co (u:=b.x - a.x) hD hs
 obtain ⟨y1,y2⟩:=al_co (u:=b.y - a.y) hD hs
 rw [okQ_iff]
 unfold alP
 dsimp only
 have k1 : -16777216 ≤ a.x + nr ((b.x - a.x) * s) (farP a b) ∧ a.x + nr ((b.x - a.x) * s) (farP a b) ≤ 16777216:=by
  rcases Int.le_total 0 (b.x - a.x) with q | q
  ·have:=x1 q;omega
  ·have:=x2 q;omega
 have k2 : -16777216 ≤ a.y + nr ((b.y - a.y) * s) (farP a b) ∧ a.y + nr ((b.y - a.y) * s) (farP a b) ≤ 16777216:=by
  rcases Int.le_total 0 (b.y - a.y) with q | q
  ·have:=y1 q;omega
  ·have:=y2 q;omega
 exact ⟨k1,k2⟩
theorem mul_abs {c e D : Int} (h1 : e ≤ D) (h2 : -D ≤ e) : c * e ≤ D * max c (-c):=by
 rcases Int.le_total 0 c with q | q
 ·rw [show max c (-c) = c by omega,Int.mul_comm D]
  exact Int.mul_le_mul_of_nonneg_left h1 q
 ·rw [show max c (-c) = -c by omega,Int.mul_comm D]
  have:=Int.mul_le_mul_of_nonneg_left (show -e ≤ D by omega) (show 0 ≤ -c by omega)
  rw [Int.neg_mul_neg] at this
  exact this
theorem al_near {a b : Pt} {s : Int} (hD : 0 < farP a b) (hs : 0 ≤ s ∧ s ≤ farP a b) : NrS a b (alP a b s) 1:=by
 intro d
 obtain ⟨x1,x2⟩:=nr_near ((b.x - a.x) * s) hD
 obtain ⟨y1,y2⟩:=nr_near ((b.y - a.y) * s) hD
 have hP : dot d (alP a b s) = dot d a + d.1 * nr ((b.x - a.x) * s) (farP a b) + d.2 * nr ((b.y - a.y) * s) (farP a b):=by
  unfold dot alP;dsimp only;grind
 generalize farP a b = D at *
 generalize hnx : nr ((b.x - a.x) * s) D = nx at *
 generalize hny : nr ((b.y - a.y) * s) D = ny at *
 have m1:=mul_abs (c:=d.1) (e:=2 * (D * nx) - 2 * ((b.x - a.x) * s)) (D:=D) (by omega) (by omega)
 have m2:=mul_abs (c:=d.2) (e:=2 * (D * ny) - 2 * ((b.y - a.y) * s)) (D:=D) (by omega) (by omega)
 have hl : D * l1 d = D * max d.1 (-d.1) + D * max d.2 (-d.2):=by unfold l1;rw [Int.mul_add]
 have hid : d.1 * (2 * (D * nx) - 2 * ((b.x - a.x) * s)) + d.2 * (2 * (D * ny) - 2 * ((b.y - a.y) * s)) = 2 * (D * (dot d (alP a b s) - dot d a)) - 2 * (s * (dot d b - dot d a)):=by
  rw [hP];unfold dot;grind
 have hln:=l1_nn d
 rw [Int.one_mul]
 generalize hX : dot d (alP a b s) = X at *
 have hmain : 2 * (D * (X - dot d a)) ≤ 2 * (s * (dot d b - dot d a)) + D * l1 d:=by omega
 by_cases q : dot d b ≤ dot d a
 ·have h3 : s * (dot d b - dot d a) ≤ 0:=Int.mul_nonpos_of_nonneg_of_nonpos hs.1 (by omega)
  have h4 : D * (2 * (X - dot d a) - l1 d) ≤ 0:=by
   have : D * (2 * (X - dot d a) - l1 d) = 2 * (D * (X - dot d a)) - D * l1 d:=by grind
   omega
  have:=neg_nn hD h4
  omega
 ·have h3 : s * (dot d b - dot d a) ≤ D * (dot d b - dot d a):=Int.mul_le_mul_of_nonneg_right hs.2 (by omega)
  have h4 : D * (2 * (X - dot d b) - l1 d) ≤ 0:=by
   have : D * (2 * (X - dot d b) - l1 d) = 2 * (D * (X - dot d a)) - 2 * (D * (dot d b - dot d a)) - D * l1 d:=by grind
   omega
  have:=neg_nn hD h4
  omega
theorem nrS_self (a b : Pt) : NrS a b a 0:=fun d=>by have:=l1_nn d;omega
theorem NrS.mono {a b P : Pt} {t t' : Int} (q : NrS a b P t) (ht : t ≤ t') : NrS a b P t':=fun d=>by
 have:=q d
 have:=Int.mul_le_mul_of_nonneg_right ht (l1_nn d)
 omega
theorem nrS_far {a b P : Pt} {t : Int} (h : max a.x b.x + t < P.x) : ¬ NrS a b P t:=fun q=>by
 have:=q (1,0)
 have e : ∀ p : Pt,dot (1,0) p = p.x:=fun p=>by unfold dot;omega
 have e2 : l1 (1,0) = 1:=by decide
 rw [e,e,e,e2] at this
 omega
def alG (l : List Pt) (s : Int) : Nat → Nat → Pt × Int
 |0,_=>(l.getD 0 dQ,0)
 |k + 1,n=>if 0 < farP (l.getD n dQ) (l.getD (n + 1) dQ) ∧ s - lnN l n ≤ farP (l.getD n dQ) (l.getD (n + 1) dQ) then (alP (l.getD n dQ) (l.getD (n + 1) dQ) (s - lnN l n),(n : Int)) else alG l s k (n + 1)
def alE (l : List Pt) (s : Int) : Int:=if lnE l = 0 then (if inR s 0 (lnV l) = true then 0 else 3) else lnE l
def alV (l : List Pt) (s : Int) : Pt × Int:=if alE l s = 0 then alG l s (l.length - 1) 0 else (dQ,0)
theorem alG_ok {l : List Pt} {s : Int} (hok : l.all okQ = true) (hl : 2 ≤ l.length) : ∀ k n,n + k = l.length - 1 → 0 ≤ s - lnN l n → okQ (alG l s k n).1 = true ∧ ∃ i,i + 1 < l.length ∧ NrS (l.getD i dQ) (l.getD (i + 1) dQ) (alG l s k n).1 1
 |0,n,h,_=>⟨ok_at hok (by omega),0,by omega,(nrS_self _ _).mono (by decide)⟩
 |k + 1,n,h,h0=>by
  unfold alG
  by_cases c : 0 < farP (l.getD n dQ) (l.getD (n + 1) dQ) ∧ s - lnN l n ≤ farP (l.getD n dQ) (l.getD (n + 1) dQ)
  ·rw [if_pos c]
   have ha:=ok_at hok (show n < l.length by omega)
   have hb:=ok_at hok (show n + 1 < l.length by omega)
   exact ⟨alP_ok ha hb c.1 ⟨h0,c.2⟩,n,by omega,al_near c.1 ⟨h0,c.2⟩⟩
  ·rw [if_neg c]
   have hb:=far_rng (ok_at hok (show n < l.length by omega)) (ok_at hok (show n + 1 < l.length by omega))
   refine alG_ok hok hl k (n + 1) (by omega) ?_
   show 0 ≤ s - (lnN l n + farP (l.getD n dQ) (l.getD (n + 1) dQ))
   omega
def trG (g : List Pt) (m : Int) (l : List (Int × Pt)) : Nat → Nat → Int → Int × Int
 |0,_,_=>(l.length,0)
 |k + 1,i,last=>
  if okQ (l.getD i (0,dQ)).2 = true ∧ inR (l.getD i (0,dQ)).1 0 1099511627776 = true then
   if 0 < i ∧ (l.getD i (0,dQ)).1 < (l.getD (i - 1) (0,dQ)).1 then (i,13)
   else if m < (offV g (l.getD i (0,dQ)).2).1 then (i,14)
   else if (offV g (l.getD i (0,dQ)).2).2 < last then (i,10)
   else trG g m l k (i + 1) (offV g (l.getD i (0,dQ)).2).2
  else (i,2)
end Go.Proofs.YtgiedelaebdooaaGreat.U
namespace Go.Proofs.YtgiedelaebdooaaGreat.U
open Go Sy
set_option maxRecDepth 100000
set_option maxHeartbeats 8000000
set_option linter.unusedVariables false
set_option linter.unusedSimpArgs false
theorem fn35a (x lo hi : Int) : Sy.Fn Tryz.prog 35 [iv x,iv lo,iv hi] (bv (inR x lo hi)):=by
 refine Fn_of_W mixed Xt35 rfl ?_
 (refine go0 ?_;try exact tTI)
 exact W_ret ⟨[_],⟨rfl,rfl⟩,rfl⟩
theorem fn40 (x lo hi : Int) : Sy.Fn Tryz.prog 40 [iv x,iv lo,iv hi] (bv (inR x lo hi)):=by
 refine Fn_of_W mixed Xt40 rfl ?_
 (refine go0 ?_;try exact tTI)
 exact W_ret ⟨[_],⟨rfl,rfl⟩,rfl⟩
theorem fn8 (l : List Pt) (s : Int) (hl : l.length ≤ 140737488355328) (hs : -4611686018427387904 ≤ s ∧ s ≤ 4611686018427387904) : Sy.Fn Tryz.prog 8 [aQ l,iv s] (.tup [.agg (cPt (alV l s).1),iv (alV l s).2,iv (alE l s)]):=by
 refine Fn_of_W mixed Xt8 rfl ?_
 have c6:=fn6 l hl
 by_cases h0 : lnE l = 0
 rotate_left
 ·have e : alE l s = lnE l:=by unfold alE;rw [if_neg h0]
  have e2 : alV l s = (dQ,0):=by unfold alV;rw [e,if_neg h0]
  rw [e,e2]
  generalize lnE l = E at *
  (refine go_c c6 ?_;try exact tTI)
  refine W_cond (by rfl) (fun _=>?_) (fun h=>absurd (by simpa using h) h0)
  (refine go0 ?_;try exact tTI)
  exact W_ret ⟨[_,_,_],⟨⟨by simp,rfl⟩,rfl,rfl,rfl⟩,rfl⟩
 have c35:=fn35a s 0 (lnV l)
 rw [h0] at c6
 by_cases h1 : inR s 0 (lnV l) = true
 rotate_left
 ·have e : alE l s = 3:=by unfold alE;rw [if_pos h0,if_neg h1]
  have e2 : alV l s = (dQ,0):=by unfold alV;rw [e];rfl
  rw [e,e2]
  rw [Bool.not_eq_true] at h1
  rw [h1] at c35
  generalize lnV l = V at *
  (refine go_c c6 ?_;try exact tTI)
  refine W_cond (by rfl) (fun h=>by cases h) (fun _=>?_)
  (refine go_c c35 ?_;try exact tTI)
  refine W_cond (by rfl) (fun _=>?_) (fun h=>by cases h)
  (refine go0 ?_;try exact tTI)
  exact W_ret ⟨[_,_,_],⟨⟨by simp,rfl⟩,rfl,rfl,rfl⟩,rfl⟩
 have e : alE l s = 0:=by unfold alE;rw [if_pos h0,if_pos h1]
 have e2 : alV l s = alG l s (l.length - 1) 0:=by unfold alV;rw [e];rfl
 rw [e,e2]
 rw [h1] at c35
 have hsr:=inR_iff.1 h1
 have hch : chkE l = 0 ∧ l.length ≠ 0:=by
  unfold lnE at h0
  by_cases q : chkE l = 0
  ·rw [if_pos q] at h0
   by_cases q2 : l.length = 0
   ·rw [if_pos q2] at h0;omega
   ·exact ⟨q,q2⟩
  ·rw [if_neg q] at h0;exact absurd h0 q
 obtain ⟨hn,hok⟩:=chkE_ok.1 hch.1
 (refine go_c c6 ?_;try exact tTI)
 refine W_cond (by rfl) (fun h=>by cases h) (fun _=>?_)
 (refine go_c c35 ?_;try exact tTI)
 refine W_cond (by rfl) (fun h=>by cases h) (fun _=>?_)
 have hdl : (l.drop 1).length = l.length - 1:=List.length_drop
 have hdg : ∀ i,(l.drop 1).getD i dQ = l.getD (i + 1) dQ:=fun i=>by simp [List.getD,Nat.add_comm 1 i]
 obtain ⟨T,hT⟩ : ∃ T,T = l.drop 1:=⟨_,rfl⟩
 rw [← hT] at hdl hdg
 have hdr : l.drop (1 : Int).toNat = T:=hT.symm
 have hdr2 : l.drop 1 = T:=hT.symm
 have hlen : l.length = T.length + 1:=by omega
 have hA : alG l s (l.length - 1) 0 = alG l s (T.length - 0) 0:=by rw [← hdl];rfl
 generalize alG l s (l.length - 1) 0 = A at *
 (refine gof (ad2 hdr hdr2) ?_;try exact tTI)
 refine W_loopU (fun n : Nat=>[(30,iv n),(1,iv (s - lnN l n))]) (fun n=>[]) (fun n=>n ≤ T.length ∧ A = alG l s (T.length - n) n ∧ 0 ≤ s - lnN l n) (fun n=>T.length - n) 0 ⟨Nat.zero_le _,hA,by show 0 ≤ s - 0;omega⟩ (by rfl) (by rw [show s - lnN l 0 = s by show s - 0 = s;omega];rfl) (fun n hn=>?_)
 obtain ⟨hn1,hA,hrem⟩:=hn
 (refine sy1 ?_;try exact tTI)
 (refine go0 ?_;try exact tTI)
 refine W_condD (by rfl) (fun h5=>?_) (fun h5=>?_)
 ·have hlt : n < T.length:=by omega
  have hsu : lnN l (n + 1) = lnN l n + farP (l.getD n dQ) (l.getD (n + 1) dQ):=rfl
  have ha:=ok_at hok (show n < l.length by omega)
  have hb:=ok_at hok (show n + 1 < l.length by omega)
  have c:=fn33 _ _ ha hb
  have hfr:=far_rng ha hb
  have hg:=hdg n
  have hqa:=okQ_iff.1 ha
  have hqb:=okQ_iff.1 hb
  have hst : alG l s (T.length - n) n = if 0 < farP (l.getD n dQ) (l.getD (n + 1) dQ) ∧ s - lnN l n ≤ farP (l.getD n dQ) (l.getD (n + 1) dQ) then (alP (l.getD n dQ) (l.getD (n + 1) dQ) (s - lnN l n),(n : Int)) else alG l s (T.length - (n + 1)) (n + 1):=by
   rw [show T.length - n = (T.length - (n + 1)) + 1 by omega];rfl
  have hcx:=fun h1 h2=>al_co (u:=(l.getD (n + 1) dQ).x - (l.getD n dQ).x) (s:=s - lnN l n) (D:=farP (l.getD n dQ) (l.getD (n + 1) dQ)) h1 h2
  have hcy:=fun h1 h2=>al_co (u:=(l.getD (n + 1) dQ).y - (l.getD n dQ).y) (s:=s - lnN l n) (D:=farP (l.getD n dQ) (l.getD (n + 1) dQ)) h1 h2
  have hln : 0 ≤ lnN l n:=(lnN_rng hok n (by omega)).1
  rw [hst] at hA
  generalize hpp : l.getD n dQ = p at *
  generalize l.getD (n + 1) dQ = r at *
  have eP : ∀ z,alP p r z = ⟨p.x + nr ((r.x - p.x) * z) (farP p r),p.y + nr ((r.y - p.y) * z) (farP p r)⟩:=fun _=>rfl
  rw [eP] at hA
  generalize farP p r = F at *
  have hrem2 : s - lnN l n ≤ s:=by omega
  have hz : s - (lnN l n + F) = s - lnN l n - F:=by omega
  generalize s - lnN l n = z at *
  by_cases hc : 0 < F ∧ z ≤ F
  ·rw [if_pos hc] at hA
   subst hA
   have qb : (decide (0 < F) && decide (z ≤ F)) = true:=by rw [decide_eq_true hc.1,decide_eq_true hc.2];rfl
   have m1:=abs_mul (show -33554432 ≤ r.x - p.x ∧ r.x - p.x ≤ 33554432 by omega) (show -4294967296 ≤ z ∧ z ≤ 4294967296 by omega)
   have m2:=abs_mul (show -33554432 ≤ r.y - p.y ∧ r.y - p.y ≤ 33554432 by omega) (show -4294967296 ≤ z ∧ z ≤ 4294967296 by omega)
   have d1:=fn36 ((r.x - p.x) * z) F (by omega) (by omega)
   have d2:=fn36 ((r.y - p.y) * z) F (by omega) (by omega)
   have b1:=hcx hc.1 ⟨hrem,hc.2⟩
   have b2:=hcy hc.1 ⟨hrem,hc.2⟩
   generalize nr ((r.x - p.x) * z) F = nx at *
   generalize nr ((r.y - p.y) * z) F = ny at *
   have b3 : -33554432 ≤ nx ∧ nx ≤ 33554432:=by
    rcases Int.le_total 0 (r.x - p.x) with q | q
    ·have:=b1.1 q;omega
    ·have:=b1.2 q;omega
   have b4 : -33554432 ≤ ny ∧ ny ≤ 33554432:=by
    rcases Int.le_total 0 (r.y - p.y) with q | q
    ·have:=b2.1 q;omega
    ·have:=b2.2 q;omega
   (refine gofc (ad2 hpp hg) c ?_;try exact tTI)
   refine W_cond (by rfl) (fun _=>?_) (fun h=>by rw [qb] at h;cases h)
   (refine go_cc d1 d2 ?_;try exact tTI)
   exact W_ret ⟨[_,_,_],⟨⟨by simp,rfl⟩,rfl,rfl,rfl⟩,rfl⟩
  ·rw [if_neg hc] at hA
   have qb : (decide (0 < F) && decide (z ≤ F)) = false:=by
    rw [Bool.and_eq_false_iff,decide_eq_false_iff_not,decide_eq_false_iff_not];omega
   (refine gofc (ad2 hpp hg) c ?_;try exact tTI)
   refine W_cond (by rfl) (fun h=>by rw [qb] at h;cases h) (fun _=>?_)
   (refine go0 ?_;try exact tTI)
   refine ⟨n + 1,⟨by omega,hA,?_⟩,by omega,by rfl,?_⟩
   ·rw [hsu,hz];omega
   rw [hsu,hz]
   (refine syE ?_;try exact tTI)
 ·obtain rfl : n = T.length:=by omega
  rw [Nat.sub_self] at hA
  have hA : A = (l.getD 0 dQ,0):=hA
  subst hA
  (refine go0 ?_;try exact tTI)
  exact W_ret ⟨[_,_,_],⟨⟨by simp,rfl⟩,rfl,rfl,rfl⟩,rfl⟩
abbrev Fx:=Int × Pt
def dFx : Fx:=(0,dQ)
def cFx (f : Fx) : List AV:=[iv f.1,iv f.2.x,iv f.2.y]
theorem nFx0 (x : Fx) : nth (cFx x) 0 = iv x.1:=rfl
theorem nFx1 (x : Fx) : nth (cFx x) 1 = iv x.2.x:=rfl
theorem nFx2 (x : Fx) : nth (cFx x) 2 = iv x.2.y:=rfl
theorem lFx (x : Fx) : (cFx x).length = 3:=rfl
theorem frFx (x : Fx) : frzAll (cFx x) = true:=rfl
theorem tFx (x : Fx) : List.take 3 (List.drop 0 (cFx x)) = cFx x:=rfl
theorem tFx2 (x : Fx) : List.take 3 (cFx x) = cFx x:=rfl
theorem tFx3 (x : Fx) : List.take 2 (List.drop 1 (cFx x)) = cPt x.2:=rfl
theorem iFx {m : Nat → Option Blk} {n : Nat} (c : Fx) : List.flatMap (ids m n) (cFx c) = []:=flat_frz n _ (frFx c)
theorem vFx {m : Nat → Option Blk} {n : Nat} (c : Fx) : List.map (view m n) (cFx c) = cFx c:=viewL_frz n _ (frFx c)
attribute [push_cast] nFx0 nFx1 nFx2 lFx frFx tFx tFx2 tFx3 iFx vFx
abbrev aFx (l : List Fx) : AV:=.sl 3 dFx cFx l
def tkE (g : List Pt) (m : Int) (l : List Fx) : Int × Int:=if gdE g = 0 then (if inR m 0 16777216 = true then (if 256 < l.length then (0,6) else trG g m l l.length 0 0) else (0,3)) else (0,gdE g)
theorem fn10 (g : List Pt) (m : Int) (l : List Fx) (hg : g.length ≤ 140737488355328) (hl : l.length ≤ 140737488355328) : Sy.Fn Tryz.prog 10 [aQ g,iv m,aFx l] (.tup [iv (tkE g m l).1,iv (tkE g m l).2]):=by
 refine Fn_of_W mixed Xt10 rfl ?_
 have c37:=fn37 g hg
 have et : tkE g m l = if gdE g = 0 then (if inR m 0 16777216 = true then (if 256 < l.length then (0,6) else trG g m l l.length 0 0) else (0,3)) else (0,gdE g):=rfl
 rw [et]
 by_cases h0 : gdE g = 0
 rotate_left
 ·rw [if_neg h0]
  generalize gdE g = E at *
  (refine go_c c37 ?_;try exact tTI)
  refine W_cond (by rfl) (fun _=>?_) (fun h=>absurd (by simpa using h) h0)
  (refine go0 ?_;try exact tTI)
  exact W_ret ⟨[_,_],⟨rfl,rfl,rfl⟩,rfl⟩
 rw [if_pos h0]
 rw [h0] at c37
 obtain ⟨hgl,hok⟩:=gdE_ok.1 h0
 have c40:=fn40 m 0 16777216
 cases h1 : inR m 0 16777216
 ·rw [h1] at c40
  (refine go_c c37 ?_;try exact tTI)
  refine W_cond (by rfl) (fun h=>by cases h) (fun _=>?_)
  (refine go_c c40 ?_;try exact tTI)
  refine W_cond (by rfl) (fun _=>?_) (fun h=>by cases h)
  (refine go0 ?_;try exact tTI)
  exact W_ret ⟨[_,_],⟨rfl,rfl,rfl⟩,rfl⟩
 rw [h1] at c40
 rw [if_pos rfl]
 (refine go_c c37 ?_;try exact tTI)
 refine W_cond (by rfl) (fun h=>by cases h) (fun _=>?_)
 (refine go_c c40 ?_;try exact tTI)
 refine W_cond (by rfl) (fun h=>by cases h) (fun _=>?_)
 (refine go0 ?_;try exact tTI)
 refine W_condD (by rfl) (fun h2=>?_) (fun h2=>?_)
 ·rw [if_pos (by omega)]
  (refine go0 ?_;try exact tTI)
  exact W_ret ⟨[_,_],⟨rfl,rfl,rfl⟩,rfl⟩
 rw [if_neg (by omega)]
 have hl2 : l.length ≤ 256:=by omega
 (refine go0 ?_;try exact tTI)
 obtain ⟨T,hT0⟩ : ∃ T,T = trG g m l l.length 0 0:=⟨_,rfl⟩
 rw [← hT0]
 refine W_loopU (fun q : Nat × Int=>[(27,iv q.1),(9,iv q.2)]) (fun q=>[]) (fun q=>q.1 ≤ l.length ∧ T = trG g m l (l.length - q.1) q.1 q.2) (fun q=>l.length - q.1) (0,0) ⟨Nat.zero_le _,hT0⟩ (by rfl) (by rfl) (fun q hq=>?_)
 obtain ⟨i,last⟩:=q
 obtain ⟨hi,hT⟩:=hq
 have hi : i ≤ l.length:=hi
 have hT : T = trG g m l (l.length - i) i last:=hT
 (refine sy1 ?_;try exact tTI)
 (refine go0 ?_;try exact tTI)
 refine W_condD (by rfl) (fun h5=>?_) (fun h5=>?_)
 ·have hlt : i < l.length:=by omega
  have hst : trG g m l (l.length - i) i last = if okQ (l.getD i dFx).2 = true ∧ inR (l.getD i dFx).1 0 1099511627776 = true then
   if 0 < i ∧ (l.getD i dFx).1 < (l.getD (i - 1) dFx).1 then ((i : Int),13)
   else if m < (offV g (l.getD i dFx).2).1 then ((i : Int),14)
   else if (offV g (l.getD i dFx).2).2 < last then ((i : Int),10)
   else trG g m l (l.length - (i + 1)) (i + 1) (offV g (l.getD i dFx).2).2
   else ((i : Int),2):=by
   rw [show l.length - i = (l.length - (i + 1)) + 1 by omega];rfl
  rw [hst] at hT
  have e1 : ((i : Int) - 1).toNat = i - 1:=by omega
  generalize hpp : l.getD i dFx = f at *
  generalize hp2 : l.getD (i - 1) dFx = f2 at *
  have c38:=fn38 f.2
  have c40b:=fn40 f.1 0 1099511627776
  have hsh : cPt f.2 = [iv f.2.x,iv f.2.y]:=rfl
  have c39:=fun (h : okQ f.2 = true)=>fn39 g f.2 hok hgl h
  by_cases ho : okQ f.2 = true
  rotate_left
  ·rw [if_neg (fun h=>ho h.1)] at hT
   rw [if_neg ho] at c38
   subst hT
   repeat' (first | refine w1g ?_ | refine w1l ?_ | refine w1q ?_ | refine w1b ?_ | refine w1p ?_ | ((first | refine w1r ?_ | refine w1k ?_ | refine w1e ?_ | refine CallC.now (c38) ?_);(refine syf hpp ?_;try exact tTI)) | refine an2 ?_ | (refine CallC.go (bv false) (fun hpc=>absurd hpc (by simp [Sy.pc])) rfl ?_;(refine syf hpp ?_;try exact tTI)) | fail)
   refine W_cond (by rfl) (fun _=>?_) (fun h=>by cases h)
   (refine go0 ?_;try exact tTI)
   exact W_ret ⟨[_,_],⟨rfl,rfl,rfl⟩,rfl⟩
  have c39:=c39 ho
  rw [if_pos ho] at c38
  cases hr : inR f.1 0 1099511627776
  ·rw [if_neg (fun h=>by rw [hr] at h;cases h.2)] at hT
   rw [hr] at c40b
   subst hT
   (refine gofcg hpp c38 c40b ?_;try exact tTI)
   refine W_cond (by rfl) (fun _=>?_) (fun h=>by cases h)
   (refine go0 ?_;try exact tTI)
   exact W_ret ⟨[_,_],⟨rfl,rfl,rfl⟩,rfl⟩
  rw [if_pos ⟨ho,hr⟩] at hT
  rw [hr] at c40b
  generalize offV g f.2 = O at *
  (refine gofcg hpp c38 c40b ?_;try exact tTI)
  refine W_cond (by rfl) (fun h=>by cases h) (fun _=>?_)
  have rest : ∀ b : Bool,b = decide (0 < i ∧ f.1 < f2.1) → True:=fun _ _=>trivial
  by_cases hi0 : i = 0
  ·subst hi0
   rw [if_neg (by omega)] at hT
   have q0 : decide ((0 : Int) < ((0 : Nat) : Int)) = false:=by decide
   (refine gof q0 ?_;try exact tTI)
   refine ⟨(fun h=>absurd h (by simp)),?_⟩
   have q9 : (decide False && decide (f.1 < (l.getD ((0 : Int) - 1).toNat dFx).1)) = false:=by simp
   refine W_cond (by rfl) (fun h=>by rw [q9] at h;cases h) (fun _=>?_)
   (refine go_c c39 ?_;try exact tTI)
   refine W_condD (by rfl) (fun h7=>?_) (fun h7=>?_)
   ·rw [if_pos h7] at hT
    subst hT
    (refine go0 ?_;try exact tTI)
    exact W_ret ⟨[_,_],⟨rfl,rfl,rfl⟩,rfl⟩
   rw [if_neg h7] at hT
   (refine go0 ?_;try exact tTI)
   refine W_condD (by rfl) (fun h8=>?_) (fun h8=>?_)
   ·rw [if_pos h8] at hT
    subst hT
    (refine go0 ?_;try exact tTI)
    exact W_ret ⟨[_,_],⟨rfl,rfl,rfl⟩,rfl⟩
   rw [if_neg h8] at hT
   (refine go0 ?_;try exact tTI)
   refine ⟨((0 + 1),O.2),⟨by show (0 + 1) ≤ l.length;omega,hT⟩,by show l.length - (0 + 1) < _;omega,by rfl,?_⟩
   (refine syE ?_;try exact tTI)
  ·have q0 : decide ((0 : Int) < (i : Int)) = true:=decide_eq_true (by omega)
   (refine gof (ad3 q0 e1 hp2) ?_;try exact tTI)
   by_cases h6 : f.1 < f2.1
   ·rw [if_pos ⟨by omega,h6⟩] at hT
    subst hT
    refine W_condD (by rfl) (fun _=>?_) (fun h=>absurd h6 h)
    (refine go0 ?_;try exact tTI)
    exact W_ret ⟨[_,_],⟨rfl,rfl,rfl⟩,rfl⟩
   rw [if_neg (fun h=>h6 h.2)] at hT
   refine W_condD (by rfl) (fun h=>absurd h h6) (fun _=>?_)
   (refine go_c c39 ?_;try exact tTI)
   refine W_condD (by rfl) (fun h7=>?_) (fun h7=>?_)
   ·rw [if_pos h7] at hT
    subst hT
    (refine go0 ?_;try exact tTI)
    exact W_ret ⟨[_,_],⟨rfl,rfl,rfl⟩,rfl⟩
   rw [if_neg h7] at hT
   (refine go0 ?_;try exact tTI)
   refine W_condD (by rfl) (fun h8=>?_) (fun h8=>?_)
   ·rw [if_pos h8] at hT
    subst hT
    (refine go0 ?_;try exact tTI)
    exact W_ret ⟨[_,_],⟨rfl,rfl,rfl⟩,rfl⟩
   rw [if_neg h8] at hT
   (refine go0 ?_;try exact tTI)
   refine ⟨((i + 1),O.2),⟨by show (i + 1) ≤ l.length;omega,hT⟩,by show l.length - (i + 1) < _;omega,by rfl,?_⟩
   (refine syE ?_;try exact tTI)
 ·obtain rfl : i = l.length:=by omega
  rw [Nat.sub_self] at hT
  have hT : T = ((l.length : Int),0):=hT
  subst hT
  (refine go0 ?_;try exact tTI)
  exact W_ret ⟨[_,_],⟨rfl,rfl,rfl⟩,rfl⟩
theorem off1 (a b p : Pt) : offV [a,b] p = (gpP [a,b] p 0,0):=by
 have e : offV [a,b] p = if (-1 : Int) < 0 ∨ gpP [a,b] p 0 < -1 then (gpP [a,b] p 0,((0 : Nat) : Int)) else ((-1 : Int),(0 : Int)):=rfl
 rw [e,if_pos (.inl (by decide))];rfl
theorem tr_step {a b : Pt} {m : Int} {l : List Fx} {k i : Nat} (hm : 1 ≤ m) (h1 : okQ (l.getD i dFx).2 = true) (h2 : (l.getD i dFx).1 = i) (h3 : ∀ j,i = j + 1 → (l.getD j dFx).1 = j) (hi : i < 1000) (h4 : NrS a b (l.getD i dFx).2 1) : trG [a,b] m l (k + 1) i 0 = trG [a,b] m l k (i + 1) 0:=by
 have hg : gpP [a,b] (l.getD i dFx).2 0 ≤ 1:=(gpP_le (by decide)).2 h4
 show (if okQ (l.getD i dFx).2 = true ∧ inR (l.getD i dFx).1 0 1099511627776 = true then
   if 0 < i ∧ (l.getD i dFx).1 < (l.getD (i - 1) dFx).1 then ((i : Int),13)
   else if m < (offV [a,b] (l.getD i dFx).2).1 then ((i : Int),14)
   else if (offV [a,b] (l.getD i dFx).2).2 < 0 then ((i : Int),10)
   else trG [a,b] m l k (i + 1) (offV [a,b] (l.getD i dFx).2).2
   else ((i : Int),2)) = _
 rw [off1,if_pos ⟨h1,inR_iff.2 (by rw [h2];omega)⟩,if_neg,if_neg (by dsimp only;omega),if_neg (by dsimp only;omega)]
 rintro ⟨q1,q2⟩
 have:=h3 (i - 1) (by omega)
 rw [h2,this] at q2
 omega
theorem tr_far {a b : Pt} {m : Int} {l : List Fx} {k i : Nat} (hm : 0 ≤ m ∧ m < 33554432) (h1 : okQ (l.getD i dFx).2 = true) (h2 : (l.getD i dFx).1 = i) (h3 : ∀ j,i = j + 1 → (l.getD j dFx).1 = j) (hi : i < 1000) (h4 : ¬ NrS a b (l.getD i dFx).2 m) : trG [a,b] m l (k + 1) i 0 = ((i : Int),14):=by
 have hg : ¬ gpP [a,b] (l.getD i dFx).2 0 ≤ m:=fun q=>h4 ((gpP_le hm).1 q)
 show (if okQ (l.getD i dFx).2 = true ∧ inR (l.getD i dFx).1 0 1099511627776 = true then
   if 0 < i ∧ (l.getD i dFx).1 < (l.getD (i - 1) dFx).1 then ((i : Int),13)
   else if m < (offV [a,b] (l.getD i dFx).2).1 then ((i : Int),14)
   else if (offV [a,b] (l.getD i dFx).2).2 < 0 then ((i : Int),10)
   else trG [a,b] m l k (i + 1) (offV [a,b] (l.getD i dFx).2).2
   else ((i : Int),2)) = _
 rw [off1,if_pos ⟨h1,inR_iff.2 (by rw [h2];omega)⟩,if_neg,if_pos (by dsimp only;omega)]
 rintro ⟨q1,q2⟩
 have:=h3 (i - 1) (by omega)
 rw [h2,this] at q2
 omega
theorem gd2 {a b : Pt} (ha : okQ a = true) (hb : okQ b = true) : gdE [a,b] = 0:=gdE_ok.2 ⟨by simp,by simp [ha,hb]⟩
theorem tk_all {a b : Pt} {m : Int} {l : List Fx} (ha : okQ a = true) (hb : okQ b = true) (hm : 1 ≤ m ∧ m ≤ 1000) (hl : l.length = 4) (h : ∀ i,i < 4 → okQ (l.getD i dFx).2 = true ∧ (l.getD i dFx).1 = i ∧ NrS a b (l.getD i dFx).2 1) : tkE [a,b] m l = (4,0):=by
 unfold tkE
 rw [if_pos (gd2 ha hb),if_pos (inR_iff.2 (by omega)),if_neg (by omega),hl]
 rw [tr_step (k:=3) hm.1 (h 0 (by omega)).1 (h 0 (by omega)).2.1 (fun j hj=>by omega) (by omega) (h 0 (by omega)).2.2]
 rw [tr_step (k:=2) hm.1 (h 1 (by omega)).1 (h 1 (by omega)).2.1 (fun j hj=>(h j (by omega)).2.1) (by omega) (h 1 (by omega)).2.2]
 rw [tr_step (k:=1) hm.1 (h 2 (by omega)).1 (h 2 (by omega)).2.1 (fun j hj=>(h j (by omega)).2.1) (by omega) (h 2 (by omega)).2.2]
 rw [tr_step (k:=0) hm.1 (h 3 (by omega)).1 (h 3 (by omega)).2.1 (fun j hj=>(h j (by omega)).2.1) (by omega) (h 3 (by omega)).2.2]
 show ((l.length : Int),(0 : Int)) = _
 rw [hl];rfl
theorem tk_far {a b : Pt} {m : Int} {l : List Fx} (ha : okQ a = true) (hb : okQ b = true) (hm : 1 ≤ m ∧ m ≤ 1000) (hl : l.length = 4) (h : ∀ i,i < 3 → okQ (l.getD i dFx).2 = true ∧ (l.getD i dFx).1 = i ∧ NrS a b (l.getD i dFx).2 1) (h3 : okQ (l.getD 3 dFx).2 = true ∧ (l.getD 3 dFx).1 = 3 ∧ ¬ NrS a b (l.getD 3 dFx).2 m) : tkE [a,b] m l = (3,14):=by
 unfold tkE
 rw [if_pos (gd2 ha hb),if_pos (inR_iff.2 (by omega)),if_neg (by omega),hl]
 rw [tr_step (k:=3) hm.1 (h 0 (by omega)).1 (h 0 (by omega)).2.1 (fun j hj=>by omega) (by omega) (h 0 (by omega)).2.2]
 rw [tr_step (k:=2) hm.1 (h 1 (by omega)).1 (h 1 (by omega)).2.1 (fun j hj=>(h j (by omega)).2.1) (by omega) (h 1 (by omega)).2.2]
 rw [tr_step (k:=1) hm.1 (h 2 (by omega)).1 (h 2 (by omega)).2.1 (fun j hj=>(h j (by omega)).2.1) (by omega) (h 2 (by omega)).2.2]
 rw [tr_far (k:=0) ⟨by omega,by omega⟩ h3.1 h3.2.1 (fun j hj=>(h j (by omega)).2.1) (by omega) h3.2.2]
 rfl
def fxQ (a b : Pt) (i : Nat) : Pt:=(alV [a,b] (farP a b * i / 4)).1
def fxL (a b : Pt) (n : Nat) : List Fx:=(List.range n).map fun (i : Nat)=>((i : Int),fxQ a b i)
theorem fxL_succ (a b : Pt) (n : Nat) : fxL a b (n + 1) = fxL a b n ++ [((n : Int),fxQ a b n)]:=by
 unfold fxL
 rw [List.range_succ,List.map_append];rfl
theorem fxL_len (a b : Pt) (n : Nat) : (fxL a b n).length = n:=by simp [fxL]
theorem fxL_at (a b : Pt) {n i : Nat} (h : i < n) : (fxL a b n).getD i dFx = ((i : Int),fxQ a b i):=by simp [fxL,List.getD,h]
theorem ln2 {a b : Pt} (ha : okQ a = true) (hb : okQ b = true) : lnE [a,b] = 0 ∧ lnV [a,b] = farP a b:=by
 have h1 : chkE [a,b] = 0:=chkE_ok.2 ⟨by simp,by simp [ha,hb]⟩
 have h2 : lnE [a,b] = 0:=by unfold lnE;rw [if_pos h1,if_neg (by simp)]
 refine ⟨h2,?_⟩
 unfold lnV
 rw [if_pos h2]
 show 0 + farP a b = _
 omega
theorem fx_ok {a b : Pt} (ha : okQ a = true) (hb : okQ b = true) {i : Nat} (hi : i < 4) : (0 ≤ farP a b * i / 4 ∧ farP a b * i / 4 ≤ farP a b) ∧ alE [a,b] (farP a b * i / 4) = 0 ∧ okQ (fxQ a b i) = true ∧ NrS a b (fxQ a b i) 1:=by
 have hF:=far_rng ha hb
 obtain ⟨l1,l2⟩:=ln2 ha hb
 have hr : 0 ≤ farP a b * i / 4 ∧ farP a b * i / 4 ≤ farP a b:=by
  rcases (show i = 0 ∨ i = 1 ∨ i = 2 ∨ i = 3 by omega) with rfl | rfl | rfl | rfl <;> omega
 have hE : alE [a,b] (farP a b * i / 4) = 0:=by
  unfold alE
  rw [if_pos l1,l2,if_pos (inR_iff.2 hr)]
 refine ⟨hr,hE,?_⟩
 have hV : alV [a,b] (farP a b * i / 4) = alG [a,b] (farP a b * i / 4) 1 0:=by
  unfold alV
  rw [if_pos hE];rfl
 obtain ⟨p1,j,hj,p2⟩:=alG_ok (l:=[a,b]) (s:=farP a b * i / 4) (by simp [ha,hb]) (by simp) 1 0 rfl (show 0 ≤ farP a b * i / 4 - 0 by omega)
 rw [← hV] at p1 p2
 have hj0 : j = 0:=by simp at hj;omega
 subst hj0
 exact ⟨p1,p2⟩
structure Sn where
 x : Int
 y : Int
 a : Int
 b : Int
 c : Int
def dSn : Sn:=⟨0,0,0,0,0⟩
def cSn (s : Sn) : List AV:=[.v (.int .i16 s.x),.v (.int .i16 s.y),.v (.int .u8 s.a),.v (.int .u8 s.b),.v (.int .u8 s.c)]
theorem nSn0 (x : Sn) : nth (cSn x) 0 = .v (.int .i16 x.x):=rfl
theorem nSn1 (x : Sn) : nth (cSn x) 1 = .v (.int .i16 x.y):=rfl
theorem lSn (x : Sn) : (cSn x).length = 5:=rfl
theorem frSn (x : Sn) : frzAll (cSn x) = true:=rfl
theorem tSn (x : Sn) : List.take 5 (List.drop 0 (cSn x)) = cSn x:=rfl
theorem tSn2 (x : Sn) : List.take 5 (cSn x) = cSn x:=rfl
attribute [push_cast] nSn0 nSn1 lSn frSn tSn tSn2
abbrev aSn (l : List Sn) : AV:=.sl 5 dSn cSn l
def OSn (s : Sn) : Prop:=(-32768 ≤ s.x ∧ s.x ≤ 32767) ∧ -32768 ≤ s.y ∧ s.y ≤ 32767
def ptS (s : Sn) : Pt:=⟨s.x,s.y⟩
def gdL (l : List Sn) (n : Nat) : List Pt:=(l.take n).map ptS
theorem gdL_succ (l : List Sn) {n : Nat} (h : n < l.length) : gdL l (n + 1) = gdL l n ++ [ptS (l.getD n dSn)]:=by
 unfold gdL
 rw [List.take_succ_eq_append_getElem h,List.map_append]
 simp [List.getD,h]
theorem gdL_len (l : List Sn) {n : Nat} (h : n ≤ l.length) : (gdL l n).length = n:=by
 unfold gdL
 rw [List.length_map,List.length_take];omega
theorem gdL_ok {l : List Sn} (h : ∀ s ∈ l,OSn s) (n : Nat) : ∀ p ∈ gdL l n,(-32768 ≤ p.x ∧ p.x ≤ 32767) ∧ -32768 ≤ p.y ∧ p.y ≤ 32767:=fun p hp=>by
 unfold gdL at hp
 obtain ⟨s,hs,rfl⟩:=List.mem_map.1 hp
 exact h s (List.mem_of_mem_take hs)
theorem fn3 (l : List Sn) (x m y : Int) (hl : l.length ≤ 140737488355328) (hs : ∀ s ∈ l,OSn s) (hx : 0 ≤ x ∧ x ≤ 4294967295) (hm : 0 ≤ m ∧ m ≤ 255) (hy : 0 ≤ y ∧ y ≤ 65535) : Sy.Fn Tryz.prog 3 [aSn l,.v (.int .u32 x),.v (.int .u8 m),.v (.int .u16 y)] (bv true):=by
 refine Fn_of_W mixed Xt3 rfl ?_
 have c7:=fn7
 (refine go0 ?_;try exact tTI)
 refine W_le (le_adopt 9 30 2 dQ cPt (by omega) rfl) ?_
 (refine sy1 ?_;try exact tTI)
 refine W_loopU (fun i : Nat=>[(10,iv i),(9,.row 3 i)]) (fun i=>[(3,.row i 30 2 dQ cPt (gdL l i))]) (fun i=>i ≤ l.length ∧ i ≤ 12) (fun i=>12 - i) 0 ⟨by omega,by omega⟩ (by rfl) (by rfl) (fun i hi=>?_)
 obtain ⟨hi,hi2⟩:=hi
 have hll:=gdL_len l hi
 (refine sy1 ?_;try exact tTI)
 (refine go0 ?_;try exact tTI)
 by_cases hc : i < l.length ∧ i < 12
 ·refine W_cond (by rfl) (fun _=>?_) (fun h=>absurd h (by simp;omega))
  have hlt:=hc.1
  have hsu:=gdL_succ l hlt
  have ho : OSn (l.getD i dSn):=hs _ (by simp only [List.getD,List.getElem?_eq_getElem hlt,Option.getD_some];exact List.getElem_mem hlt)
  have ep : ptS (l.getD i dSn) = ⟨(l.getD i dSn).x,(l.getD i dSn).y⟩:=rfl
  rw [ep] at hsu
  generalize hz : l.getD i dSn = z at *
  unfold OSn at ho
  generalize gdL l i = G at *
  (refine gof hz ?_;try exact tTI)
  refine ⟨rfl,trivial,Pt,dQ,cPt,[⟨z.x,z.y⟩],rfl,by omega,fun x _=>⟨rfl,rfl⟩,rfl,?_⟩
  (refine sy1 ?_;try exact tTI)
  refine ⟨rfl,⟨Nat.le_of_ble_eq_true rfl,rfl⟩,trivial,[(⟨z.x,z.y⟩ : Pt)],rfl,by first | omega | (simp;omega),by first | omega | (simp;omega),?_⟩
  (refine sy1 ?_;try exact tTI)
  (refine go0 ?_;try exact tTI)
  refine ⟨i + 1,⟨by omega,by omega⟩,by omega,by rfl,?_⟩
  rw [hsu]
  (refine syE ?_;try exact tTI)
 ·refine W_cond (by rfl) (fun h=>absurd h (by simp;omega)) (fun _=>?_)
  have hgo:=gdL_ok hs i
  generalize gdL l i = G at *
  subst hll
  have hall : G.all okQ = true:=List.all_eq_true.2 fun p hp=>okQ_iff.2 (by have:=hgo p hp;omega)
  have hG12 : G.length ≤ 12:=hi2
  have hch : chkE G = 0:=chkE_ok.2 ⟨by omega,hall⟩
  clear hc hi hi2
  refine w1e ?_
  (refine sy1 ?_;try exact tTI)
  refine w1g ?_
  refine W_le (le_frzR 9 [1,2,3] [] 8 3 G.length 30 2 dQ cPt G rfl rfl rfl rfl) ?_
  (refine sy1 ?_;try exact tTI)
  have c6:=fn6 G (by omega)
  by_cases h2 : G.length < 2
  ·have hE : lnE G = if G.length = 0 then 5 else 0:=by unfold lnE;rw [if_pos hch]
   generalize lnV G = V at *
   by_cases h0 : G.length = 0
   ·rw [hE,if_pos h0] at c6
    (refine go_c c6 ?_;try exact tTI)
    refine W_cond (by rfl) (fun _=>?_) (fun h=>by cases h)
    (refine go_c c7 ?_;try exact tTI)
    exact W_ret ⟨[_],⟨rfl,rfl⟩,rfl⟩
   ·rw [hE,if_neg h0] at c6
    have q2 : decide ((G.length : Int) < 2) = true:=decide_eq_true (by omega)
    (refine gofc q2 c6 ?_;try exact tTI)
    refine W_cond (by rfl) (fun _=>?_) (fun h=>by cases h)
    (refine go_c c7 ?_;try exact tTI)
    exact W_ret ⟨[_],⟨rfl,rfl⟩,rfl⟩
  have hE : lnE G = 0:=by unfold lnE;rw [if_pos hch,if_neg (by omega)]
  have hV : lnV G = lnN G (G.length - 1):=by unfold lnV;rw [if_pos hE]
  have hVr:=lnN_rng hall (G.length - 1) (by omega)
  rw [← hV] at hVr
  rw [hE] at c6
  have q2 : decide ((G.length : Int) < 2) = false:=decide_eq_false (by omega)
  (refine gofc q2 c6 ?_;try exact tTI)
  refine W_cond (by rfl) (fun h=>by cases h) (fun _=>?_)
  have hsx : ∃ s : Int,x.tmod (lnV G + 1) = s ∧ 0 ≤ s ∧ s ≤ lnV G:=⟨_,rfl,Int.tmod_nonneg _ hx.1,by have:=Int.tmod_lt_of_pos x (show 0 < lnV G + 1 by omega);omega⟩
  obtain ⟨s,es,hs0⟩:=hsx
  have hne : ¬ (lnV G + 1 = 0):=by omega
  have c8:=fn8 G s (by omega) (by omega)
  have aE : alE G s = 0:=by unfold alE;rw [if_pos hE,if_pos (inR_iff.2 hs0)]
  have aV : alV G s = alG G s (G.length - 1) 0:=by unfold alV;rw [if_pos aE]
  obtain ⟨pok,j,hj,hnr⟩:=alG_ok hall (by omega) (G.length - 1) 0 (by omega) (show 0 ≤ s - 0 by omega)
  rw [← aV] at pok hnr
  rw [aE] at c8
  generalize alV G s = A at *
  have c9:=fn9 G A.1 (by omega)
  have gE : gdE G = 0:=gdE_ok.2 ⟨by omega,hall⟩
  have oE : ofE G A.1 = 0:=by unfold ofE;rw [if_pos gE,if_pos pok]
  have oV : ofV G A.1 = offN G A.1 (G.length - 1):=by unfold ofV;rw [if_pos oE];rfl
  obtain ⟨k,hk,ek,hmin⟩:=off_spec G A.1 (G.length - 1) (by omega)
  have h1 : gpP G A.1 k ≤ 1:=Int.le_trans (hmin j (by omega)) ((gpP_le (by decide)).2 hnr)
  have h0:=(gpP_rng G A.1 k).1
  rw [oE,oV,ek] at c9
  generalize gpP G A.1 k = D at *
  clear hmin ek oV oE aV aE hnr
  have d1 : decide (2 < D) = false:=decide_eq_false (by omega)
  have d2 : decide ((k : Int) < 0) = false:=decide_eq_false (by omega)
  have d3 : decide ((G.length : Int) ≤ (k : Int) + 1) = false:=decide_eq_false (by omega)
  (refine gofc (ad2 es hne) c8 ?_;try exact tTI)
  refine W_cond (by rfl) (fun h=>by cases h) (fun _=>?_)
  (refine gofc (ad3 d1 d2 d3) c9 ?_;try exact tTI)
  obtain ⟨a,b,hab⟩ : ∃ a b,G.take 2 = [a,b]:=by
   match G,h2 with
   |[],h=>exact absurd (by simp) h
   |[_],h=>exact absurd (by simp) h
   |a :: b :: r,_=>exact ⟨a,b,rfl⟩
  have hma : a ∈ G:=List.mem_of_mem_take (i:=2) (by rw [hab];simp)
  have hmb : b ∈ G:=List.mem_of_mem_take (i:=2) (by rw [hab];simp)
  have ba:=hgo a hma
  have bb:=hgo b hmb
  have oa : okQ a = true:=okQ_iff.2 (by omega)
  have ob : okQ b = true:=okQ_iff.2 (by omega)
  obtain ⟨n1,n2⟩:=ln2 oa ob
  have c6':=fn6 [a,b] (by simp)
  rw [n1,n2] at c6'
  have hF:=far_rng oa ob
  have c8':=fun (i : Nat) (hi : i < 4)=>fn8 [a,b] (farP a b * i / 4) (by simp) (by have:=(fx_ok oa ob hi).1;omega)
  have hfx:=fun (i : Nat) (hi : i < 4)=>fx_ok oa ob hi
  have hfq : ∀ i : Nat,(alV [a,b] (farP a b * i / 4)).1 = fxQ a b i:=fun _=>rfl
  refine W_cond (by rfl) (fun h=>by cases h) (fun _=>?_)
  clear hs hV hVr es hne c9 c8 d1 d2 d3 pok
  (refine gofc hab c6' ?_;try exact tTI)
  refine W_cond (by rfl) (fun h=>by cases h) (fun _=>?_)
  (refine go0 ?_;try exact tTI)
  refine W_le (le_adopt 20 41 3 dFx cFx (by omega) rfl) ?_
  (refine sy1 ?_;try exact tTI)
  refine W_loopU (fun i : Nat=>[(21,iv i),(20,.row 84 i)]) (fun i=>[(84,.row i 41 3 dFx cFx (fxL a b i))]) (fun i=>i ≤ 4) (fun i=>4 - i) 0 (by omega) (by rfl) (by rfl) (fun i hi=>?_)
  have hll:=fxL_len a b i
  (refine sy1 ?_;try exact tTI)
  (refine go0 ?_;try exact tTI)
  refine W_condD (by rfl) (fun h5=>?_) (fun h5=>?_)
  ·have hi4 : i < 4:=by omega
   have hsu:=fxL_succ a b i
   obtain ⟨f1,f2,_,_⟩:=hfx i hi4
   have c8i:=c8' i hi4
   rw [f2] at c8i
   have hq:=hfq i
   have hFi : 0 ≤ farP a b * (i : Int) ∧ farP a b * (i : Int) ≤ 17179869184:=by
    rcases (show i = 0 ∨ i = 1 ∨ i = 2 ∨ i = 3 by omega) with rfl | rfl | rfl | rfl <;> omega
   have e4 : (farP a b * (i : Int)).tdiv 4 = farP a b * (i : Int) / 4:=Int.tdiv_eq_ediv_of_nonneg hFi.1
   clear hfx c8' hfq
   generalize fxQ a b i = Q at *
   generalize fxL a b i = L at *
   generalize alV [a,b] (farP a b * (i : Int) / 4) = V at *
   have hq : cPt V.1 = cPt Q:=by rw [hq]
   rw [hq] at c8i
   generalize farP a b = F at *
   (refine gofc e4 c8i ?_;try exact tTI)
   refine W_cond (by rfl) (fun h=>by cases h) (fun _=>?_)
   (refine go0 ?_;try exact tTI)
   refine ⟨rfl,trivial,Fx,dFx,cFx,[((i : Int),Q)],rfl,by omega,fun x _=>⟨rfl,rfl⟩,rfl,?_⟩
   (refine sy1 ?_;try exact tTI)
   refine ⟨rfl,⟨Nat.le_of_ble_eq_true rfl,rfl⟩,trivial,[((((i : Int),Q)) : Fx)],rfl,by first | omega | (simp;omega),by first | omega | (simp;omega),?_⟩
   (refine sy1 ?_;try exact tTI)
   (refine go0 ?_;try exact tTI)
   refine ⟨i + 1,by omega,by omega,by rfl,?_⟩
   rw [hsu]
   (refine syE ?_;try exact tTI)
  ·have e5 : i = 4:=by omega
   subst e5
   have ec1:=tk_all (m:=3 + m) (l:=fxL a b 4) oa ob (by omega) (fxL_len a b 4) (fun j hj=>by
    rw [fxL_at a b hj]
    exact ⟨(hfx j hj).2.2.1,rfl,(hfx j hj).2.2.2⟩)
   have c10:=fn10 [a,b] (3 + m) (fxL a b 4) (by simp) (by rw [hll];omega)
   rw [ec1] at c10
   have c10 : Sy.Fn Tryz.prog 10 [aQ [a,b],iv (3 + m),aFx (fxL a b 4)] (.tup [iv 4,iv 0]):=c10
   have g3:=fxL_at a b (show 3 < 4 by omega)
   have b3:=okQ_iff.1 (hfx 3 (by omega)).2.2.1
   refine w1e ?_
   (refine sy1 ?_;try exact tTI)
   (refine go_g c10 ?_;try exact tTI)
   refine W_cond (by rfl) (fun h=>by cases h) (fun _=>?_)
   have ga0 : [a,b].getD 0 dQ = a:=rfl
   have ga1 : [a,b].getD 1 dQ = b:=rfl
   obtain ⟨M,hM⟩ : ∃ M,max a.x b.x = M:=⟨_,rfl⟩
   have hMr : -32768 ≤ M ∧ M ≤ 32767:=by omega
   (refine gof (ad4 g3 ga0 ga1 hM) ?_;try exact tTI)
   refine ⟨rfl,⟨Nat.le_of_ble_eq_true rfl,rfl⟩,by omega,(3,⟨M + (3 + m) + 1 + y,(fxQ a b 3).y⟩),?_,?_,?_⟩
   ·rw [g3];rfl
   ·rfl
   have hL' : ((fxL a b 4).set 3 (3,⟨M + (3 + m) + 1 + y,(fxQ a b 3).y⟩)).length = 4:=by rw [List.length_set];exact hll
   have ec2:=tk_far (m:=3 + m) (l:=(fxL a b 4).set 3 (3,⟨M + (3 + m) + 1 + y,(fxQ a b 3).y⟩)) oa ob (by omega) hL' (fun j hj=>by
    have e : ((fxL a b 4).set 3 (3,⟨M + (3 + m) + 1 + y,(fxQ a b 3).y⟩)).getD j dFx = (fxL a b 4).getD j dFx:=by
     simp only [List.getD]
     rw [List.getElem?_set_ne (by omega)]
    rw [e,fxL_at a b (show j < 4 by omega)]
    exact ⟨(hfx j (by omega)).2.2.1,rfl,(hfx j (by omega)).2.2.2⟩) (by
    have e : ((fxL a b 4).set 3 (3,⟨M + (3 + m) + 1 + y,(fxQ a b 3).y⟩)).getD 3 dFx = (3,⟨M + (3 + m) + 1 + y,(fxQ a b 3).y⟩):=by
     simp only [List.getD]
     rw [List.getElem?_set_self (by rw [hll];omega)];rfl
    rw [e]
    refine ⟨okQ_iff.2 ⟨by dsimp only;omega,b3.2⟩,rfl,nrS_far ?_⟩
    dsimp only
    omega)
   generalize (fxL a b 4).set 3 (3,⟨M + (3 + m) + 1 + y,(fxQ a b 3).y⟩) = L2 at *
   have c11:=fn10 [a,b] (3 + m) L2 (by simp) (by omega)
   rw [ec2] at c11
   have c11 : Sy.Fn Tryz.prog 10 [aQ [a,b],iv (3 + m),aFx L2] (.tup [iv 3,iv 14]):=c11
   (refine sy1 ?_;try exact tTI)
   (refine go_gg c11 c7 ?_;try exact tTI)
   exact W_ret ⟨[_],⟨rfl,rfl⟩,rfl⟩
end Go.Proofs.YtgiedelaebdooaaGreat.U
namespace Go.Proofs.YtgiedelaebdooaaGreat
open Go Sy
set_option maxRecDepth 100000
set_option linter.unusedVariables false
theorem u8_wf {n : Int} (h : (Lit.int .u8 n).wf = true) : 0 ≤ n ∧ n ≤ 255:=by
 simp [Lit.wf,IntKind.min,IntKind.max,IntKind.bits,IntKind.signed] at h
 omega
theorem u16_wf {n : Int} (h : (Lit.int .u16 n).wf = true) : 0 ≤ n ∧ n ≤ 65535:=by
 simp [Lit.wf,IntKind.min,IntKind.max,IntKind.bits,IntKind.signed] at h
 omega
theorem u32_wf {n : Int} (h : (Lit.int .u32 n).wf = true) : 0 ≤ n ∧ n ≤ 4294967295:=by
 simp [Lit.wf,IntKind.min,IntKind.max,IntKind.bits,IntKind.signed] at h
 omega
theorem i16_wf {n : Int} (h : (Lit.int .i16 n).wf = true) : -32768 ≤ n ∧ n ≤ 32767:=by
 simp [Lit.wf,IntKind.min,IntKind.max,IntKind.bits,IntKind.signed] at h
 omega
theorem y5 : Tryz.prog.cellsOf 5 = 1:=by kernel_rfl
theorem y26 : Tryz.prog.cellsOf 26 = 1:=by kernel_rfl
theorem y28 : Tryz.prog.cellsOf 28 = 5:=by kernel_rfl
theorem b28 : Tryz.prog.bytesOf 28 = 8:=by kernel_rfl
theorem k5 : Codec Tryz.prog 5 (fun n : Int=>[.v (.int .u8 n)]) (fun n=>0 ≤ n ∧ n ≤ 255):=(Codec.int Tryz.underlying5).map id (fun _=>rfl) (fun _ h=>u8_wf h)
theorem k24 : Codec Tryz.prog 24 (fun n : Int=>[.v (.int .u16 n)]) (fun n=>0 ≤ n ∧ n ≤ 65535):=(Codec.int Tryz.underlying24).map id (fun _=>rfl) (fun _ h=>u16_wf h)
theorem k23 : Codec Tryz.prog 23 (fun n : Int=>[.v (.int .u32 n)]) (fun n=>0 ≤ n ∧ n ≤ 4294967295):=(Codec.int Tryz.underlying23).map id (fun _=>rfl) (fun _ h=>u32_wf h)
theorem k26 : Codec Tryz.prog 26 (fun n : Int=>[.v (.int .i16 n)]) (fun n=>-32768 ≤ n ∧ n ≤ 32767):=(Codec.int Tryz.underlying26).map id (fun _=>rfl) (fun _ h=>i16_wf h)
theorem k28 : Codec Tryz.prog 28 U.cSn U.OSn:=
 (Codec.struct Tryz.underlying28 (by kernel_rfl) (by kernel_rfl) (Parts.cons k26 y26 (Parts.cons k26 y26 (Parts.cons k5 y5 (Parts.cons k5 y5 (Parts.cons k5 y5 Parts.nil)))))).map
  (fun x=>⟨x.1,x.2.1,x.2.2.1,x.2.2.2.1,x.2.2.2.2.1⟩) (fun _=>rfl) (fun _ h=>⟨h.1,h.2.1⟩)
theorem k22 : Codec Tryz.prog 22 (fun l : List U.Sn=>[U.aSn l]) (fun l=>l.length * 8 ≤ 140737488351232 ∧ ∀ s ∈ l,U.OSn s):=
 (Codec.slice Tryz.underlying22 (by rw [y28];decide) y28 b28 U.dSn k28).map id (fun _=>rfl) (fun _ h=>⟨h.1,h.2.2⟩)
end Go.Proofs.YtgiedelaebdooaaGreat
namespace Go.Proofs.YtgiedelaebdooaaGreat
open Go Sy Go.ChangeShapes Go.WideShapes Go.RowKit
set_option maxRecDepth 100000
set_option linter.unusedVariables false
theorem own : ownKnob Tryz.prog.godebug = none:=by kernel_rfl
theorem laidOut : laidOutB Tryz.prog = true:=by kernel_rfl
theorem walk3 (W : World) (v0 v1 v2 v3 : Value) (l : List U.Sn) (x : Int) (m : Int) (y : Int) (h0 : fsat (inW W) W (U.aSn l) v0) (h1 : fsat (inW W) W (.v (.int .u32 x)) v1) (h2 : fsat (inW W) W (.v (.int .u8 m)) v2) (h3 : fsat (inW W) W (.v (.int .u16 y)) v3) (ol : l.length * 8 ≤ 140737488351232 ∧ ∀ s ∈ l,U.OSn s) (ox : 0 ≤ x ∧ x ≤ 4294967295) (om : 0 ≤ m ∧ m ≤ 255) (oy : 0 ≤ y ∧ y ≤ 65535) :
  Calls Tryz.prog 3 #[v0,v1,v2,v3] W fun e w'=>e = .returned (.bool true) ∧ Below W.heap.size W w':=by
 have hf : Sy.Fn Tryz.prog 3 [U.aSn l,.v (.int .u32 x),.v (.int .u8 m),.v (.int .u16 y)] (bv true):=U.fn3 l x m y (by have:=ol.1;omega) ol.2 ox om oy
 refine (hf.2 (inW W) W [v0,v1,v2,v3] (fun b hb=>hb) ?_).mono ?_
 ·simp only [fsatT]
  exact ⟨v0,_,rfl,h0,v1,_,rfl,h1,v2,_,rfl,h2,v3,_,rfl,h3,rfl⟩
 ·rintro e w' ⟨v,rfl,hb,hv⟩
  simp only [fsat] at hv
  exact ⟨by rw [hv],hb⟩
theorem lifted3 (os : Os) (started : os.Started) (H : Type) (enc : TypeId × Value → H) :
  ReturnsInHanded {} Tryz.checked os 3 .any (Rows.topOnGuideSpec.pre6 enc Tryz.prog Tryz.f3 Rows.topOnGuideRow.domain false) (Rows.topOnGuideSpec.post enc Tryz.prog Tryz.f3 false true false false):=by
 refine returnsInHanded_of_change_sized (C:=Tryz.checked) own started (by kernel_rfl) Tryz.func3
  (ChangeSpec.witness6 (enc:=enc) (C:=Tryz.checked) false ⟨#[],#[.slice none 0 0,.int .u32 0,.int .u8 0,.int .u16 0],[]⟩ 8 (by kernel_rfl) (by kernel_rfl) (by kernel_rfl) (by kernel_rfl)) ?_
 intro W base args ds gs before hval0 hW hcnd hsz _
 have hval : ∀ (j : Nat) t v,Tryz.f3.params[j]? = some t → args[j]? = some v → Value.okWide Tryz.prog W .any base t v:=hval0
 have hW':=hW
 obtain ⟨p,q,hA0,hV,rfl,hfz,hnd⟩:=hW
 have hA : DataW.TrodAll enc Tryz.prog W 0 (fun _=>true) true Tryz.f3.params.toList args.toList ds p:=hA0
 rw [Tryz.params3] at hA hval
 obtain ⟨v0,vs0,d0,ds0,p0,q0,hargs,rfl,rfl,h0,r0⟩:=trodAll_cons hA
 obtain ⟨v1,vs1,d1,ds1,p1,q1,rfl,rfl,rfl,h1,r1⟩:=trodAll_cons r0
 obtain ⟨v2,vs2,d2,ds2,p2,q2,rfl,rfl,rfl,h2,r2⟩:=trodAll_cons r1
 obtain ⟨v3,vs3,d3,ds3,p3,q3,rfl,rfl,rfl,h3,r3⟩:=trodAll_cons r2
 obtain ⟨rfl,rfl,rfl⟩:=trodAll_nil r3
 obtain rfl : args = #[v0,v1,v2,v3]:=by cases args;simp_all
 obtain ⟨rfl,rfl⟩:=trodVars_none hV
 have hs : ∀ (j : Nat) t (d : DataW H),[22,23,5,24][j]? = some t → [d0,d1,d2,d3][j]? = some d → ∀ n ∈ d.weights Tryz.prog t,n ≤ reachBytes:=fun j t d ht hd n hn=>by
  have hall:=List.all_eq_true.1 hsz n (DataW.weights_mem_each (j:=j) (t:=t) (d:=d) (by rw [Tryz.params3];simpa using (List.getElem?_append_left (l₂:=_) (by have:=(List.getElem?_eq_some_iff.1 ht).1;simpa using this)).trans ht) (by simpa using (List.getElem?_append_left (l₂:=_) (by have:=(List.getElem?_eq_some_iff.1 hd).1;simpa using this)).trans hd) n hn)
  simpa using hall
 have lt0 : ∀ x ∈ p0,x.block < W.heap.size:=by obtain ⟨m,hm⟩:=h0;exact DataW.trod_lt m _ _ _ hm
 have lt1 : ∀ x ∈ p1,x.block < W.heap.size:=by obtain ⟨m,hm⟩:=h1;exact DataW.trod_lt m _ _ _ hm
 have lt2 : ∀ x ∈ p2,x.block < W.heap.size:=by obtain ⟨m,hm⟩:=h2;exact DataW.trod_lt m _ _ _ hm
 have lt3 : ∀ x ∈ p3,x.block < W.heap.size:=by obtain ⟨m,hm⟩:=h3;exact DataW.trod_lt m _ _ _ hm
 obtain ⟨l,ol,s0⟩:=k22.arg1 (by kernel_rfl) (hval 0 22 v0 rfl rfl) h0 (hs 0 22 d0 rfl rfl)
 obtain ⟨x,ox,s1⟩:=k23.arg1 (by kernel_rfl) (hval 1 23 v1 rfl rfl) h1 (hs 1 23 d1 rfl rfl)
 obtain ⟨m,om,s2⟩:=k5.arg1 (by kernel_rfl) (hval 2 5 v2 rfl rfl) h2 (hs 2 5 d2 rfl rfl)
 obtain ⟨y,oy,s3⟩:=k24.arg1 (by kernel_rfl) (hval 3 24 v3 rfl rfl) h3 (hs 3 24 d3 rfl rfl)
 clear hA0 hval0
 refine (walk3 W v0 v1 v2 v3 l x m y s0 s1 s2 s3 ol ox om oy).mono fun e W' ⟨he,bel⟩=>?_
 subst he
 exact ⟨_,rfl,_,_,_,[],_,[],hW',trodAll_mk1 (shut_bool Tryz.underlying4 _),(trodAll_cons_mk (Below.trod laidOut (by kernel_rfl) (of_decide_eq_true (by kernel_rfl)) h0 bel lt0) (trodAll_cons_mk (Below.trod laidOut (by kernel_rfl) (of_decide_eq_true (by kernel_rfl)) h1 bel lt1) (trodAll_cons_mk (Below.trod laidOut (by kernel_rfl) (of_decide_eq_true (by kernel_rfl)) h2 bel lt2) (trodAll_cons_mk (Below.trod laidOut (by kernel_rfl) (of_decide_eq_true (by kernel_rfl)) h3 bel lt3) trodAll_mk0)))),rfl,bel.frame _,fun h=>by cases h⟩
theorem jf_a : (Rows.topOnGuideRow.inPlace == Tryz.prog.inPlace 3) = true:=by kernel_rfl
theorem jf_b : (Rows.topOnGuideRow.unfollowed == Tryz.prog.unfollowed 3) = true:=by kernel_rfl
theorem jf_c : (Rows.topOnGuideRow.recurses == Tryz.prog.recurses 3) = true:=by kernel_rfl
theorem jf_d : (Rows.topOnGuideRow.named == Tryz.prog.varsNamed 3) = true:=by kernel_rfl
theorem jf_e : (Rows.topOnGuideRow.lifted == Tryz.prog.liftsFinal) = true:=by kernel_rfl
theorem jf_g : Tryz.prog.mayEnter = true:=by kernel_rfl
theorem jf_h : Tryz.prog.stopsHeard = true:=by kernel_rfl
theorem jf_j : mapsRowed Tryz.prog = true:=by kernel_rfl
theorem jf_m : (Rows.topOnGuideRow.plainKeys == Tryz.prog.plainKeys) = true:=by kernel_rfl
theorem closed3 : joinedFacts Tryz.prog 3 Tryz.f3 Rows.topOnGuideSpec Rows.topOnGuideRow = true:=by
 unfold joinedFacts
 rw [laidOut,jf_a,jf_b,jf_c,jf_d,jf_e,jf_g,jf_h,jf_j,jf_m]
 kernel_rfl
theorem over3 : Rows.topOnGuideRow.holds Tryz.pinned (OpenSpec.ofChange Rows.topOnGuideSpec):=
 OpenClaim.holds_of_wide 3 Tryz.f3 rfl rfl rfl rfl rfl rfl rfl ⟨rfl,rfl,rfl,rfl,rfl⟩ rfl rfl rfl rfl rfl (by kernel_rfl) Tryz.func3 closed3
  (of_decide_eq_true (by kernel_rfl)) (by unfold Func.isWrapper;first | (rw [if_pos (by decide +kernel)];kernel_rfl) | (rw [if_neg (by decide +kernel)];exact ⟨rfl,rfl⟩))
  (fun os started H enc _=>lifted3 os started H enc)
theorem top_on_guide_holds : Rows.TopOnGuideSaid:=over3
end Go.Proofs.YtgiedelaebdooaaGreat
