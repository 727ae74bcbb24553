/- Part 9 of the proof of: For every input the law TopFitting returns true: the windows of a passage and the first time at which it fits into them are the first time at which the permits let it begin. -/
import Derived.Test.YtolnclkcokckeaaGreatP8
namespace Go.Proofs.YtolnclkcokckeaaGreat
open Go Sy
set_option maxRecDepth 100000
set_option maxHeartbeats 4000000
set_option linter.unusedVariables false
set_option linter.unusedSimpArgs false
structure Axl where
 x : Int
 limit : Int
 wheels : Int
structure Unt where
 kind : Int
 length : Int
 behind : Int
 front : Int
 rear : Int
 width : Int
 height : Int
 mass : Int
 steer : Int
 most : Int
 axles : List Axl
structure Veh where
 name : ByteArray
 units : List Unt
 fr : Int
 to : Int
def dA : Axl:=⟨0,0,0⟩
def cA (a : Axl) : List AV:=[iv a.x,iv a.limit,iv a.wheels]
def aA (l : List Axl) : AV:=.sl 3 dA cA l
def dU : Unt:=⟨0,0,0,0,0,0,0,0,0,0,[]⟩
def cU (u : Unt) : List AV:=[iv u.kind,iv u.length,iv u.behind,iv u.front,iv u.rear,iv u.width,iv u.height,iv u.mass,iv u.steer,iv u.most,aA u.axles]
def aU (l : List Unt) : AV:=.sl 11 dU cU l
def cV (v : Veh) : List AV:=[stv v.name,aU v.units,iv v.fr,iv v.to]
theorem nA0 (a : Axl) : nth (cA a) 0 = iv a.x:=rfl
theorem nA1 (a : Axl) : nth (cA a) 1 = iv a.limit:=rfl
theorem nA2 (a : Axl) : nth (cA a) 2 = iv a.wheels:=rfl
theorem lA (a : Axl) : (cA a).length = 3:=rfl
theorem nU0 (a : Unt) : nth (cU a) 0 = iv a.kind:=rfl
theorem nU1 (a : Unt) : nth (cU a) 1 = iv a.length:=rfl
theorem nU2 (a : Unt) : nth (cU a) 2 = iv a.behind:=rfl
theorem nU3 (a : Unt) : nth (cU a) 3 = iv a.front:=rfl
theorem nU4 (a : Unt) : nth (cU a) 4 = iv a.rear:=rfl
theorem nU5 (a : Unt) : nth (cU a) 5 = iv a.width:=rfl
theorem nU6 (a : Unt) : nth (cU a) 6 = iv a.height:=rfl
theorem nU7 (a : Unt) : nth (cU a) 7 = iv a.mass:=rfl
theorem nU8 (a : Unt) : nth (cU a) 8 = iv a.steer:=rfl
theorem nU9 (a : Unt) : nth (cU a) 9 = iv a.most:=rfl
theorem nU10 (a : Unt) : nth (cU a) 10 = .sl 3 dA cA a.axles:=rfl
theorem lU (a : Unt) : (cU a).length = 11:=rfl
theorem nV0 (a : Veh) : nth (cV a) 0 = stv a.name:=rfl
theorem nV1 (a : Veh) : nth (cV a) 1 = .sl 11 dU cU a.units:=rfl
theorem nV2 (a : Veh) : nth (cV a) 2 = iv a.fr:=rfl
theorem nV3 (a : Veh) : nth (cV a) 3 = iv a.to:=rfl
theorem lV (a : Veh) : (cV a).length = 4:=rfl
theorem aUe (l : List Unt) : aU l = .sl 11 dU cU l:=rfl
theorem aAe (l : List Axl) : aA l = .sl 3 dA cA l:=rfl
theorem tA (s : Axl) : List.take 3 (cA s) = cA s:=rfl
theorem frA (s : Axl) : frzAll (cA s) = true:=rfl
theorem iA {m : Nat → Option Blk} {n : Nat} (s : Axl) : List.flatMap (ids m n) (cA s) = []:=flat_frz n _ (frA s)
theorem tU (s : Unt) : List.take 11 (cU s) = cU s:=rfl
theorem frU (s : Unt) : frzAll (cU s) = true:=rfl
theorem iU {m : Nat → Option Blk} {n : Nat} (s : Unt) : List.flatMap (ids m n) (cU s) = []:=flat_frz n _ (frU s)
theorem tV (s : Veh) : List.take 4 (cV s) = cV s:=rfl
theorem frV (s : Veh) : frzAll (cV s) = true:=rfl
theorem iV {m : Nat → Option Blk} {n : Nat} (s : Veh) : List.flatMap (ids m n) (cV s) = []:=flat_frz n _ (frV s)
attribute [push_cast] tA frA iA tU frU iU tV frV iV nA0 nA1 nA2 lA nU0 nU1 nU2 nU3 nU4 nU5 nU6 nU7 nU8 nU9 nU10 lU nV0 nV1 nV2 nV3 lV aUe aAe
theorem fn121 (x lo hi : Int) : Sy.Fn Tryz.prog 121 [iv x,iv lo,iv hi] (bv (inR x lo hi)):=by
 refine Fn_of_W mixed Xt121 rfl ?_
 (refine go0 ?_;try exact tTI)
 exact W_ret ⟨[_],⟨rfl,rfl⟩,rfl⟩
theorem fn120 (x : Int) : Sy.Fn Tryz.prog 120 [iv x] (bv (!inR x 0 131072)):=by
 refine Fn_of_W mixed Xt120 rfl ?_
 (refine go_c (fun x1 x2 x3=>fn121 x1 x2 x3) ?_;try exact tTI)
 exact W_ret ⟨[_],⟨rfl,rfl⟩,rfl⟩
abbrev sa (l : List Axl) (j : Nat) : Axl:=l.getD j dA
abbrev su (l : List Unt) (j : Nat) : Unt:=l.getD j dU
def lastX (l : List Axl) (j : Nat) : Int:=if j = 0 then 0 else (sa l (j - 1)).x
def axB (u : Unt) (j : Nat) : Bool:=inR (sa u.axles j).x (lastX u.axles j) (u.length + u.rear) && inR (sa u.axles j).limit 1 1048576 && decide (1 ≤ (sa u.axles j).wheels) && decide ((sa u.axles j).wheels ≤ 16)
def axOK (u : Unt) : Bool:=(List.range u.axles.length).all (axB u)
def hd1 (u : Unt) : Prop:=(0 ≤ u.kind ∧ u.kind ≤ 3) ∧ (100 ≤ u.length ∧ u.length ≤ 131072) ∧ (-u.length ≤ u.behind ∧ u.behind ≤ 131072) ∧ (0 ≤ u.front ∧ u.front ≤ 131072) ∧ (0 ≤ u.rear ∧ u.rear ≤ 131072) ∧ (0 ≤ u.width ∧ u.width ≤ 131072) ∧ (0 ≤ u.height ∧ u.height ≤ 131072)
def hd2 (u : Unt) : Prop:=(1 ≤ u.mass ∧ u.mass ≤ 1048576) ∧ (0 ≤ u.steer ∧ u.steer ≤ 900) ∧ (0 ≤ u.most ∧ u.most ≤ 40) ∧ 0 < u.axles.length
instance (u : Unt) : Decidable (hd1 u):=by unfold hd1;infer_instance
instance (u : Unt) : Decidable (hd2 u):=by unfold hd2;infer_instance
def unitB (u : Unt) : Bool:=decide (hd1 u) && decide (hd2 u) && axOK u
theorem axOK_no {u : Unt} {i : Nat} (hi : i < u.axles.length) (h : axB u i = false) : axOK u = false:=by
 rw [← Bool.not_eq_true]
 unfold axOK
 rw [List.all_eq_true]
 intro q
 rw [q i (by simpa using hi)] at h;cases h
theorem axOK_yes {u : Unt} (h : ∀ j,j < u.axles.length → axB u j = true) : axOK u = true:=by
 unfold axOK
 rw [List.all_eq_true]
 intro j hj
 exact h j (by simpa using hj)
theorem unitB_no1 {u : Unt} (h : ¬ hd1 u) : unitB u = false:=by unfold unitB;rw [decide_eq_false h,Bool.false_and,Bool.false_and]
theorem unitB_no2 {u : Unt} (h1 : hd1 u) (h : ¬ hd2 u) : unitB u = false:=by unfold unitB;rw [decide_eq_true h1,decide_eq_false h,Bool.true_and,Bool.false_and]
theorem unitB_ax {u : Unt} (h1 : hd1 u) (h : hd2 u) : unitB u = axOK u:=by unfold unitB;rw [decide_eq_true h1,decide_eq_true h,Bool.true_and,Bool.true_and]
theorem fn83 (u : Unt) (hl : u.axles.length ≤ 140737488355328) : Sy.Fn Tryz.prog 83 [.agg (cU u)] (bv (unitB u)):=by
 refine Fn_of_W mixed Xt83 rfl ?_
 have c119:=fn119 [u.front,u.rear,u.width,u.height] (Nat.le_of_ble_eq_true rfl) 120 [] [] (fun x=>!inR x 0 131072) (fun x _=>fn120 x)
 (refine go0 ?_;try exact tTI)
 refine ⟨rfl,trivial,Int,0,cI,[u.front,u.rear,u.width,u.height],rfl,by omega,fun x _=>⟨rfl,rfl⟩,rfl,?_⟩
 (refine sy1 ?_;try exact tTI)
 (refine go_gg c119 (fun x1 x2 x3=>fn121 x1 x2 x3) ?_;try exact tTI)
 refine W_cond (by rfl) (fun h=>?_) (fun h=>?_)
 ·have hno : ¬ hd1 u:=by
   rintro ⟨a0,a1,a2,a3,a4,a5,a6⟩
   rw [wrap64 ⟨by omega,by omega⟩] at h
   simp only [inR,Bool.or_eq_true,Bool.or_eq_false_iff,Bool.and_eq_true,Bool.and_eq_false_iff,Bool.not_not,Bool.not_eq_true',Bool.not_eq_false',decide_eq_true_eq,decide_eq_false_iff_not,Bool.not_or,Bool.not_and] at h
   omega
  rw [unitB_no1 hno]
  (refine go0 ?_;try exact tTI)
  exact W_ret ⟨[_],⟨rfl,rfl⟩,rfl⟩
 have h1 : hd1 u:=by
  by_cases hL : 100 ≤ u.length ∧ u.length ≤ 131072
  ·rw [wrap64 ⟨by omega,by omega⟩] at h
   simp only [inR,Bool.or_eq_true,Bool.or_eq_false_iff,Bool.and_eq_true,Bool.and_eq_false_iff,Bool.not_not,Bool.not_eq_true',Bool.not_eq_false',decide_eq_true_eq,decide_eq_false_iff_not,Bool.not_or,Bool.not_and] at h
   unfold hd1
   omega
  ·exfalso
   generalize IntKind.i64.wrap (0 - u.length) = w at h
   simp only [inR,Bool.or_eq_true,Bool.or_eq_false_iff,Bool.and_eq_true,Bool.and_eq_false_iff,Bool.not_not,Bool.not_eq_true',Bool.not_eq_false',decide_eq_true_eq,decide_eq_false_iff_not,Bool.not_or,Bool.not_and] at h
   omega
 (refine go_cg (fun x1 x2 x3=>fn121 x1 x2 x3) (fun x1 x2 x3=>fn121 x1 x2 x3) ?_;try exact tTI)
 refine W_cond (by rfl) (fun h=>?_) (fun h=>?_)
 ·have hno : ¬ hd2 u:=by
   rintro ⟨a0,a1,a2,a3⟩
   simp only [inR,Bool.or_eq_true,Bool.or_eq_false_iff,Bool.and_eq_true,Bool.and_eq_false_iff,Bool.not_not,Bool.not_eq_true',Bool.not_eq_false',decide_eq_true_eq,decide_eq_false_iff_not,Bool.not_or,Bool.not_and,beq_iff_eq] at h
   omega
  rw [unitB_no2 h1 hno]
  (refine go0 ?_;try exact tTI)
  exact W_ret ⟨[_],⟨rfl,rfl⟩,rfl⟩
 have h2 : hd2 u:=by
  simp only [inR,Bool.or_eq_true,Bool.or_eq_false_iff,Bool.and_eq_true,Bool.and_eq_false_iff,Bool.not_not,Bool.not_eq_true',Bool.not_eq_false',decide_eq_true_eq,decide_eq_false_iff_not,Bool.not_or,Bool.not_and,beq_eq_false_iff_ne] at h
  unfold hd2
  omega
 rw [unitB_ax h1 h2]
 (refine go0 ?_;try exact tTI)
 refine W_loopU (fun i : Nat=>[(4,iv (lastX u.axles i)),(74,iv i)]) (fun i=>[]) (fun i=>i ≤ u.axles.length ∧ ∀ j,j < i → axB u j = true) (fun i=>u.axles.length - i) 0 ⟨by omega,fun j hj=>by omega⟩ (by rfl) (by rfl) (fun i hi=>?_)
 obtain ⟨hi,hall⟩:=hi
 obtain ⟨a0,a1,a2,a3,a4,a5,a6⟩:=h1
 (refine sy1 ?_;try exact tTI)
 (refine go0 ?_;try exact tTI)
 refine W_condD (by rfl) (fun h5=>?_) (fun h5=>?_)
 ·have hlt : i < u.axles.length:=by omega
  have hsp : u.axles.getD i dA = sa u.axles i:=rfl
  have hls : lastX u.axles (i + 1) = (sa u.axles i).x:=by unfold lastX;rw [if_neg (by omega),Nat.add_sub_cancel]
  have hab : axB u i = (inR (sa u.axles i).x (lastX u.axles i) (u.length + u.rear) && inR (sa u.axles i).limit 1 1048576 && decide (1 ≤ (sa u.axles i).wheels) && decide ((sa u.axles i).wheels ≤ 16)):=rfl
  generalize hs : sa u.axles i = a at *
  (refine gofcg hsp (fun x1 x2 x3=>fn121 x1 x2 x3) (fun x1 x2 x3=>fn121 x1 x2 x3) ?_;try exact tTI)
  refine W_cond (by rfl) (fun hb=>?_) (fun hb=>?_)
  ·have hno : axB u i = false:=by
    rw [hab]
    generalize inR a.x (lastX u.axles i) (u.length + u.rear) = b1 at *
    generalize inR a.limit 1 1048576 = b2 at *
    cases b1 <;> cases b2 <;> simp at hb ⊢ <;> omega
   rw [axOK_no hlt hno]
   (refine go0 ?_;try exact tTI)
   exact W_ret ⟨[_],⟨rfl,rfl⟩,rfl⟩
  ·have hyes : axB u i = true:=by
    rw [hab]
    generalize inR a.x (lastX u.axles i) (u.length + u.rear) = b1 at *
    generalize inR a.limit 1 1048576 = b2 at *
    cases b1 <;> cases b2 <;> simp at hb ⊢ <;> omega
   (refine go0 ?_;try exact tTI)
   refine ⟨i + 1,⟨by omega,up_all hall hyes⟩,by omega,by rfl,?_⟩
   rw [hls]
   (refine syE ?_;try exact tTI)
 ·rw [axOK_yes (fun j hj=>hall j (by omega))]
  (refine go0 ?_;try exact tTI)
  exact W_ret ⟨[_],⟨rfl,rfl⟩,rfl⟩
theorem fn80 (u : Unt) : Sy.Fn Tryz.prog 80 [.agg (cU u)] (bv (decide (24 < u.axles.length))):=by
 refine Fn_of_W mixed Xt80 rfl ?_
 (refine go0 ?_;try exact tTI)
 have e : decide ((24 : Int) < u.axles.length) = decide (24 < u.axles.length):=by rw [Bool.eq_iff_iff];simp only [decide_eq_true_eq];omega
 rw [e]
 exact W_ret ⟨[_],⟨rfl,rfl⟩,rfl⟩
theorem fn82 (u : Unt) (hl : u.axles.length ≤ 140737488355328) : Sy.Fn Tryz.prog 82 [.agg (cU u)] (bv (!unitB u)):=by
 refine Fn_of_W mixed Xt82 rfl ?_
 (refine go_c (fn83 u hl) ?_;try exact tTI)
 exact W_ret ⟨[_],⟨rfl,rfl⟩,rfl⟩
theorem fn116 (l : List Unt) (hl : l.length ≤ 1000000) (g : Nat) (p : Unt → Bool) (hg : ∀ x ∈ l,Sy.Fn Tryz.prog g [.agg (cU x)] (bv (p x))) : Sy.Fn Tryz.prog 116 [aU l,.clo g [] []] (iv (idxF p l 0)):=by
 refine Fn_of_W mixed Xt116 rfl ?_
 (refine go0 ?_;try exact tTI)
 refine W_loopU (fun i : Nat=>[(8,iv i)]) (fun i=>[]) (fun i=>i ≤ l.length ∧ ∀ j,j < i → p (l.getD j dU) = false) (fun i=>l.length - i) 0 ⟨by omega,fun j hj=>by omega⟩ (by rfl) (by rfl) (fun i hi=>?_)
 obtain ⟨hi,hp⟩:=hi
 (refine sy1 ?_;try exact tTI)
 (refine go0 ?_;try exact tTI)
 refine W_condD (by rfl) (fun h=>?_) (fun h=>?_)
 ·have hlt : i < l.length:=by omega
  have cg:=hg _ (getD_mem dU l i hlt)
  (refine go_c cg ?_;try exact tTI)
  refine W_cond (by rfl) (fun hb=>?_) (fun hb=>?_)
  ·(refine go0 ?_;try exact tTI)
   exact W_ret ⟨[_],⟨rfl,rfl⟩,by rw [idxF_at p dU l i 0 hlt hp hb,Int.zero_add];rfl⟩
  ·(refine go0 ?_;try exact tTI)
   refine ⟨i + 1,⟨by omega,up_all hp hb⟩,by omega,by rfl,?_⟩
   (refine syE ?_;try exact tTI)
 ·(refine go0 ?_;try exact tTI)
  exact W_ret ⟨[_],⟨rfl,rfl⟩,by rw [idxF_none p dU l 0 (fun j hj=>hp j (by omega))];rfl⟩
theorem fn79 (l : List Unt) (hl : l.length ≤ 1000000) (g : Nat) (p : Unt → Bool) (hg : ∀ x ∈ l,Sy.Fn Tryz.prog g [.agg (cU x)] (bv (p x))) : Sy.Fn Tryz.prog 79 [aU l,.clo g [] []] (bv (l.any p)):=by
 refine Fn_of_W mixed Xt79 rfl ?_
 (refine go_c (fn116 l hl g p hg) ?_;try exact tTI)
 exact W_ret ⟨[_],⟨rfl,rfl⟩,by rw [← idxF_any p l 0 (by omega)];rfl⟩
def manyB (v : Veh) : Bool:=decide (12 < v.units.length) || v.units.any (fun u=>decide (24 < u.axles.length))
def argP (v : Veh) : Prop:=nameB v.name = false ∨ v.units.length = 0 ∨ (su v.units 0).kind ≠ 0 ∨ v.fr < 0 ∨ v.to < v.fr ∨ (v.units.length : Int) ≤ v.to
instance (v : Veh) : Decidable (argP v):=by unfold argP;infer_instance
def chkV (v : Veh) : Int:=if manyB v = true then 6 else if argP v then 2 else if v.units.any (fun u=>!unitB u) = true then 2 else 0
abbrev Gr (v : Veh) : Prop:=v.units.length ≤ 20 ∧ ∀ u ∈ v.units,u.axles.length ≤ 40
theorem fn38 (v : Veh) (hv : Gr v) : Sy.Fn Tryz.prog 38 [.agg (cV v)] (iv (chkV v)):=by
 refine Fn_of_W mixed Xt38 rfl ?_
 have hl:=hv.1
 have c1:=fn79 v.units (by omega) 80 (fun u=>decide (24 < u.axles.length)) (fun u _=>fn80 u)
 have c2:=fn79 v.units (by omega) 82 (fun u=>!unitB u) (fun u hu=>fn82 u (by have:=hv.2 u hu;omega))
 (refine go_g c1 ?_;try exact tTI)
 refine W_cond (by rfl) (fun h=>?_) (fun h=>?_)
 ·have e : manyB v = true:=by
   unfold manyB
   rw [← h];congr 1;rw [Bool.eq_iff_iff];simp only [decide_eq_true_eq];omega
  unfold chkV
  rw [if_pos e]
  (refine go0 ?_;try exact tTI)
  exact W_ret ⟨[_],⟨rfl,rfl⟩,rfl⟩
 have e : ¬ manyB v = true:=by
  rw [Bool.not_eq_true]
  unfold manyB
  rw [← h];congr 1;rw [Bool.eq_iff_iff];simp only [decide_eq_true_eq];omega
 unfold chkV
 rw [if_neg e]
 have hsu : v.units.getD 0 dU = su v.units 0:=rfl
 (refine gofc hsu (fun x1=>fn81 x1) ?_;try exact tTI)
 refine W_cond (by rfl) (fun h=>?_) (fun h=>?_)
 ·have ea : argP v:=by
   unfold argP
   generalize nameB v.name = b at *
   cases b
   ·exact .inl rfl
   ·right
    simp only [Bool.or_eq_true,Bool.or_eq_false_iff,decide_eq_true_eq,decide_eq_false_iff_not,bne_iff_ne,beq_iff_eq,beq_eq_false_iff_ne,bne_eq_false_iff_eq,Bool.not_true,Bool.not_false,Bool.false_eq_true,false_or,true_and,reduceCtorEq,ne_eq] at h ⊢
    omega
  rw [if_pos ea]
  (refine go0 ?_;try exact tTI)
  exact W_ret ⟨[_],⟨rfl,rfl⟩,rfl⟩
 have ea : ¬ argP v:=by
  unfold argP
  generalize nameB v.name = b at *
  cases b
  ·simp at h
  ·simp only [Bool.or_eq_true,Bool.or_eq_false_iff,decide_eq_true_eq,decide_eq_false_iff_not,bne_iff_ne,beq_iff_eq,beq_eq_false_iff_ne,bne_eq_false_iff_eq,Bool.not_true,Bool.not_false,Bool.false_eq_true,false_or,true_and,reduceCtorEq,ne_eq] at h ⊢
   omega
 rw [if_neg ea]
 (refine go_c c2 ?_;try exact tTI)
 refine W_cond (by rfl) (fun h=>?_) (fun h=>?_)
 ·rw [if_pos h]
  (refine go0 ?_;try exact tTI)
  exact W_ret ⟨[_],⟨rfl,rfl⟩,rfl⟩
 ·rw [if_neg (by rw [h];decide)]
  (refine go0 ?_;try exact tTI)
  exact W_ret ⟨[_],⟨rfl,rfl⟩,rfl⟩
theorem cdiv_le {n d : Int} (hd : 0 < d) : n ≤ cdiv n d * d ∧ cdiv n d * d < n + d:=by
 unfold cdiv
 have e:=Int.ediv_mul_add_emod (-n) d
 have e1:=Int.emod_nonneg (-n) (Int.ne_of_gt hd)
 have e2:=Int.emod_lt_of_pos (-n) hd
 rw [Int.neg_mul]
 omega
theorem lt_mul {a b w : Int} (hw : 0 < w) (h : a * w < b * w) : a < b:=Int.lt_of_mul_lt_mul_right h (Int.le_of_lt hw)
theorem cdiv_rng {m p w : Int} (hm : 0 ≤ m) (hp : 0 ≤ p ∧ p ≤ w) (hw : 0 < w) : 0 ≤ cdiv (m * p) w ∧ cdiv (m * p) w ≤ m:=by
 have a1 : 0 ≤ m * p:=Int.mul_nonneg hm hp.1
 have a2 : m * p ≤ m * w:=Int.mul_le_mul_of_nonneg_left hp.2 hm
 obtain ⟨h1,h2⟩:=cdiv_le (n:=m * p) hw
 generalize cdiv (m * p) w = c at *
 constructor
 ·have : (-1) * w < c * w:=by omega
  have:=lt_mul hw this
  omega
 ·have : c * w < (m + 1) * w:=by rw [Int.add_mul];omega
  have:=lt_mul hw this
  omega
theorem up_eq {a n : Int} (ha : 0 ≤ a) (hn : 0 < n) : (a + n - 1).tdiv n = cdiv a n:=by
 rw [Int.tdiv_eq_ediv_of_nonneg (by omega)]
 obtain ⟨h1,h2⟩:=cdiv_le (n:=a) hn
 have b1:=Int.ediv_mul_add_emod (a + n - 1) n
 have b2:=Int.emod_nonneg (a + n - 1) (Int.ne_of_gt hn)
 have b3:=Int.emod_lt_of_pos (a + n - 1) hn
 generalize cdiv a n = c at *
 generalize (a + n - 1) / n = q at *
 generalize (a + n - 1) % n = r at *
 have d1:=lt_mul (a:=c) (b:=q + 1) hn (by rw [Int.add_mul];omega)
 have d2:=lt_mul (a:=q) (b:=c + 1) hn (by rw [Int.add_mul];omega)
 omega
def extra (v : Veh) (m L x : Int) (i : Nat) : Int:=if v.fr = v.to then (if v.fr = i then m else 0) else if v.fr = i then levL m 0 L x else if v.to = i then levR m 0 L x else 0
def each (v : Veh) (m L x : Int) (i : Nat) : Int:=cdiv ((su v.units i).mass + extra v m L x i) (su v.units i).axles.length
theorem chkV_ok {v : Veh} (h : chkV v = 0) : v.units.length ≤ 12 ∧ (∀ i,i < v.units.length → hd1 (su v.units i) ∧ hd2 (su v.units i) ∧ (su v.units i).axles.length ≤ 24) ∧ 0 < v.units.length ∧ 0 ≤ v.fr ∧ v.fr ≤ v.to ∧ v.to < v.units.length:=by
 unfold chkV at h
 by_cases h1 : manyB v = true
 ·rw [if_pos h1] at h;omega
 rw [if_neg h1] at h
 by_cases h2 : argP v
 ·rw [if_pos h2] at h;omega
 rw [if_neg h2] at h
 by_cases h3 : (v.units.any fun u=>!unitB u) = true
 ·rw [if_pos h3] at h;omega
 rw [Bool.not_eq_true] at h1 h3
 unfold manyB at h1
 rw [Bool.or_eq_false_iff,decide_eq_false_iff_not,← Bool.not_eq_true,List.any_eq_true] at h1
 rw [← Bool.not_eq_true,List.any_eq_true] at h3
 unfold argP at h2
 simp only [not_or] at h2
 refine ⟨by omega,fun i hi=>?_,by omega,by omega,by omega,by omega⟩
 have hm:=getD_mem dU v.units i hi
 have hu : unitB (su v.units i) = true:=by
  rw [← Bool.not_eq_false]
  intro q
  exact h3 ⟨_,hm,by rw [q];rfl⟩
 unfold unitB at hu
 simp only [Bool.and_eq_true,decide_eq_true_eq] at hu
 refine ⟨hu.1.1,hu.1.2,?_⟩
 apply Classical.byContradiction
 intro q
 exact h1.2 ⟨_,hm,decide_eq_true (show 24 < (su v.units i).axles.length by omega)⟩
structure AxOK (v : Veh) (m L x : Int) : Prop where
 ch : chkV v = 0
 hm : 1 ≤ m ∧ m ≤ 16777216
 hL : 1 ≤ L ∧ L ≤ 16777216
 hx : 0 ≤ x ∧ x ≤ L
theorem AxOK.lev {v : Veh} {m L x : Int} (h : AxOK v m L x) : levE m 0 L x = 0:=by
 have hm:=h.hm;have hL:=h.hL;have hx:=h.hx
 unfold levE okMass okPlace
 rw [if_neg,if_neg (by omega),if_neg]
 ·rw [Bool.not_eq_false,inR_iff];exact hx
 ·rw [Bool.not_eq_true]
  simp only [Bool.or_eq_false_iff,Bool.not_eq_false',inR_iff]
  omega
theorem AxOK.lr {v : Veh} {m L x : Int} (h : AxOK v m L x) : (0 ≤ levL m 0 L x ∧ levL m 0 L x ≤ m) ∧ 0 ≤ levR m 0 L x ∧ levR m 0 L x ≤ m:=by
 have hm:=h.hm;have hL:=h.hL;have hx:=h.hx
 unfold levL levR
 rw [if_pos h.lev,if_pos h.lev]
 exact ⟨cdiv_rng (by omega) (by omega) (by omega),cdiv_rng (by omega) (by omega) (by omega)⟩
theorem AxOK.ex {v : Veh} {m L x : Int} (h : AxOK v m L x) (i : Nat) : 0 ≤ extra v m L x i ∧ extra v m L x i ≤ m:=by
 have hm:=h.hm
 have:=h.lr
 unfold extra
 repeat' split
 all_goals omega
theorem AxOK.ea {v : Veh} {m L x : Int} (h : AxOK v m L x) {i : Nat} (hi : i < v.units.length) : (1 ≤ (su v.units i).mass ∧ (su v.units i).mass ≤ 1048576) ∧ (1 ≤ ((su v.units i).axles.length : Int) ∧ ((su v.units i).axles.length : Int) ≤ 24) ∧ (0 ≤ each v m L x i ∧ each v m L x i ≤ 17825792) ∧ ((su v.units i).mass + extra v m L x i + (su v.units i).axles.length - 1).tdiv (su v.units i).axles.length = each v m L x i:=by
 have hm:=h.hm
 have he:=h.ex i
 obtain ⟨_,h2,h3⟩:=(chkV_ok h.ch).2.1 i hi
 obtain ⟨m1,_,_,m4⟩:=h2
 unfold each
 refine ⟨m1,by omega,?_,up_eq (by omega) (by omega)⟩
 have r:=cdiv_le (n:=(su v.units i).mass + extra v m L x i) (d:=(su v.units i).axles.length) (by omega)
 generalize cdiv ((su v.units i).mass + extra v m L x i) (su v.units i).axles.length = c at *
 have hn : 0 < ((su v.units i).axles.length : Int):=by omega
 generalize ((su v.units i).axles.length : Int) = n at *
 constructor
 ·have : (-1) * n < c * n:=by omega
  have:=lt_mul hn this
  omega
 ·apply Classical.byContradiction
  intro q
  have : 17825793 * n ≤ c * n:=Int.mul_le_mul_of_nonneg_right (by omega) (by omega)
  omega
abbrev byt (s : ByteArray) (i : Nat) : Nat:=(s.get! i).toNat
def gC (c : Nat) : Bool:=(decide (97 ≤ c) && decide (c ≤ 122)) || (decide (48 ≤ c) && decide (c ≤ 57))
theorem gC_lt {c : Nat} (h : gC c = true) : c < 128:=by
 unfold gC at h
 simp only [Bool.or_eq_true,Bool.and_eq_true,decide_eq_true_eq] at h
 omega
theorem dec_lt {s : ByteArray} {p : Nat} (h : byt s p < 128) : Utf8.decode s p = (byt s p,1):=by
 unfold Utf8.decode
 simp only [Nat.add_zero]
 rw [if_pos h]
theorem dec_ge {s : ByteArray} {p : Nat} (h : 128 ≤ byt s p) : 128 ≤ (Utf8.decode s p).1:=by
 unfold Utf8.decode
 simp only [Nat.add_zero]
 rw [if_neg (by unfold byt at h;omega)]
 split
 ·split
  ·assumption
  ·decide
 split
 ·split
  ·rename_i q;simp only [Bool.and_eq_true,decide_eq_true_eq,ge_iff_le] at q;omega
  ·decide
 split
 ·split
  ·rename_i q;simp only [Bool.and_eq_true,decide_eq_true_eq,ge_iff_le] at q;omega
  ·decide
 ·decide
def goodB (s : ByteArray) : Bool:=(List.range s.size).all fun i=>gC (byt s i)
theorem good_iff {s : ByteArray} : goodB s = true ↔ ∀ i,i < s.size → gC (byt s i) = true:=by
 unfold goodB
 rw [List.all_eq_true]
 exact ⟨fun h i hi=>h i (by simpa using hi),fun h i hi=>h i (by simpa using hi)⟩
def naB (s : ByteArray) : Bool:=decide (1 ≤ s.size) && (decide (s.size ≤ 20) && goodB s)
theorem dec_good (s : ByteArray) (p : Nat) : gC (Utf8.decode s p).1 = gC (byt s p) ∧ (gC (byt s p) = true → Utf8.decode s p = (byt s p,1)):=by
 by_cases h : byt s p < 128
 ·rw [dec_lt h];exact ⟨rfl,fun _=>rfl⟩
 ·have h1:=dec_ge (s:=s) (p:=p) (by omega)
  have e1 : gC (Utf8.decode s p).1 = false:=by
   rw [← Bool.not_eq_true];intro q;have:=gC_lt q;omega
  have e2 : gC (byt s p) = false:=by
   rw [← Bool.not_eq_true];intro q;have:=gC_lt q;omega
  rw [e1,e2]
  exact ⟨rfl,fun q=>by cases q⟩
abbrev tx (s : ByteArray) : AV:=.v (.string s)
structure Pce where
 x : Int
 y : Int
 z : Int
 l : Int
 w : Int
 h : Int
 m : Int
structure Eye where
 x : Int
 y : Int
 z : Int
 st : Int
structure Lod where
 name : ByteArray
 ps : List Pce
 es : List Eye
 fr : Int
def dPc : Pce:=⟨0,0,0,0,0,0,0⟩
def dEy : Eye:=⟨0,0,0,0⟩
abbrev cPc (p : Pce) : List AV:=[iv p.x,iv p.y,iv p.z,iv p.l,iv p.w,iv p.h,iv p.m]
abbrev cEy (e : Eye) : List AV:=[iv e.x,iv e.y,iv e.z,iv e.st]
abbrev aPc (l : List Pce) : AV:=.sl 7 dPc cPc l
abbrev aEy (l : List Eye) : AV:=.sl 4 dEy cEy l
abbrev cLd (l : Lod) : List AV:=[tx l.name,aPc l.ps,aEy l.es,iv l.fr]
def pceB (p : Pce) : Bool:=inR p.x (-131072) 131072 && (decide (1 ≤ p.l) && decide (p.l ≤ 131072 - p.x)) && (inR p.y (-131072) 131072 && (decide (1 ≤ p.w) && decide (p.w ≤ 131072 - p.y))) && (inR p.z 0 131072 && (decide (1 ≤ p.h) && decide (p.h ≤ 131072 - p.z))) && inR p.m 0 16777216
def eyeB (e : Eye) : Bool:=inR e.x (-131072) 131072 && inR e.y (-131072) 131072 && inR e.z 0 131072 && inR e.st 0 4194304
theorem fn75 (x lo hi : Int) : Sy.Fn Tryz.prog 75 [iv x,iv lo,iv hi] (bv (inR x lo hi)):=by
 refine Fn_of_W mixed Xt75 rfl ?_
 (refine go0 ?_;try exact tTI)
 exact W_ret ⟨[_],⟨rfl,rfl⟩,by unfold inR;rfl⟩
theorem fn77 (e : Eye) : Sy.Fn Tryz.prog 77 [.agg (cEy e)] (bv (eyeB e)):=by
 refine Fn_of_W mixed Xt77 rfl ?_
 (refine go_cg (fun x1 x2 x3=>fn75 x1 x2 x3) (fun x1 x2 x3=>fn75 x1 x2 x3) ?_;try exact tTI)
 exact W_ret ⟨[_],⟨rfl,rfl⟩,by unfold eyeB;rfl⟩
theorem name_no {s : ByteArray} {p : Nat} (hp : p < s.size) (h : gC (byt s p) = false) : naB s = false:=by
 rw [← Bool.not_eq_true]
 intro q
 unfold naB at q
 simp only [Bool.and_eq_true] at q
 rw [good_iff.1 q.2.2 p hp] at h
 cases h
theorem fn74 (s : ByteArray) : Sy.Fn Tryz.prog 74 [tx s] (bv (naB s)):=by
 refine Fn_of_W mixed Xt74 rfl ?_
 (refine go0 ?_;try exact tTI)
 refine W_cond (by rfl) (fun h=>?_) (fun h=>?_)
 ·have e : naB s = false:=by
   rw [← Bool.not_eq_true]
   unfold naB
   simp only [Bool.and_eq_true,decide_eq_true_eq,Bool.or_eq_true] at h ⊢
   omega
  rw [e]
  (refine go0 ?_;try exact tTI)
  exact W_ret ⟨[_],⟨rfl,rfl⟩,rfl⟩
 simp only [Bool.or_eq_false_iff,decide_eq_false_iff_not] at h
 refine W_skip ?_
 (refine sy1 ?_;try exact tTI)
 repeat (first | refine WK_go ?_ | refine W_seqL ?_ | refine W_seq ?_ | refine W_block ?_)
 refine W_regX [1] ?_
 (refine sCS ?_;try exact tTI)
 refine ⟨[],rfl,rfl,s,rfl,fun b=>?_⟩
 (refine sy1 ?_;try exact tTI)
 (refine go0 ?_;try exact tTI)
 refine W_loopU (fun i : Nat=>[]) (fun i=>[(10,.oth (.si b s i))]) (fun i=>i ≤ s.size ∧ ∀ j,j < i → gC (byt s j) = true) (fun i=>s.size - i) 0 ⟨by omega,fun j hj=>by omega⟩ (by rfl) (by rfl) (fun i hi=>?_)
 obtain ⟨hi,hall⟩:=hi
 (refine sy1 ?_;try exact tTI)
 repeat (first | refine WK_go ?_ | refine W_seqL ?_ | refine W_seq ?_ | refine W_block ?_)
 refine W_regX [0] ?_
 (refine sCS ?_;try exact tTI)
 refine ⟨[],rfl,rfl,10,b,s,i,rfl,rfl,?_⟩
 by_cases hlt : i < s.size
 ·obtain ⟨e1,e2⟩:=dec_good s i
  rw [show outN s i = .tup [bv true,.v (goInt i),.v (.int .i32 (Utf8.decode s i).1)] by unfold outN;rw [if_pos hlt],show advN s i = i + (Utf8.decode s i).2 by unfold advN;rw [if_pos hlt]]
  generalize (Utf8.decode s i).1 = c at *
  (refine sy1 ?_;try exact tTI)
  (refine go0 ?_;try exact tTI)
  refine W_cond (by rfl) (fun _=>?_) (fun hz=>by cases hz)
  (refine go0 ?_;try exact tTI)
  have key : ((decide ((c : Int) < 97) || decide (122 < (c : Int))) && (decide ((c : Int) < 48) || decide (57 < (c : Int)))) = !gC c:=by
   rw [Bool.eq_iff_iff]
   unfold gC
   simp only [Bool.and_eq_true,Bool.or_eq_true,Bool.not_eq_true',Bool.or_eq_false_iff,Bool.and_eq_false_iff,decide_eq_true_eq,decide_eq_false_iff_not]
   omega
  rw [key,e1]
  refine W_cond (by rfl) (fun hb=>?_) (fun hb=>?_)
  ·rw [name_no hlt (by simpa using hb)]
   (refine go0 ?_;try exact tTI)
   exact W_ret ⟨[_],⟨rfl,rfl⟩,rfl⟩
  ·have hg : gC (byt s i) = true:=by simpa using hb
   rw [e2 hg]
   (refine go0 ?_;try exact tTI)
   refine ⟨i + 1,⟨by omega,up_all hall hg⟩,by omega,by rfl,?_⟩
   (refine syE ?_;try exact tTI)
 ·rw [show outN s i = .tup [bv false] by unfold outN;rw [if_neg hlt],show advN s i = i by unfold advN;rw [if_neg hlt]]
  have e : naB s = true:=by
   unfold naB
   rw [good_iff.2 (fun j hj=>hall j (by omega))]
   simp only [Bool.and_true,Bool.and_eq_true,decide_eq_true_eq]
   omega
  rw [e]
  (refine sy1 ?_;try exact tTI)
  (refine go0 ?_;try exact tTI)
  refine W_cond (by rfl) (fun hz=>by cases hz) (fun _=>?_)
  (refine go0 ?_;try exact tTI)
  exact W_ret ⟨[_],⟨rfl,rfl⟩,rfl⟩
def aKB (x l lo : Int) : Bool:=inR x lo 131072 && (decide (1 ≤ l) && decide (l ≤ 131072 - x))
theorem pceB_eq (p : Pce) : pceB p = (aKB p.x p.l (-131072) && aKB p.y p.w (-131072) && aKB p.z p.h 0 && inR p.m 0 16777216):=rfl
theorem ax_key (x l lo : Int) (hl : -131072 ≤ lo) : (!inR x lo 131072 || decide (l < 1) || decide (IntKind.i64.wrap (131072 - x) < l)) = !aKB x l lo:=by
 unfold aKB
 by_cases h1 : inR x lo 131072 = true
 rotate_left
 ·rw [Bool.not_eq_true] at h1;rw [h1];rfl
 have g1:=inR_iff.1 h1
 rw [wrap64 ⟨by omega,by omega⟩,h1,Bool.eq_iff_iff]
 simp only [Bool.not_true,Bool.false_or,Bool.true_and,Bool.or_eq_true,Bool.not_eq_true',Bool.and_eq_false_iff,decide_eq_true_eq,decide_eq_false_iff_not]
 omega
theorem fn76 (p : Pce) : Sy.Fn Tryz.prog 76 [.agg (cPc p)] (bv (pceB p)):=by
 refine Fn_of_W mixed Xt76 rfl ?_
 rw [pceB_eq]
 (refine go0 ?_;try exact tTI)
 refine W_loopU (fun k : Nat=>[(22,iv k)]) (fun k=>[]) (fun k=>k ≤ 3 ∧ (0 < k → aKB p.x p.l (-131072) = true) ∧ (1 < k → aKB p.y p.w (-131072) = true) ∧ (2 < k → aKB p.z p.h 0 = true)) (fun k=>3 - k) 0 ⟨by omega,by omega,by omega,by omega⟩ (by rfl) (by rfl) (fun k hk=>?_)
 obtain ⟨hk,g1,g2,g3⟩:=hk
 (refine sy1 ?_;try exact tTI)
 (refine go0 ?_;try exact tTI)
 refine W_condD (by rfl) (fun h5=>?_) (fun h5=>?_)
 ·obtain rfl | rfl | rfl : k = 0 ∨ k = 1 ∨ k = 2:=by omega
  ·(refine gofcg Nat.mul_one (fun x1 x2 x3=>fn75 x1 x2 x3) (fun x1 x2 x3=>fn75 x1 x2 x3) ?_;try exact tTI)
   rw [ax_key _ _ _ (by omega)]
   refine W_cond (by rfl) (fun hb=>?_) (fun hb=>?_)
   ·rw [show aKB p.x p.l (-131072) = false by simpa using hb]
    (refine go0 ?_;try exact tTI)
    exact W_ret ⟨[_],⟨rfl,rfl⟩,rfl⟩
   ·(refine go0 ?_;try exact tTI)
    refine ⟨1,⟨by omega,fun _=>by simpa using hb,by omega,by omega⟩,by omega,by rfl,?_⟩
    (refine syE ?_;try exact tTI)
  ·rw [show ((1 : Nat) : Int) = 1 from rfl]
   (refine gofcg Nat.mul_one (fun x1 x2 x3=>fn75 x1 x2 x3) (fun x1 x2 x3=>fn75 x1 x2 x3) ?_;try exact tTI)
   rw [ax_key _ _ _ (by omega)]
   refine W_cond (by rfl) (fun hb=>?_) (fun hb=>?_)
   ·rw [show aKB p.y p.w (-131072) = false by simpa using hb]
    simp only [Bool.and_false,Bool.false_and]
    (refine go0 ?_;try exact tTI)
    exact W_ret ⟨[_],⟨rfl,rfl⟩,rfl⟩
   ·(refine go0 ?_;try exact tTI)
    refine ⟨2,⟨by omega,fun _=>g1 (by omega),fun _=>by simpa using hb,by omega⟩,by omega,by rfl,?_⟩
    (refine syE ?_;try exact tTI)
    rfl
  ·rw [show ((2 : Nat) : Int) = 2 from rfl]
   (refine gofcg Nat.mul_one (fun x1 x2 x3=>fn75 x1 x2 x3) (fun x1 x2 x3=>fn75 x1 x2 x3) ?_;try exact tTI)
   rw [ax_key _ _ _ (by omega)]
   refine W_cond (by rfl) (fun hb=>?_) (fun hb=>?_)
   ·rw [show aKB p.z p.h 0 = false by simpa using hb]
    simp only [Bool.and_false,Bool.false_and]
    (refine go0 ?_;try exact tTI)
    exact W_ret ⟨[_],⟨rfl,rfl⟩,rfl⟩
   ·(refine go0 ?_;try exact tTI)
    refine ⟨3,⟨by omega,fun _=>g1 (by omega),fun _=>g2 (by omega),fun _=>by simpa using hb⟩,by omega,by rfl,?_⟩
    (refine syE ?_;try exact tTI)
    rfl
 ·rw [g1 (by omega),g2 (by omega),g3 (by omega)]
  (refine go_c (fun x1 x2 x3=>fn75 x1 x2 x3) ?_;try exact tTI)
  exact W_ret ⟨[_],⟨rfl,rfl⟩,rfl⟩
theorem fn36 (p : Pce) (h : pceB p = true) : Sy.Fn Tryz.prog 36 [.agg (cPc p)] (.agg [iv p.x,iv p.y,iv p.z,iv (p.x + p.l),iv (p.y + p.w),iv (p.z + p.h)]):=by
 refine Fn_of_W mixed Xt36 rfl ?_
 unfold pceB at h
 simp only [Bool.and_eq_true,decide_eq_true_eq,inR_iff] at h
 (refine go0 ?_;try exact tTI)
 exact W_ret ⟨[_],⟨⟨by simp,rfl⟩,rfl⟩,rfl⟩
def pc (l : List Pce) (i : Nat) : Pce:=l.getD i dPc
def plo (p : Pce) : Nat → Int
 |0=>p.x
 |1=>p.y
 |_=>p.z
def psz (p : Pce) : Nat → Int
 |0=>p.l
 |1=>p.w
 |_=>p.h
def mo (p : Pce) (k : Nat) : Int:=p.m * (plo p k + (plo p k + psz p k))
def smM (l : List Pce) : Int:=l.foldl (fun a p=>a + p.m) 0
def smK (l : List Pce) (k : Nat) : Int:=l.foldl (fun a p=>a + mo p k) 0
theorem take_pc {l : List Pce} {i : Nat} (h : i < l.length) : l.take (i + 1) = l.take i ++ [pc l i]:=by
 rw [List.take_succ_eq_append_getElem h]
 simp [pc,h]
theorem smM_succ {l : List Pce} {i : Nat} (h : i < l.length) : smM (l.take (i + 1)) = smM (l.take i) + (pc l i).m:=by
 rw [take_pc h];simp [smM,List.foldl_append]
theorem smK_succ {l : List Pce} {i : Nat} (h : i < l.length) (k : Nat) : smK (l.take (i + 1)) k = smK (l.take i) k + mo (pc l i) k:=by
 rw [take_pc h];simp [smK,List.foldl_append]
theorem pceB_iff {p : Pce} : pceB p = true ↔ (((-131072 ≤ p.x ∧ p.x ≤ 131072) ∧ 1 ≤ p.l ∧ p.l ≤ 131072 - p.x) ∧ ((-131072 ≤ p.y ∧ p.y ≤ 131072) ∧ 1 ≤ p.w ∧ p.w ≤ 131072 - p.y) ∧ (0 ≤ p.z ∧ p.z ≤ 131072) ∧ 1 ≤ p.h ∧ p.h ≤ 131072 - p.z) ∧ 0 ≤ p.m ∧ p.m ≤ 16777216:=by
 unfold pceB
 simp only [Bool.and_eq_true,decide_eq_true_eq,inR_iff]
 omega
theorem mo_rng {p : Pce} (h : pceB p = true) (k : Nat) : (-262144 ≤ plo p k + (plo p k + psz p k) ∧ plo p k + (plo p k + psz p k) ≤ 262144) ∧ -4398046511104 ≤ mo p k ∧ mo p k ≤ 4398046511104:=by
 obtain ⟨⟨h1,h2,h3⟩,h4⟩:=pceB_iff.1 h
 have hr : -262144 ≤ plo p k + (plo p k + psz p k) ∧ plo p k + (plo p k + psz p k) ≤ 262144:=by
  rcases k with _ | _ | k <;> simp only [plo,psz] <;> omega
 refine ⟨hr,?_⟩
 unfold mo
 generalize plo p k + (plo p k + psz p k) = q at *
 constructor
 ·have a:=Int.mul_le_mul_of_nonneg_left hr.1 h4.1
  have b:=Int.mul_le_mul_of_nonneg_right h4.2 (show (0 : Int) ≤ 262144 by omega)
  omega
 ·have a:=Int.mul_le_mul_of_nonneg_left hr.2 h4.1
  have b:=Int.mul_le_mul_of_nonneg_right h4.2 (show (0 : Int) ≤ 262144 by omega)
  omega
theorem sm_rng {l : List Pce} (h : ∀ i,i < l.length → pceB (pc l i) = true) : ∀ n,n ≤ l.length → (0 ≤ smM (l.take n) ∧ smM (l.take n) ≤ n * 16777216) ∧ ∀ k,-(n * 4398046511104) ≤ smK (l.take n) k ∧ smK (l.take n) k ≤ n * 4398046511104
 |0,_=>by simp [smM,smK]
 |n + 1,hn=>by
  obtain ⟨h1,h2⟩:=sm_rng h n (by omega)
  rw [smM_succ (by omega)]
  have hp:=h n (by omega)
  obtain ⟨_,h4⟩:=pceB_iff.1 hp
  refine ⟨by omega,fun k=>?_⟩
  rw [smK_succ (by omega)]
  have:=(mo_rng hp k).2
  have:=h2 k
  omega
abbrev cW (m a b c : Int) : List AV:=[iv m,iv a,iv b,iv c]
def wk (F : Nat → Int) (p : Pce) (k j : Nat) : Int:=if j < k then F j + mo p j else F j
theorem fn35 (l : List Pce) (hl : l.length ≤ 32) (h : ∀ i,i < l.length → pceB (pc l i) = true) : Sy.Fn Tryz.prog 35 [aPc l] (.agg (cW (smM l) (smK l 0) (smK l 1) (smK l 2))):=by
 refine Fn_of_W mixed Xt35 rfl ?_
 (refine go0 ?_;try exact tTI)
 refine W_loopU (fun i : Nat=>[(7,iv i)]) (fun i=>[(0,.cells (cW (smM (l.take i)) (smK (l.take i) 0) (smK (l.take i) 1) (smK (l.take i) 2)))]) (fun i=>i ≤ l.length) (fun i=>l.length - i) 0 (by omega) (by rfl) (by rfl) (fun i hi=>?_)
 (refine sy1 ?_;try exact tTI)
 (refine go0 ?_;try exact tTI)
 refine W_condD (by rfl) (fun h5=>?_) (fun h5=>?_)
 ·have hlt : i < l.length:=by omega
  have hp:=h i hlt
  have hpc : l.getD i dPc = pc l i:=rfl
  obtain ⟨r1,r2⟩:=sm_rng h i (by omega)
  have e1:=smM_succ hlt
  have e2:=smK_succ hlt
  generalize pc l i = p at *
  generalize smM (l.take i) = M at *
  generalize smK (l.take i) = F at *
  obtain ⟨⟨h1,h2,h3⟩,h4⟩:=pceB_iff.1 hp
  (refine gof hpc ?_;try exact tTI)
  refine CallC.inl (Inl_of_W mixed Xt78 rfl (fun vs=>?_))
  have c36:=fn36 p hp
  (refine sy1 ?_;try exact tTI)
  (refine go_c c36 ?_;try exact tTI)
  have q0 : (-262144 ≤ p.x + (p.x + p.l) ∧ p.x + (p.x + p.l) ≤ 262144) ∧ -4398046511104 ≤ p.m * (p.x + (p.x + p.l)) ∧ p.m * (p.x + (p.x + p.l)) ≤ 4398046511104:=mo_rng hp 0
  have q1 : (-262144 ≤ p.y + (p.y + p.w) ∧ p.y + (p.y + p.w) ≤ 262144) ∧ -4398046511104 ≤ p.m * (p.y + (p.y + p.w)) ∧ p.m * (p.y + (p.y + p.w)) ≤ 4398046511104:=mo_rng hp 1
  have q2 : (-262144 ≤ p.z + (p.z + p.h) ∧ p.z + (p.z + p.h) ≤ 262144) ∧ -4398046511104 ≤ p.m * (p.z + (p.z + p.h)) ∧ p.m * (p.z + (p.z + p.h)) ≤ 4398046511104:=mo_rng hp 2
  have f0:=r2 0
  have f1:=r2 1
  have f2:=r2 2
  refine W_loopU (fun k : Nat=>[(17,iv k)]) (fun k=>[(0,.cells (cW (M + p.m) (wk F p k 0) (wk F p k 1) (wk F p k 2)))]) (fun k=>k ≤ 3) (fun k=>3 - k) 0 (by omega) (by rfl) (by rfl) (fun k hk=>?_)
  (refine sy1 ?_;try exact tTI)
  (refine go0 ?_;try exact tTI)
  refine W_condD (by rfl) (fun h6=>?_) (fun h6=>?_)
  ·obtain rfl | rfl | rfl : k = 0 ∨ k = 1 ∨ k = 2:=by omega
   ·rw [show wk F p 0 0 = F 0 from rfl,show wk F p 0 1 = F 1 from rfl,show wk F p 0 2 = F 2 from rfl]
    (refine gof Nat.mul_one ?_;try exact tTI)
    refine ⟨1,by omega,by omega,by rfl,?_⟩
    rw [show wk F p 1 0 = F 0 + p.m * (p.x + (p.x + p.l)) from rfl,show wk F p 1 1 = F 1 from rfl,show wk F p 1 2 = F 2 from rfl]
    (refine syE ?_;try exact tTI)
   ·rw [show ((1 : Nat) : Int) = 1 from rfl,show wk F p 1 0 = F 0 + p.m * (p.x + (p.x + p.l)) from rfl,show wk F p 1 1 = F 1 from rfl,show wk F p 1 2 = F 2 from rfl]
    (refine gof Nat.mul_one ?_;try exact tTI)
    refine ⟨2,by omega,by omega,by rfl,?_⟩
    rw [show wk F p 2 0 = F 0 + p.m * (p.x + (p.x + p.l)) from rfl,show wk F p 2 1 = F 1 + p.m * (p.y + (p.y + p.w)) from rfl,show wk F p 2 2 = F 2 from rfl]
    (refine syE ?_;try exact tTI)
    rfl
   ·rw [show ((2 : Nat) : Int) = 2 from rfl,show wk F p 2 0 = F 0 + p.m * (p.x + (p.x + p.l)) from rfl,show wk F p 2 1 = F 1 + p.m * (p.y + (p.y + p.w)) from rfl,show wk F p 2 2 = F 2 from rfl]
    (refine gof Nat.mul_one ?_;try exact tTI)
    refine ⟨3,by omega,by omega,by rfl,?_⟩
    rw [show wk F p 3 0 = F 0 + p.m * (p.x + (p.x + p.l)) from rfl,show wk F p 3 1 = F 1 + p.m * (p.y + (p.y + p.w)) from rfl,show wk F p 3 2 = F 2 + p.m * (p.z + (p.z + p.h)) from rfl]
    (refine syE ?_;try exact tTI)
    rfl
  ·obtain rfl : k = 3:=by omega
   rw [show wk F p 3 0 = F 0 + mo p 0 from rfl,show wk F p 3 1 = F 1 + mo p 1 from rfl,show wk F p 3 2 = F 2 + mo p 2 from rfl,← e1,← e2,← e2,← e2]
   (refine go0 ?_;try exact tTI)
   refine ⟨[],_,rfl,rfl,?_⟩
   (refine syP ?_;try exact tTI)
   (refine go0 ?_;try exact tTI)
   refine ⟨i + 1,by omega,by omega,by rfl,?_⟩
   (refine syE ?_;try exact tTI)
 ·obtain rfl : i = l.length:=by omega
  rw [List.take_length]
  (refine go0 ?_;try exact tTI)
  exact W_ret ⟨[_],⟨⟨by simp,rfl⟩,rfl⟩,rfl⟩
def gEy (l : List Eye) (i : Nat) : Eye:=l.getD i dEy
structure OkL (l : Lod) : Prop where
 n1 : 1 ≤ l.ps.length
 n2 : l.ps.length ≤ 32
 n3 : l.es.length ≤ 32
 nm : naB l.name = true
 fr : inR l.fr 0 1000 = true
 pc : ∀ i,i < l.ps.length → pceB (pc l.ps i) = true
 ey : ∀ i,i < l.es.length → eyeB (gEy l.es i) = true
 ms : inR (smM l.ps) 1 16777216 = true
open Classical in
noncomputable def chkL (l : Lod) : Int:=if l.ps.length < 1 ∨ 32 < l.ps.length ∨ 32 < l.es.length then 6 else if OkL l then 0 else 2
theorem chkL_many {l : Lod} (h : l.ps.length < 1 ∨ 32 < l.ps.length ∨ 32 < l.es.length) : chkL l = 6:=by unfold chkL;rw [if_pos h]
theorem chkL_bad {l : Lod} (h : ¬ (l.ps.length < 1 ∨ 32 < l.ps.length ∨ 32 < l.es.length)) (h2 : ¬ OkL l) : chkL l = 2:=by unfold chkL;rw [if_neg h,if_neg h2]
theorem chkL_ok {l : Lod} (h : OkL l) : chkL l = 0:=by
 have:=h.n1;have:=h.n2;have:=h.n3
 unfold chkL;rw [if_neg (by omega),if_pos h]
theorem chkL_zero {l : Lod} (h : chkL l = 0) : OkL l:=by
 unfold chkL at h
 split at h
 ·omega
 ·split at h
  ·assumption
  ·omega
theorem fn34 (l : Lod) (h1 : l.ps.length ≤ 140737488355328) (h2 : l.es.length ≤ 140737488355328) : Sy.Fn Tryz.prog 34 [.agg (cLd l)] (iv (chkL l)):=by
 refine Fn_of_W mixed Xt34 rfl ?_
 (refine go0 ?_;try exact tTI)
 refine W_cond (by rfl) (fun h=>?_) (fun h=>?_)
 ·rw [chkL_many (by simp only [Bool.or_eq_true,decide_eq_true_eq] at h;omega)]
  (refine go0 ?_;try exact tTI)
  exact W_ret ⟨[_],⟨rfl,rfl⟩,rfl⟩
 simp only [Bool.or_eq_false_iff,decide_eq_false_iff_not] at h
 have hm : ¬ (l.ps.length < 1 ∨ 32 < l.ps.length ∨ 32 < l.es.length):=by omega
 have c74:=fn74 l.name
 (refine go_cg c74 (fun x1 x2 x3=>fn75 x1 x2 x3) ?_;try exact tTI)
 refine W_cond (by rfl) (fun hb=>?_) (fun hb=>?_)
 ·rw [chkL_bad hm (fun q=>by rw [q.nm,q.fr] at hb;cases hb)]
  (refine go0 ?_;try exact tTI)
  exact W_ret ⟨[_],⟨rfl,rfl⟩,rfl⟩
 simp only [Bool.or_eq_false_iff,Bool.not_eq_false'] at hb
 (refine go0 ?_;try exact tTI)
 refine W_loopU (fun i : Nat=>[(36,iv i)]) (fun i=>[]) (fun i=>i ≤ l.ps.length ∧ ∀ j,j < i → pceB (pc l.ps j) = true) (fun i=>l.ps.length - i) 0 ⟨by omega,fun j hj=>by omega⟩ (by rfl) (by rfl) (fun i hi=>?_)
 obtain ⟨hi,hall⟩:=hi
 (refine sy1 ?_;try exact tTI)
 (refine go0 ?_;try exact tTI)
 refine W_condD (by rfl) (fun h5=>?_) (fun h5=>?_)
 ·have hlt : i < l.ps.length:=by omega
  have hpc : l.ps.getD i dPc = pc l.ps i:=rfl
  have c76:=fn76 (pc l.ps i)
  generalize hp : pc l.ps i = p at *
  (refine gofc hpc c76 ?_;try exact tTI)
  refine W_cond (by rfl) (fun hq=>?_) (fun hq=>?_)
  ·rw [chkL_bad hm (fun q=>by rw [← hp,q.pc i hlt] at hq;cases hq)]
   (refine go0 ?_;try exact tTI)
   exact W_ret ⟨[_],⟨rfl,rfl⟩,rfl⟩
  ·(refine go0 ?_;try exact tTI)
   refine ⟨i + 1,⟨by omega,up_all hall (by rw [hp];simpa using hq)⟩,by omega,by rfl,?_⟩
   (refine syE ?_;try exact tTI)
 have hpc : ∀ j,j < l.ps.length → pceB (pc l.ps j) = true:=fun j hj=>hall j (by omega)
 (refine go0 ?_;try exact tTI)
 refine W_loopU (fun i : Nat=>[(47,iv i)]) (fun i=>[]) (fun i=>i ≤ l.es.length ∧ ∀ j,j < i → eyeB (gEy l.es j) = true) (fun i=>l.es.length - i) 0 ⟨by omega,fun j hj=>by omega⟩ (by rfl) (by rfl) (fun i hi=>?_)
 obtain ⟨hi,hall2⟩:=hi
 (refine sy1 ?_;try exact tTI)
 (refine go0 ?_;try exact tTI)
 refine W_condD (by rfl) (fun h6=>?_) (fun h6=>?_)
 ·have hlt : i < l.es.length:=by omega
  have hey : l.es.getD i dEy = gEy l.es i:=rfl
  have c77:=fn77 (gEy l.es i)
  generalize hp : gEy l.es i = p at *
  (refine gofc hey c77 ?_;try exact tTI)
  refine W_cond (by rfl) (fun hq=>?_) (fun hq=>?_)
  ·rw [chkL_bad hm (fun q=>by rw [← hp,q.ey i hlt] at hq;cases hq)]
   (refine go0 ?_;try exact tTI)
   exact W_ret ⟨[_],⟨rfl,rfl⟩,rfl⟩
  ·(refine go0 ?_;try exact tTI)
   refine ⟨i + 1,⟨by omega,up_all hall2 (by rw [hp];simpa using hq)⟩,by omega,by rfl,?_⟩
   (refine syE ?_;try exact tTI)
 have hey : ∀ j,j < l.es.length → eyeB (gEy l.es j) = true:=fun j hj=>hall2 j (by omega)
 have c35:=fn35 l.ps (by omega) hpc
 (refine go_cc c35 (fun x1 x2 x3=>fn75 x1 x2 x3) ?_;try exact tTI)
 refine W_cond (by rfl) (fun hq=>?_) (fun hq=>?_)
 ·rw [chkL_bad hm (fun q=>by rw [q.ms] at hq;cases hq)]
  (refine go0 ?_;try exact tTI)
  exact W_ret ⟨[_],⟨rfl,rfl⟩,rfl⟩
 ·rw [chkL_ok ⟨by omega,by omega,by omega,hb.1,hb.2,hpc,hey,by simpa using hq⟩]
  (refine go0 ?_;try exact tTI)
  exact W_ret ⟨[_],⟨rfl,rfl⟩,rfl⟩
structure Bx where
 x : Int
 y : Int
 z : Int
 l : Int
 w : Int
 h : Int
 m : Int
def dBx : Bx:=⟨0,0,0,0,0,0,0⟩
structure OBx (b : Bx) : Prop where
 x : 0 ≤ b.x ∧ b.x ≤ 255
 y : 0 ≤ b.y ∧ b.y ≤ 255
 z : 0 ≤ b.z ∧ b.z ≤ 255
 l : 0 ≤ b.l ∧ b.l ≤ 255
 w : 0 ≤ b.w ∧ b.w ≤ 255
 h : 0 ≤ b.h ∧ b.h ≤ 255
 m : 0 ≤ b.m ∧ b.m ≤ 65535
def pOf (b : Bx) : Pce:=⟨20 * b.x,10 * b.y - 1280,10 * b.z,1 + 20 * b.l,1 + 10 * b.w,1 + 10 * b.h,1 + b.m % 8000⟩
def crgS : ByteArray:=⟨#[99,97,114,103,111]⟩
def crg (l : List Bx) : Lod:=⟨crgS,(l.take 4).map pOf,[],300⟩
theorem pOf_ok {b : Bx} (h : OBx b) : pceB (pOf b) = true ∧ 1 ≤ (pOf b).m ∧ (pOf b).m ≤ 8000:=by
 obtain ⟨h1,h2,h3,h4,h5,h6,h7⟩:=h
 rw [pceB_iff]
 unfold pOf
 dsimp only
 omega
theorem crg_pc {l : List Bx} (h : ∀ b ∈ l,OBx b) {i : Nat} (hi : i < (crg l).ps.length) : pceB (pc (crg l).ps i) = true ∧ 1 ≤ (pc (crg l).ps i).m ∧ (pc (crg l).ps i).m ≤ 8000:=by
 have hi' : i < (l.take 4).length:=by simpa [crg] using hi
 have e : pc (crg l).ps i = pOf ((l.take 4)[i]):=by
  simp only [pc,crg,List.getD,List.getElem?_map,List.getElem?_eq_getElem hi',Option.map_some,Option.getD_some]
 rw [e]
 exact pOf_ok (h _ (List.mem_of_mem_take (List.getElem_mem hi')))
theorem crg_sum {l : List Bx} (h : ∀ b ∈ l,OBx b) : ∀ n,n ≤ (crg l).ps.length → (n : Int) ≤ smM ((crg l).ps.take n) ∧ smM ((crg l).ps.take n) ≤ n * 8000
 |0,_=>by simp [smM]
 |n + 1,hn=>by
  have:=crg_sum h n (by omega)
  rw [smM_succ (by omega)]
  have:=crg_pc h (i:=n) (by omega)
  omega
theorem crg_len (l : List Bx) : (crg l).ps.length = min 4 l.length:=by simp [crg]
theorem crg_name : naB crgS = true:=by decide
theorem crg_ok {l : List Bx} (h : ∀ b ∈ l,OBx b) (hl : l ≠ []) : OkL (crg l) ∧ 1 ≤ smM (crg l).ps ∧ smM (crg l).ps ≤ 32000:=by
 have h1 : 0 < l.length:=List.length_pos_iff.2 hl
 have hn:=crg_len l
 have hs:=crg_sum h (crg l).ps.length (Nat.le_refl _)
 rw [List.take_length] at hs
 have hs' : 1 ≤ smM (crg l).ps ∧ smM (crg l).ps ≤ 32000:=by omega
 refine ⟨⟨by omega,by omega,by simp [crg],crg_name,by show inR 300 0 1000 = true;decide,fun i hi=>(crg_pc h hi).1,fun i hi=>by simp [crg] at hi,inR_iff.2 (by omega)⟩,hs'⟩
def carS : ByteArray:=⟨#[99,97,114,114,105,101,114]⟩
def car (fr : Int) : Veh:=⟨carS,[⟨0,3000,0,1000,500,1200,2500,9000,0,0,[⟨0,8000,2⟩,⟨3000,12000,4⟩]⟩,⟨2,6000,0,500,1500,1250,1200,7000,0,0,[⟨5000,12000,8⟩,⟨6000,12000,8⟩,⟨7000,12000,8⟩]⟩],fr,1⟩
theorem car_ok1 : chkV (car 1) = 0:=by decide
theorem car_gr (fr : Int) : Gr (car fr):=⟨by simp [car],fun u hu=>by simp [car] at hu;rcases hu with rfl | rfl <;> simp⟩
noncomputable def masV (l : Lod) : Int:=if chkL l = 0 then smM l.ps else 0
theorem fn16 (l : Lod) (h1 : l.ps.length ≤ 140737488355328) (h2 : l.es.length ≤ 140737488355328) : Sy.Fn Tryz.prog 16 [.agg (cLd l)] (.tup [iv (masV l),iv (chkL l)]):=by
 refine Fn_of_W mixed Xt16 rfl ?_
 have c34:=fn34 l h1 h2
 (refine go_c c34 ?_;try exact tTI)
 refine W_cond (by rfl) (fun h=>?_) (fun h=>?_)
 ·have h0 : ¬ chkL l = 0:=by simpa using h
  rw [show masV l = 0 by unfold masV;rw [if_neg h0]]
  (refine go0 ?_;try exact tTI)
  exact W_ret ⟨[_,_],⟨rfl,rfl,rfl⟩,rfl⟩
 ·have h0 : chkL l = 0:=by simpa using h
  have ok:=chkL_zero h0
  have c35:=fn35 l.ps ok.n2 ok.pc
  rw [show masV l = smM l.ps by unfold masV;rw [if_pos h0],h0]
  (refine go_c c35 ?_;try exact tTI)
  exact W_ret ⟨[_,_],⟨rfl,rfl,rfl⟩,rfl⟩
def dQ : Pt:=⟨0,0⟩
abbrev aQ (l : List Pt) : AV:=.sl 2 dQ cPt l
def okQ (p : Pt) : Bool:=inR p.x (-16777216) 16777216 && inR p.y (-16777216) 16777216
theorem fn129 (x lo hi : Int) : Sy.Fn Tryz.prog 129 [iv x,iv lo,iv hi] (bv (inR x lo hi)):=by
 refine Fn_of_W mixed Xt129 rfl ?_
 (refine go0 ?_;try exact tTI)
 exact W_ret ⟨[_],⟨rfl,rfl⟩,rfl⟩
theorem all_no {l : List Pt} {i : Nat} (hi : i < l.length) (h : okQ (l.getD i dQ) = false) : l.all okQ = false:=by
 rw [← Bool.not_eq_true,List.all_eq_true]
 intro q
 rw [q _ (getD_mem dQ l i hi)] at h;cases h
theorem all_yes {l : List Pt} (h : ∀ i,i < l.length → okQ (l.getD i dQ) = true) : l.all okQ = true:=by
 rw [List.all_eq_true]
 intro x hx
 obtain ⟨i,hi,rfl⟩:=List.mem_iff_getElem.1 hx
 have:=h i hi
 simpa [List.getD,List.getElem?_eq_getElem hi] using this
theorem fn97 (l : List Pt) (hl : l.length ≤ 1000000) : Sy.Fn Tryz.prog 97 [aQ l] (bv (l.all okQ)):=by
 refine Fn_of_W mixed Xt97 rfl ?_
 (refine go0 ?_;try exact tTI)
 refine W_loopU (fun i : Nat=>[(7,iv i)]) (fun i=>[]) (fun i=>i ≤ l.length ∧ ∀ j,j < i → okQ (l.getD j dQ) = true) (fun i=>l.length - i) 0 ⟨by omega,fun j hj=>by omega⟩ (by rfl) (by rfl) (fun i hi=>?_)
 obtain ⟨hi,hall⟩:=hi
 (refine sy1 ?_;try exact tTI)
 (refine go0 ?_;try exact tTI)
 refine W_condD (by rfl) (fun h5=>?_) (fun h5=>?_)
 ·have hlt : i < l.length:=by omega
  generalize hp : l.getD i dQ = p at *
  (refine gofcg hp (fun x1 x2 x3=>fn129 x1 x2 x3) (fun x1 x2 x3=>fn129 x1 x2 x3) ?_;try exact tTI)
  have key : (!inR p.x (-16777216) 16777216 || !inR p.y (-16777216) 16777216) = !okQ p:=by unfold okQ;rw [Bool.not_and]
  rw [key]
  refine W_cond (by rfl) (fun hb=>?_) (fun hb=>?_)
  ·rw [all_no hlt (by rw [hp];simpa using hb)]
   (refine go0 ?_;try exact tTI)
   exact W_ret ⟨[_],⟨rfl,rfl⟩,rfl⟩
  ·(refine go0 ?_;try exact tTI)
   refine ⟨i + 1,⟨by omega,up_all hall (by rw [hp];simpa using hb)⟩,by omega,by rfl,?_⟩
   (refine syE ?_;try exact tTI)
 ·rw [all_yes (fun j hj=>hall j (by omega))]
  (refine go0 ?_;try exact tTI)
  exact W_ret ⟨[_],⟨rfl,rfl⟩,rfl⟩
theorem fn56 (p : Pt) : Sy.Fn Tryz.prog 56 [.agg (cPt p)] (iv (if okQ p = true then 0 else 2)):=by
 refine Fn_of_W mixed Xt56 rfl ?_
 have c97:=fn97 [p] (by simp)
 rw [show [p].all okQ = okQ p by simp] at c97
 (refine go0 ?_;try exact tTI)
 refine ⟨rfl,trivial,Pt,dQ,cPt,[p],rfl,by omega,fun x _=>⟨rfl,rfl⟩,rfl,?_⟩
 (refine sy1 ?_;try exact tTI)
 (refine go_g c97 ?_;try exact tTI)
 refine W_cond (by rfl) (fun h=>?_) (fun h=>?_)
 ·rw [if_neg (by simpa using h)]
  (refine go0 ?_;try exact tTI)
  exact W_ret ⟨[_],⟨rfl,rfl⟩,rfl⟩
 ·rw [if_pos (by simpa using h)]
  (refine go0 ?_;try exact tTI)
  exact W_ret ⟨[_],⟨rfl,rfl⟩,rfl⟩
theorem fn170 (p : Pt) : Sy.Fn Tryz.prog 170 [.agg (cPt p)] (.tup [.agg (cPt (if okQ p = true then p else ⟨0,0⟩)),iv (if okQ p = true then 0 else 4)]):=by
 refine Fn_of_W mixed Xt170 rfl ?_
 have c97:=fn97 [p] (by simp)
 rw [show [p].all okQ = okQ p by simp] at c97
 (refine go0 ?_;try exact tTI)
 refine ⟨rfl,trivial,Pt,dQ,cPt,[p],rfl,by omega,fun x _=>⟨rfl,rfl⟩,rfl,?_⟩
 (refine sy1 ?_;try exact tTI)
 (refine go_g c97 ?_;try exact tTI)
 refine W_cond (by rfl) (fun h=>?_) (fun h=>?_)
 ·have h' : ¬ okQ p = true:=by simpa using h
  rw [if_neg h',if_neg h']
  (refine go0 ?_;try exact tTI)
  exact W_ret ⟨[_,_],⟨⟨by simp,rfl⟩,rfl,rfl⟩,rfl⟩
 ·have h' : okQ p = true:=by simpa using h
  rw [if_pos h',if_pos h']
  (refine go0 ?_;try exact tTI)
  exact W_ret ⟨[_,_],⟨⟨by simp,rfl⟩,rfl,rfl⟩,rfl⟩
theorem fn187 (a b : Int) (ha : -9223372036854775808 ≤ a ∧ a ≤ 9223372036854775807) (hb : 0 < b) : Sy.Fn Tryz.prog 187 [iv a,iv b] (iv (a / b)):=by
 refine Fn_of_W mixed Xt187 rfl ?_
 have e1:=wrap_i64_tdiv a b ha.1 ha.2 (by omega)
 have e2:=floor_eq (a:=a) hb
 have hm : 0 ≤ a.tmod b ∨ (a.tmod b < 0 ∧ -9223372036854775807 ≤ a.tdiv b):=by
  by_cases h : 0 ≤ a.tmod b
  ·exact .inl h
  ·right
   refine ⟨by omega,?_⟩
   have e:=Int.tdiv_mul_add_tmod a b
   have l2 : -b < a.tmod b:=by
    have:=Int.tmod_lt_of_pos (-a) hb
    rw [Int.neg_tmod] at this
    omega
   by_cases q : -9223372036854775807 ≤ a.tdiv b
   ·exact q
   ·have:=Int.mul_le_mul_of_nonneg_right (show a.tdiv b ≤ -9223372036854775808 by omega) (Int.le_of_lt hb)
    omega
 have hu : a.tdiv b ≤ 9223372036854775807:=by
  by_cases q : a.tdiv b ≤ 9223372036854775807
  ·exact q
  ·have e:=Int.tdiv_mul_add_tmod a b
   have l2 : -b < a.tmod b:=by
    have:=Int.tmod_lt_of_pos (-a) hb
    rw [Int.neg_tmod] at this
    omega
   have:=Int.mul_le_mul_of_nonneg_right (show 9223372036854775808 ≤ a.tdiv b by omega) (Int.le_of_lt hb)
   omega
 (refine gof e1 ?_;try exact tTI)
 refine W_condD (by rfl) (fun h=>?_) (fun h=>?_)
 ·rw [if_pos h] at e2
  (refine go0 ?_;try exact tTI)
  exact W_ret ⟨[_],⟨rfl,rfl⟩,by rw [e2];rfl⟩
 ·rw [if_neg h] at e2
  (refine go0 ?_;try exact tTI)
  exact W_ret ⟨[_],⟨rfl,rfl⟩,by rw [e2];rfl⟩
def nr (n d : Int) : Int:=if d - (n - n / d * d) ≤ n - n / d * d then n / d + 1 else n / d
theorem fn171 (n d : Int) (hn : -1152921504606846976 ≤ n ∧ n ≤ 1152921504606846976) (hd : 0 < d ∧ d ≤ 4611686018427387905) : Sy.Fn Tryz.prog 171 [iv n,iv d] (iv (nr n d)):=by
 refine Fn_of_W mixed Xt171 rfl ?_
 have c187:=fn187 n d (by omega) hd.1
 have e1:=Int.ediv_mul_add_emod n d
 have e2:=Int.emod_nonneg n (show d ≠ 0 by omega)
 have e3:=Int.emod_lt_of_pos n hd.1
 have hq : -1152921504606846976 ≤ n / d ∧ n / d ≤ 1152921504606846976:=by
  constructor
  ·rw [Int.le_ediv_iff_mul_le hd.1]
   have:=Int.mul_le_mul_of_nonneg_left (show 1 ≤ d by omega) (show (0 : Int) ≤ 1152921504606846976 by omega)
   omega
  ·have h1 : n / d < 1152921504606846976 + 1:=by
    rw [Int.ediv_lt_iff_lt_mul hd.1]
    have:=Int.mul_le_mul_of_nonneg_left (show 1 ≤ d by omega) (show (0 : Int) ≤ 1152921504606846976 + 1 by omega)
    omega
   omega
 unfold nr
 generalize n / d = q at *
 generalize n % d = r at *
 have hqd : q * d = n - r:=by omega
 (refine go_c c187 ?_;try exact tTI)
 refine W_condD (by rfl) (fun h=>?_) (fun h=>?_)
 ·rw [if_pos h]
  (refine go0 ?_;try exact tTI)
  exact W_ret ⟨[_],⟨rfl,rfl⟩,rfl⟩
 ·rw [if_neg h]
  (refine go0 ?_;try exact tTI)
  exact W_ret ⟨[_],⟨rfl,rfl⟩,rfl⟩
def rB (k : Nat) : Int:=2 ^ (62 - 2 * k)
def rS (n : Int) : Nat → Int × Int
 |0=>(n,0)
 |k + 1=>if (rS n k).2 + rB k ≤ (rS n k).1 then ((rS n k).1 - ((rS n k).2 + rB k),(rS n k).2 / 2 + rB k) else ((rS n k).1,(rS n k).2 / 2)
def rt (n : Int) : Int:=(rS n 32).2
theorem rB_rng (k : Nat) : 1 ≤ rB k ∧ rB k ≤ 4611686018427387904:=by
 unfold rB
 have h1 : (2 : Int) ^ (62 - 2 * k) = ((2 ^ (62 - 2 * k) : Nat) : Int):=by simp
 rw [h1]
 have h2:=Nat.pow_le_pow_right (show 0 < 2 by omega) (show 62 - 2 * k ≤ 62 by omega)
 have h3:=Nat.pow_pos (n:=62 - 2 * k) (show 0 < 2 by omega)
 have h4 : (2 : Nat) ^ 62 = 4611686018427387904:=by decide
 omega
theorem rS_rng {n : Int} (hn : 0 ≤ n) : ∀ k,(0 ≤ (rS n k).1 ∧ (rS n k).1 ≤ n) ∧ 0 ≤ (rS n k).2 ∧ (rS n k).2 ≤ 9223372036854775808
 |0=>by simp only [rS];omega
 |k + 1=>by
  obtain ⟨h1,h2⟩:=rS_rng hn k
  have hb:=rB_rng k
  simp only [rS]
  split
  ·dsimp only;omega
  ·dsimp only;omega
theorem rS_succ (n : Int) (k : Nat) : rS n (k + 1) = if (rS n k).2 + rB k ≤ (rS n k).1 then ((rS n k).1 - ((rS n k).2 + rB k),(rS n k).2 / 2 + rB k) else ((rS n k).1,(rS n k).2 / 2):=rfl
theorem rt_rng {n : Int} (hn : 0 ≤ n) : 0 ≤ rt n ∧ rt n ≤ 4611686018427387905:=by
 have h:=(rS_rng hn 31).2
 have hb : rB 31 = 1:=by decide
 have e : rS n 32 = _:=rS_succ n 31
 unfold rt
 rw [e,hb]
 generalize rS n 31 = q at *
 split
 ·dsimp only;omega
 ·dsimp only;omega
theorem shl_rB {k : Nat} (hk : k < 32) : IntKind.u64.wrap (1 * 2 ^ (min (62 - 2 * (k : Int)).toNat IntKind.u64.bits)) = rB k:=by
 have h1 : min (62 - 2 * (k : Int)).toNat IntKind.u64.bits = 62 - 2 * k:=by
  rw [show IntKind.u64.bits = 64 from rfl];omega
 have h2:=rB_rng k
 rw [h1,Int.one_mul]
 unfold rB at h2 ⊢
 rw [IntKind.wrap_u64]
 exact Int.emod_eq_of_lt (by omega) (by omega)
theorem fn163 (n : Int) (hn : 0 ≤ n ∧ n ≤ 9223372036854775807) : Sy.Fn Tryz.prog 163 [iv n] (iv (rt n)):=by
 refine Fn_of_W mixed Xt163 rfl ?_
 have hwn : IntKind.u64.wrap n = n:=by rw [IntKind.wrap_u64];omega
 (refine gof hwn ?_;try exact tTI)
 refine W_loopU (fun k : Nat=>[(3,.v (.int .u64 (rS n k).1)),(4,.v (.int .u64 (rS n k).2)),(9,iv k)]) (fun k=>[]) (fun k=>k ≤ 32) (fun k=>32 - k) 0 (by omega) (by rfl) (by rfl) (fun k hk=>?_)
 (refine sy1 ?_;try exact tTI)
 (refine go0 ?_;try exact tTI)
 refine W_condD (by rfl) (fun h5=>?_) (fun h5=>?_)
 ·have hlt : k < 32:=by omega
  have hb:=rB_rng k
  have hs:=shl_rB hlt
  obtain ⟨h1,h2⟩:=rS_rng hn.1 k
  have e1 : rS n (k + 1) = if (rS n k).2 + rB k ≤ (rS n k).1 then ((rS n k).1 - ((rS n k).2 + rB k),(rS n k).2 / 2 + rB k) else ((rS n k).1,(rS n k).2 / 2):=rfl
  generalize (rS n k).1 = l at *
  generalize (rS n k).2 = r at *
  have w1 : IntKind.u64.wrap (r + rB k) = r + rB k:=by rw [IntKind.wrap_u64];omega
  have w3 : r.fdiv (2 ^ (min 1 IntKind.u64.bits)) = r / 2:=by
   rw [show (2 : Int) ^ (min 1 IntKind.u64.bits) = 2 from rfl]
   exact Int.fdiv_eq_ediv_of_nonneg _ (by omega)
  have w4 : IntKind.u64.wrap (r / 2 + rB k) = r / 2 + rB k:=by rw [IntKind.wrap_u64];omega
  (refine gof (ad2 hs w1) ?_;try exact tTI)
  refine W_condD (by rfl) (fun h6=>?_) (fun h6=>?_)
  ·have w2 : IntKind.u64.wrap (l - (r + rB k)) = l - (r + rB k):=by rw [IntKind.wrap_u64];omega
   rw [if_pos h6] at e1
   (refine gof (ad4 w1 w2 w3 w4) ?_;try exact tTI)
   refine ⟨k + 1,by omega,by omega,by rfl,?_⟩
   rw [e1]
   (refine syE ?_;try exact tTI)
  ·rw [if_neg h6] at e1
   (refine gof w3 ?_;try exact tTI)
   refine ⟨k + 1,by omega,by omega,by rfl,?_⟩
   rw [e1]
   (refine syE ?_;try exact tTI)
 ·obtain rfl : k = 32:=by omega
  have hr:=rt_rng hn.1
  have e : (rS n 32).2 = rt n:=rfl
  rw [e]
  generalize (rS n 32).1 = l
  generalize rt n = r at *
  (refine go0 ?_;try exact tTI)
  exact W_ret ⟨[_],⟨rfl,rfl⟩,rfl⟩
theorem abs_mul {a b A B : Int} (ha : -A ≤ a ∧ a ≤ A) (hb : -B ≤ b ∧ b ≤ B) : -(A * B) ≤ a * b ∧ a * b ≤ A * B:=by
 have hA : 0 ≤ A:=by omega
 have hB : 0 ≤ B:=by omega
 have h1 : (a * b).natAbs ≤ (A * B).natAbs:=by
  rw [Int.natAbs_mul,Int.natAbs_mul]
  exact Nat.mul_le_mul (by omega) (by omega)
 have h2 : 0 ≤ A * B:=Int.mul_nonneg hA hB
 omega
theorem nr_rng {n d : Int} (hd : 0 < d) (hn : -72057594037927936 ≤ n ∧ n ≤ 72057594037927936) : -72057594037927937 ≤ nr n d ∧ nr n d ≤ 72057594037927937:=by
 have hq : -72057594037927936 ≤ n / d ∧ n / d ≤ 72057594037927936:=by
  constructor
  ·rw [Int.le_ediv_iff_mul_le hd]
   have:=Int.mul_le_mul_of_nonneg_left (show 1 ≤ d by omega) (show (0 : Int) ≤ 72057594037927936 by omega)
   omega
  ·have h1 : n / d < 72057594037927936 + 1:=by
    rw [Int.ediv_lt_iff_lt_mul hd]
    have:=Int.mul_le_mul_of_nonneg_left (show 1 ≤ d by omega) (show (0 : Int) ≤ 72057594037927936 + 1 by omega)
    omega
   omega
 unfold nr
 split <;> omega
def plR (a h : Pt) : Int:=rt (1024 * ((h.x - a.x) * (h.x - a.x) + (h.y - a.y) * (h.y - a.y)))
def plP (a h : Pt) (x y : Int) : Pt:=⟨a.x + nr (32 * ((h.x - a.x) * x - (h.y - a.y) * y)) (plR a h),a.y + nr (32 * ((h.y - a.y) * x + (h.x - a.x) * y)) (plR a h)⟩
structure PlOK (a h : Pt) (x y : Int) : Prop where
 ka : okQ a = true
 kh : okQ h = true
 kx : inR x (-16777216) 16777216 = true
 ky : inR y (-16777216) 16777216 = true
 kz : ¬ (h.x - a.x = 0 ∧ h.y - a.y = 0)
 kr : 0 < plR a h
 kp : okQ (plP a h x y) = true
theorem okQ_iff {p : Pt} : okQ p = true ↔ (-16777216 ≤ p.x ∧ p.x ≤ 16777216) ∧ -16777216 ≤ p.y ∧ p.y ≤ 16777216:=by
 unfold okQ
 rw [Bool.and_eq_true,inR_iff,inR_iff]
theorem fn145 (a h : Pt) (x y : Int) (ok : PlOK a h x y) : Sy.Fn Tryz.prog 145 [.agg (cPt a),.agg (cPt h),iv x,iv y] (.tup [.agg (cPt (plP a h x y)),iv 0]):=by
 refine Fn_of_W mixed Xt145 rfl ?_
 have a1:=okQ_iff.1 ok.ka
 have a2:=okQ_iff.1 ok.kh
 have a3:=inR_iff.1 ok.kx
 have a4:=inR_iff.1 ok.ky
 have hz:=ok.kz
 have hr:=ok.kr
 have hp:=ok.kp
 have c170:=fn170 (plP a h x y)
 rw [if_pos hp,if_pos hp] at c170
 unfold plP at *
 unfold plR at *
 obtain ⟨u,hu⟩ : ∃ u,u = h.x - a.x:=⟨_,rfl⟩
 obtain ⟨v,hv⟩ : ∃ v,v = h.y - a.y:=⟨_,rfl⟩
 rw [← hu,← hv] at hz hr hp c170 ⊢
 have bu : -33554432 ≤ u ∧ u ≤ 33554432:=by omega
 have bv' : -33554432 ≤ v ∧ v ≤ 33554432:=by omega
 have m1:=abs_mul bu bu
 have m2:=abs_mul bv' bv'
 have m3:=abs_mul bu (show -16777216 ≤ x ∧ x ≤ 16777216 by omega)
 have m4:=abs_mul bv' (show -16777216 ≤ y ∧ y ≤ 16777216 by omega)
 have m5:=abs_mul bv' (show -16777216 ≤ x ∧ x ≤ 16777216 by omega)
 have m6:=abs_mul bu (show -16777216 ≤ y ∧ y ≤ 16777216 by omega)
 have s1 : 0 ≤ u * u:=by rcases Int.le_total 0 u with q | q;exact Int.mul_nonneg q q;exact Int.mul_nonneg_of_nonpos_of_nonpos q q
 have s2 : 0 ≤ v * v:=by rcases Int.le_total 0 v with q | q;exact Int.mul_nonneg q q;exact Int.mul_nonneg_of_nonpos_of_nonpos q q
 have c163:=fn163 (1024 * (u * u + v * v)) (by omega)
 have hr2:=(rt_rng (n:=1024 * (u * u + v * v)) (by omega)).2
 generalize rt (1024 * (u * u + v * v)) = r at *
 have c1:=fn171 (32 * (u * x - v * y)) r (by omega) ⟨hr,by omega⟩
 have c2:=fn171 (32 * (v * x + u * y)) r (by omega) ⟨hr,by omega⟩
 have n1:=nr_rng (n:=32 * (u * x - v * y)) hr (by omega)
 have n2:=nr_rng (n:=32 * (v * x + u * y)) hr (by omega)
 have w1 : IntKind.i64.wrap (h.x - a.x) = u:=by rw [wrap64 ⟨by omega,by omega⟩,hu]
 have w2 : IntKind.i64.wrap (h.y - a.y) = v:=by rw [wrap64 ⟨by omega,by omega⟩,hv]
 repeat' (first | refine w1g ?_ | refine w1l ?_ | refine w1q ?_ | refine w1b ?_ | refine w1p ?_ | ((first | refine w1r ?_ | refine w1k ?_ | refine w1e ?_);simp (maxSteps:=400000) (disch:=omega) only [push_cast,↓reduceIte,reduceCtorEq,Nat.reduceAdd,Nat.reduceSub,Nat.reduceEqDiff,Nat.reduceLeDiff,Nat.reduceLT,Nat.reduceBEq,Nat.reduceDiv,Nat.reduceMod,Nat.reducePow,Nat.reduceMul,Int.reduceToNat,Int.reduceLT,Int.reduceLE,← hu,← hv]) | refine an2 ?_ | fail)
 refine W_cond (by rfl) (fun hb=>absurd (by simpa using hb) hz) (fun _=>?_)
 repeat' (first | refine w1g ?_ | refine w1l ?_ | refine w1q ?_ | refine w1b ?_ | refine w1p ?_ | ((first | refine w1r ?_ | refine w1k ?_ | refine w1e ?_ | refine CallC.now (c163) ?_ | refine CallC.now (c1) ?_ | refine CallC.now (c2) ?_ | refine CallC.now (c170) ?_);simp (maxSteps:=400000) (disch:=omega) only [push_cast,↓reduceIte,reduceCtorEq,Nat.reduceAdd,Nat.reduceSub,Nat.reduceEqDiff,Nat.reduceLeDiff,Nat.reduceLT,Nat.reduceBEq,Nat.reduceDiv,Nat.reduceMod,Nat.reducePow,Nat.reduceMul,Int.reduceToNat,Int.reduceLT,Int.reduceLE,← hu,← hv]) | refine an2 ?_ | fail)
 exact W_ret ⟨[_,_],⟨⟨by simp,rfl⟩,rfl,rfl⟩,rfl⟩
theorem fn146 (a h : Pt) (x y : Int) (ok : PlOK a h x y) : Sy.Fn Tryz.prog 146 [.agg (cPt a),.agg (cPt h),iv x,iv y] (.tup [.agg (cPt (plP a h x y)),iv 0]):=by
 refine Fn_of_W mixed Xt146 rfl ?_
 have c97:=fn97 [a,h] (by simp)
 rw [show [a,h].all okQ = true by simp [ok.ka,ok.kh]] at c97
 have c145:=fn145 a h x y ok
 (refine go0 ?_;try exact tTI)
 refine ⟨rfl,trivial,Pt,dQ,cPt,[a,h],rfl,by omega,fun x _=>⟨rfl,rfl⟩,rfl,?_⟩
 (refine sy1 ?_;try exact tTI)
 (refine go_g c97 ?_;try exact tTI)
 refine W_cond (by rfl) (fun hb=>by cases hb) (fun _=>?_)
 (refine go_cg (fun x1 x2 x3=>fn129 x1 x2 x3) (fun x1 x2 x3=>fn129 x1 x2 x3) ?_;try exact tTI)
 rw [ok.kx,ok.ky]
 refine W_cond (by rfl) (fun hb=>by cases hb) (fun _=>?_)
 (refine go_c c145 ?_;try exact tTI)
 exact W_ret ⟨[_,_],⟨⟨by simp,rfl⟩,rfl,rfl⟩,rfl⟩
theorem fn109 (h a : Pt) (n : Int) (hn : inR n 1 16777216 = true) (ok : PlOK h a n 0) : Sy.Fn Tryz.prog 109 [.agg (cPt h),.agg (cPt a),iv n] (.tup [.agg (cPt (plP h a n 0)),iv 0]):=by
 refine Fn_of_W mixed Xt109 rfl ?_
 have c97:=fn97 [a,h] (by simp)
 rw [show [a,h].all okQ = true by simp [ok.ka,ok.kh]] at c97
 have c145:=fn145 h a n 0 ok
 (refine go0 ?_;try exact tTI)
 refine ⟨rfl,trivial,Pt,dQ,cPt,[a,h],rfl,by omega,fun x _=>⟨rfl,rfl⟩,rfl,?_⟩
 (refine sy1 ?_;try exact tTI)
 (refine go_g c97 ?_;try exact tTI)
 refine W_cond (by rfl) (fun hb=>by cases hb) (fun _=>?_)
 (refine go_c (fun x1 x2 x3=>fn129 x1 x2 x3) ?_;try exact tTI)
 rw [hn]
 refine W_cond (by rfl) (fun hb=>by cases hb) (fun _=>?_)
 (refine go_c c145 ?_;try exact tTI)
 exact W_ret ⟨[_,_],⟨⟨by simp,rfl⟩,rfl,rfl⟩,rfl⟩
structure UnOK (u : Unt) : Prop where
 l : 0 ≤ u.length ∧ u.length ≤ 131072
 s : u.steer = 0
 b : -131072 ≤ u.behind ∧ u.behind ≤ 131072
theorem fn110 (u : Unt) (h : UnOK u) : Sy.Fn Tryz.prog 110 [.agg (cU u)] (iv u.length):=by
 refine Fn_of_W mixed Xt110 rfl ?_
 have h1:=h.l
 have h2:=h.s
 have e1:=wrap_i64_tdiv (u.length * (1000 - 0)) 1000 (by omega) (by omega) (by omega)
 have e2 : (u.length * (1000 - 0)).tdiv 1000 = u.length:=by rw [Int.tdiv_eq_ediv_of_nonneg (by omega)];omega
 (refine gof (ad3 h2 e1 e2) ?_;try exact tTI)
 exact W_ret ⟨[_],⟨rfl,rfl⟩,rfl⟩
theorem fn112 (u : Unt) (h : UnOK u) : Sy.Fn Tryz.prog 112 [.agg (cU u)] (iv (0 - u.behind)):=by
 refine Fn_of_W mixed Xt112 rfl ?_
 have h1:=h.l
 have h3:=h.b
 have c110:=fn110 u h
 repeat' (first | refine w1g ?_ | refine w1l ?_ | refine w1q ?_ | refine w1b ?_ | refine w1p ?_ | ((first | refine w1r ?_ | refine w1k ?_ | refine w1e ?_ | refine CallC.now (c110) ?_);simp (maxSteps:=400000) (disch:=omega) only [push_cast,↓reduceIte,reduceCtorEq,Nat.reduceAdd,Nat.reduceSub,Nat.reduceEqDiff,Nat.reduceLeDiff,Nat.reduceLT,Nat.reduceBEq,Nat.reduceDiv,Nat.reduceMod,Nat.reducePow,Nat.reduceMul,Int.reduceToNat,Int.reduceLT,Int.reduceLE,Int.sub_self]) | refine an2 ?_ | fail)
 exact W_ret ⟨[_],⟨rfl,rfl⟩,rfl⟩
abbrev cPl (u : Unt) (j a : Pt) : List AV:=[iv u.kind,iv u.length,iv u.behind,iv u.front,iv u.rear,iv u.width,iv u.height,iv u.mass,iv u.steer,iv u.most,aA u.axles,iv j.x,iv j.y,iv a.x,iv a.y]
theorem fn111 (u : Unt) (j a : Pt) (x y : Int) (ok : PlOK a j x y) : Sy.Fn Tryz.prog 111 [.agg (cPl u j a),iv x,iv y] (.tup [.agg (cPt (plP a j x y)),iv 0]):=by
 refine Fn_of_W mixed Xt111 rfl ?_
 have c146:=fn146 a j x y ok
 (refine go_c c146 ?_;try exact tTI)
 exact W_ret ⟨[_,_],⟨⟨by simp,rfl⟩,rfl,rfl⟩,rfl⟩
structure Pld where
 u : Unt
 j : Pt
 a : Pt
def dPd : Pld:=⟨dU,dQ,dQ⟩
abbrev cPd (p : Pld) : List AV:=cPl p.u p.j p.a
abbrev aPd (l : List Pld) : AV:=.sl 15 dPd cPd l
structure Two (v : Veh) (u0 u1 : Unt) (p0 p1 p2 : Pt) : Prop where
 vu : v.units = [u0,u1]
 ch : chkV v = 0
 k0 : UnOK u0
 k1 : UnOK u1
 b0 : u0.behind = 0
 b1 : u1.behind = 0
 q0 : okQ p0 = true
 q1 : okQ p1 = true
 q2 : okQ p2 = true
 n1 : (p1.x == p0.x && p1.y == p0.y) = false
 n2 : (p2.x == p1.x && p2.y == p1.y) = false
 l1 : PlOK p1 p0 0 0
 l2 : PlOK p2 p1 0 0
 e1 : plP p1 p0 0 0 = p1
 e2 : plP p2 p1 0 0 = p2
abbrev cRg (v : Veh) (p0 : Pt) (ps : List Pt) : List AV:=[stv v.name,aU v.units,iv v.fr,iv v.to,iv p0.x,iv p0.y,aQ ps]
theorem fn173 (v : Veh) (p0 : Pt) (ps : List Pt) : Sy.Fn Tryz.prog 173 [.agg (cRg v p0 ps)] (.clo 189 [] [.fp (cRg v p0 ps) 0]):=by
 refine Fn_of_W mixed Xt173 rfl ?_
 (refine go0 ?_;try exact tTI)
 exact W_ret ⟨[_],⟨rfl,rfl⟩,rfl⟩
def jt (p0 p1 p2 : Pt) : Nat → Pt
 |0=>p0
 |1=>p1
 |_=>p2
def pls (u0 u1 : Unt) (p0 p1 p2 : Pt) : List Pld:=[⟨u0,p0,p1⟩,⟨u1,p1,p2⟩]
theorem fn188 (v : Veh) (u0 u1 : Unt) (p0 p1 p2 : Pt) (ps : List Pt) (hps : ps = [p1,p2]) (T : Two v u0 u1 p0 p1 p2) : Sy.Fn Tryz.prog 188 [.v (.slice none 0 0),.clo 189 [] [.fp (cRg v p0 ps) 0]] (aPd (pls u0 u1 p0 p1 p2)):=by
 refine Fn_of_W mixed Xt188 rfl ?_
 obtain ⟨vu,ch,k0,k1,b0,b1,q0,q1,q2,n1,n2,l1,l2,e1,e2⟩:=T
 have hl : v.units.length = 2:=by rw [vu];rfl
 have g0 : v.units.getD 0 dU = u0:=by rw [vu];rfl
 have g1 : v.units.getD 1 dU = u1:=by rw [vu];rfl
 have s0 : ps.getD 0 dQ = p1:=by rw [hps];rfl
 have s1 : ps.getD 1 dQ = p2:=by rw [hps];rfl
 have sl : ps.length = 2:=by rw [hps];rfl
 have a1:=fn56 p1
 rw [if_pos q1] at a1
 have a2:=fn56 p2
 rw [if_pos q2] at a2
 have d0:=fn112 u0 k0
 have d1:=fn112 u1 k1
 rw [b0] at d0
 rw [b1] at d1
 have f0:=fn111 u0 p0 p1 0 0 l1
 have f1:=fn111 u1 p1 p2 0 0 l2
 rw [e1] at f0
 rw [e2] at f1
 have ce0 : cU u0 = [iv u0.kind,iv u0.length,iv u0.behind,iv u0.front,iv u0.rear,iv u0.width,iv u0.height,iv u0.mass,iv u0.steer,iv u0.most,aA u0.axles]:=rfl
 have ce1 : cU u1 = [iv u1.kind,iv u1.length,iv u1.behind,iv u1.front,iv u1.rear,iv u1.width,iv u1.height,iv u1.mass,iv u1.steer,iv u1.most,aA u1.axles]:=rfl
 have z0 : ((0 : Int) != 0) = false:=rfl
 (refine go0 ?_;try exact tTI)
 refine W_rfn (.inl rfl) (fun lp R hR=>Inl_of_W mixed Xt189 rfl (fun vs=>?_))
 (refine syf hl ?_;try exact tTI)
 (refine gof hl ?_;try exact tTI)
 refine W_le (le_adoptC 0 0 240 15 dPd cPd (by omega) _ rfl rfl (by simp)) ?_
 (refine sy1 ?_;try exact tTI)
 refine W_loopU (fun i : Nat=>[(16,iv i)]) (fun i=>[(0,.cells [.row 15 i]),(15,.row i 240 15 dPd cPd ((pls u0 u1 p0 p1 p2).take i)),(8,.cells (cPt (jt p0 p1 p2 i)))]) (fun i=>i ≤ 2) (fun i=>2 - i) 0 (by omega) (by rfl) (by rfl) (fun i hi=>?_)
 (refine syf hl ?_;try exact tTI)
 (refine gof hl ?_;try exact tTI)
 refine W_condD (by rfl) (fun h5=>?_) (fun h5=>?_)
 ·obtain rfl | rfl : i = 0 ∨ i = 1:=by omega
  ·rw [show jt p0 p1 p2 0 = p0 from rfl]
   (refine gofc (ad7 hl g0 s0 sl ce0 z0 n1) a1 ?_;try exact tTI)
   refine StopC.yld (fun hpc=>⟨trivial,Yl_of_W (k:=3) mixed hR rfl rfl rfl (fun vs2=>?_)⟩) (fun hpc=>absurd (by simp [Sy.pc]) hpc)
   (refine sy1 ?_;try exact tTI)
   (refine go0 ?_;try exact tTI)
   refine ⟨_,rfl,?_⟩
   (refine sy1 ?_;try exact tTI)
   (refine go0 ?_;try exact tTI)
   refine ⟨rfl,trivial,Pld,dPd,cPd,[(⟨u0,p0,p1⟩ : Pld)],rfl,by omega,fun x _=>⟨rfl,rfl⟩,rfl,?_⟩
   (refine sy1 ?_;try exact tTI)
   refine ⟨rfl,⟨Nat.le_of_ble_eq_true rfl,rfl⟩,trivial,[(⟨u0,p0,p1⟩ : Pld)],rfl,by first | omega | (simp;done) | (simp;omega),by first | omega | (simp;done) | (simp;omega),?_⟩
   (refine sy1 ?_;try exact tTI)
   refine ⟨_,_,rfl,rfl,?_⟩
   (refine syf (ad2 z0 n1) ?_;try exact tTI)
   refine W_cond (by rfl) (fun h=>by cases h) (fun _=>?_)
   repeat' (first | refine w1g ?_ | refine w1l ?_ | refine w1q ?_ | refine w1b ?_ | refine w1p ?_ | ((first | refine w1r ?_ | refine w1k ?_ | refine w1e ?_ | refine CallC.now (d0) ?_ | refine CallC.now (f0) ?_);simp (maxSteps:=400000) (disch:=omega) only [push_cast,↓reduceIte,reduceCtorEq,Nat.reduceAdd,Nat.reduceSub,Nat.reduceEqDiff,Nat.reduceLeDiff,Nat.reduceLT,Nat.reduceBEq,Nat.reduceDiv,Nat.reduceMod,Nat.reducePow,Nat.reduceMul,Int.reduceToNat,Int.reduceLT,Int.reduceLE,ce0,Int.sub_self]) | refine an2 ?_ | fail)
   refine W_cond (by rfl) (fun h=>by cases h) (fun _=>?_)
   (refine go0 ?_;try exact tTI)
   refine ⟨1,by omega,by omega,by rfl,?_⟩
   (refine syE ?_;try exact tTI)
   exact ⟨rfl,rfl,rfl⟩
  ·rw [show jt p0 p1 p2 1 = p1 from rfl,show ((1 : Nat) : Int) = 1 from rfl]
   (refine gofc (ad7 hl g1 s1 sl ce1 z0 n2) a2 ?_;try exact tTI)
   refine StopC.yld (fun hpc=>⟨trivial,Yl_of_W (k:=3) mixed hR rfl rfl rfl (fun vs2=>?_)⟩) (fun hpc=>absurd (by simp [Sy.pc]) hpc)
   (refine sy1 ?_;try exact tTI)
   (refine go0 ?_;try exact tTI)
   refine ⟨_,rfl,?_⟩
   (refine sy1 ?_;try exact tTI)
   (refine go0 ?_;try exact tTI)
   refine ⟨rfl,trivial,Pld,dPd,cPd,[(⟨u1,p1,p2⟩ : Pld)],rfl,by omega,fun x _=>⟨rfl,rfl⟩,rfl,?_⟩
   (refine sy1 ?_;try exact tTI)
   refine ⟨rfl,⟨Nat.le_of_ble_eq_true rfl,rfl⟩,trivial,[(⟨u1,p1,p2⟩ : Pld)],rfl,by first | omega | (simp;done) | (simp;omega),by first | omega | (simp;done) | (simp;omega),?_⟩
   (refine sy1 ?_;try exact tTI)
   refine ⟨_,_,rfl,rfl,?_⟩
   (refine syf (ad2 z0 n2) ?_;try exact tTI)
   refine W_cond (by rfl) (fun h=>by cases h) (fun _=>?_)
   repeat' (first | refine w1g ?_ | refine w1l ?_ | refine w1q ?_ | refine w1b ?_ | refine w1p ?_ | ((first | refine w1r ?_ | refine w1k ?_ | refine w1e ?_ | refine CallC.now (d1) ?_ | refine CallC.now (f1) ?_);simp (maxSteps:=400000) (disch:=omega) only [push_cast,↓reduceIte,reduceCtorEq,Nat.reduceAdd,Nat.reduceSub,Nat.reduceEqDiff,Nat.reduceLeDiff,Nat.reduceLT,Nat.reduceBEq,Nat.reduceDiv,Nat.reduceMod,Nat.reducePow,Nat.reduceMul,Int.reduceToNat,Int.reduceLT,Int.reduceLE,ce1,Int.sub_self]) | refine an2 ?_ | fail)
   refine W_cond (by rfl) (fun h=>by cases h) (fun _=>?_)
   (refine go0 ?_;try exact tTI)
   refine ⟨2,by omega,by omega,by rfl,?_⟩
   (refine syE ?_;try exact tTI)
   exact ⟨rfl,rfl,rfl,rfl⟩
 ·obtain rfl : i = 2:=by omega
  (refine go0 ?_;try exact tTI)
  refine ⟨_,_,rfl,rfl,⟨_,_,rfl,by rw [hR.st];simp,?_⟩⟩
  rw [hR.pe]
  (refine syN ?_;try exact tTI)
  (refine go0 ?_;try exact tTI)
  refine W_ret ⟨[_],⟨rfl,rfl⟩,?_⟩
  (refine syP ?_;try exact tTI)
  rfl
theorem fn172 (v : Veh) (u0 u1 : Unt) (p0 p1 p2 : Pt) (ps : List Pt) (hps : ps = [p1,p2]) (T : Two v u0 u1 p0 p1 p2) : Sy.Fn Tryz.prog 172 [.clo 189 [] [.fp (cRg v p0 ps) 0]] (aPd (pls u0 u1 p0 p1 p2)):=by
 refine Fn_of_W mixed Xt172 rfl ?_
 (refine go_c (fn188 v u0 u1 p0 p1 p2 ps hps T) ?_;try exact tTI)
 exact W_ret ⟨[_],⟨rfl,rfl⟩,rfl⟩
abbrev cPo (p0 : Pt) (ps : List Pt) : List AV:=[iv p0.x,iv p0.y,aQ ps]
theorem fn147 (v : Veh) (u0 u1 : Unt) (p0 p1 p2 : Pt) (ps : List Pt) (hps : ps = [p1,p2]) (T : Two v u0 u1 p0 p1 p2) (hv : Gr v) : Sy.Fn Tryz.prog 147 [.agg (cV v),.agg (cPo p0 ps)] (.tup [aPd (pls u0 u1 p0 p1 p2),iv 0]):=by
 refine Fn_of_W mixed Xt147 rfl ?_
 have c38:=fn38 v hv
 rw [T.ch] at c38
 have c56:=fn56 p0
 rw [if_pos T.q0] at c56
 have c173:=fn173 v p0 ps
 have c172:=fn172 v u0 u1 p0 p1 p2 ps hps T
 have hl : v.units.length = 2:=by rw [T.vu];rfl
 have sl : ps.length = 2:=by rw [hps];rfl
 have dl : (pls u0 u1 p0 p1 p2).length = 2:=rfl
 (refine go_c c38 ?_;try exact tTI)
 refine W_cond (by rfl) (fun h=>by cases h) (fun _=>?_)
 (refine gofcg (ad2 hl sl) c56 c56 ?_;try exact tTI)
 refine W_cond (by rfl) (fun h=>absurd h (by decide)) (fun _=>?_)
 have cvx : cV v = [stv v.name,aU v.units,iv v.fr,iv v.to]:=rfl
 (refine gofcc (ad3 hl sl cvx) c173 c172 ?_;try exact tTI)
 refine W_cond (by rfl) (fun h=>by rw [dl] at h;exact absurd h (by decide)) (fun _=>?_)
 (refine go0 ?_;try exact tTI)
 exact W_ret ⟨[_,_],⟨rfl,rfl,rfl⟩,rfl⟩
theorem fn113 (v : Veh) (u0 u1 : Unt) (p0 p1 p2 : Pt) (ps : List Pt) (hps : ps = [p1,p2]) (T : Two v u0 u1 p0 p1 p2) (hv : Gr v) : Sy.Fn Tryz.prog 113 [.agg (cV v),.agg (cPo p0 ps)] (.tup [.agg (cPo p0 ps),iv 0]):=by
 refine Fn_of_W mixed Xt113 rfl ?_
 have c147:=fn147 v u0 u1 p0 p1 p2 ps hps T hv
 (refine go_c c147 ?_;try exact tTI)
 refine W_cond (by rfl) (fun h=>by cases h) (fun _=>?_)
 (refine go0 ?_;try exact tTI)
 exact W_ret ⟨[_,_],⟨⟨by simp,rfl⟩,rfl,rfl⟩,rfl⟩
structure Strt (v : Veh) (u0 u1 : Unt) (p0 p1 p2 pb : Pt) : Prop where
 T : Two v u0 u1 p0 p1 p2
 gr : Gr v
 qb : okQ pb = true
 len : inR u0.length 1 16777216 = true
 pl : PlOK p0 pb u0.length 0
 e1 : plP p0 pb u0.length 0 = p1
 pj : PlOK p1 p0 (0 - u1.length) 0
 e2 : plP p1 p0 (0 - u1.length) 0 = p2
def bef (u0 u1 : Unt) (p0 p1 p2 : Pt) : Nat → List AV
 |0=>cPl u0 p0 p1
 |_=>cPl u1 p1 p2
theorem fn72 (v : Veh) (u0 u1 : Unt) (p0 p1 p2 pb : Pt) (D : Strt v u0 u1 p0 p1 p2 pb) : Sy.Fn Tryz.prog 72 [.agg (cV v),.agg (cPt p0),.agg (cPt pb)] (.tup [.agg (cPo p0 [p1,p2]),iv 0]):=by
 refine Fn_of_W mixed Xt72 rfl ?_
 have T:=D.T
 have c38:=fn38 v D.gr
 rw [T.ch] at c38
 have c56:=fn56 p0
 rw [if_pos T.q0] at c56
 have c31b:=fn56 pb
 rw [if_pos D.qb] at c31b
 have l0:=fn110 u0 T.k0
 have l1:=fn110 u1 T.k1
 have b0:=fn112 u0 T.k0
 rw [T.b0] at b0
 have c109:=fn109 p0 pb u0.length D.len D.pl
 rw [D.e1] at c109
 have f0:=fn111 u0 p0 p1 0 0 T.l1
 rw [T.e1] at f0
 have f1:=fn111 u0 p0 p1 (0 - u1.length) 0 D.pj
 rw [D.e2] at f1
 have hl : v.units.length = 2:=by rw [T.vu];rfl
 have g0 : v.units.getD 0 dU = u0:=by rw [T.vu];rfl
 have gd : v.units.drop 1 = [u1]:=by rw [T.vu];rfl
 have ul:=T.k1.l
 have ce0 : cU u0 = [iv u0.kind,iv u0.length,iv u0.behind,iv u0.front,iv u0.rear,iv u0.width,iv u0.height,iv u0.mass,iv u0.steer,iv u0.most,aA u0.axles]:=rfl
 have ce1 : cU u1 = [iv u1.kind,iv u1.length,iv u1.behind,iv u1.front,iv u1.rear,iv u1.width,iv u1.height,iv u1.mass,iv u1.steer,iv u1.most,aA u1.axles]:=rfl
 have z0 : ((0 : Int) != 0) = false:=rfl
 (refine go_c c38 ?_;try exact tTI)
 refine W_cond (by rfl) (fun h=>by cases h) (fun _=>?_)
 (refine gofcg z0 c56 c31b ?_;try exact tTI)
 refine W_cond (by rfl) (fun h=>absurd h (by decide)) (fun _=>?_)
 (refine gofcc (ad2 hl g0) l0 c109 ?_;try exact tTI)
 refine W_cond (by rfl) (fun h=>by cases h) (fun _=>?_)
 refine W_le (le_adoptC 20 2 117 2 dQ cPt (by omega) _ rfl rfl (by simp)) ?_
 (refine go0 ?_;try exact tTI)
 refine ⟨rfl,trivial,Pt,dQ,cPt,[p1],rfl,by omega,fun x _=>⟨rfl,rfl⟩,rfl,?_⟩
 (refine sy1 ?_;try exact tTI)
 refine ⟨rfl,⟨Nat.le_of_ble_eq_true rfl,rfl⟩,trivial,[p1],rfl,by first | omega | (simp;done) | (simp;omega),by first | omega | (simp;done) | (simp;omega),?_⟩
 (refine sy1 ?_;try exact tTI)
 (refine gof (ad3 ce0 hl gd) ?_;try exact tTI)
 refine W_loopU (fun i : Nat=>[(68,iv i)]) (fun i=>[(20,.cells [iv p0.x,iv p0.y,.row 42 (1 + i)]),(42,.row (1 + i) 117 2 dQ cPt ([p1,p2].take (1 + i))),(54,.cells (bef u0 u1 p0 p1 p2 i))]) (fun i=>i ≤ 1) (fun i=>1 - i) 0 (by omega) (by rfl) (by rfl) (fun i hi=>?_)
 (refine sy1 ?_;try exact tTI)
 (refine go0 ?_;try exact tTI)
 refine W_condD (by rfl) (fun h5=>?_) (fun h5=>?_)
 ·obtain rfl : i = 0:=by omega
  rw [show bef u0 u1 p0 p1 p2 0 = cPl u0 p0 p1 from rfl,show [p1,p2].take (1 + 0) = [p1] from rfl,show [u1] = v.units.drop 1 from gd.symm]
  have gd1 : (v.units.drop 1).getD 0 dU = u1:=by rw [gd];rfl
  have gl1 : (v.units.drop 1).length = 1:=by rw [gd];rfl
  rw [Int.sub_self] at b0
  (refine gofcc (ad3 gd1 gl1 ce1) b0 f0 ?_;try exact tTI)
  refine W_cond (by rfl) (fun h=>by cases h) (fun _=>?_)
  (refine gofccc ce1 b0 l1 f1 ?_;try exact tTI)
  refine W_cond (by rfl) (fun h=>by cases h) (fun _=>?_)
  (refine go0 ?_;try exact tTI)
  refine ⟨rfl,trivial,Pt,dQ,cPt,[p2],rfl,by omega,fun x _=>⟨rfl,rfl⟩,rfl,?_⟩
  (refine sy1 ?_;try exact tTI)
  refine ⟨rfl,⟨Nat.le_of_ble_eq_true rfl,rfl⟩,trivial,[p2],rfl,by first | omega | (simp;done) | (simp;omega),by first | omega | (simp;done) | (simp;omega),?_⟩
  (refine sy1 ?_;try exact tTI)
  (refine gof ce1 ?_;try exact tTI)
  refine ⟨1,by omega,by omega,by rfl,?_⟩
  (refine syE ?_;try exact tTI)
  rfl
 ·obtain rfl : i = 1:=by omega
  have c113:=fn113 v u0 u1 p0 p1 p2 [p1,p2] rfl T D.gr
  rw [show bef u0 u1 p0 p1 p2 1 = cPl u1 p1 p2 from rfl,show [p1,p2].take (1 + 1) = [p1,p2] from rfl,show 1 + 1 = 2 from rfl]
  refine w1e ?_
  (refine sy1 ?_;try exact tTI)
  repeat (first | refine WK_go ?_ | refine W_seqL ?_ | refine W_seq ?_ | refine W_block ?_)
  refine W_regP [2] (by decide) ?_
  (refine sCP ?_;try exact tTI)
  refine ⟨_,le_frzA 113 [iv p0.x,iv p0.y] [] [6,112] [3] 64 42 2 117 2 dQ cPt [p1,p2] rfl rfl rfl rfl rfl rfl,?_⟩
  simp (maxSteps:=400000) (disch:=omega) only [push_cast,↓reduceIte,reduceCtorEq,Nat.reduceAdd,Nat.reduceSub,Nat.reduceEqDiff,Nat.reduceLeDiff,Nat.reduceLT,Nat.reduceBEq,Nat.reduceDiv,Nat.reduceMod,Nat.reducePow,Nat.reduceMul,Int.reduceToNat,Int.reduceLT,Int.reduceLE,chainP,List.take_succ_cons,List.take_zero,List.drop_succ_cons,List.drop_zero,List.cons_append,List.nil_append]
  refine CallC.now c113 ?_
  (refine sy1 ?_;try exact tTI)
  (refine go0 ?_;try exact tTI)
  exact W_ret ⟨[_,_],⟨⟨by simp,rfl⟩,rfl,rfl⟩,rfl⟩
set_option maxHeartbeats 8000000
abbrev cBx (b : Bx) : List AV:=[.v (.int .u8 b.x),.v (.int .u8 b.y),.v (.int .u8 b.z),.v (.int .u8 b.l),.v (.int .u8 b.w),.v (.int .u8 b.h),.v (.int .u16 b.m)]
abbrev aBx (l : List Bx) : AV:=.sl 7 dBx cBx l
theorem fn7 (l : List Bx) (hl : l.length ≤ 140737488355328) (h : ∀ b ∈ l,OBx b) : Sy.Fn Tryz.prog 7 [aBx l] (.agg (cLd (crg l))):=by
 refine Fn_of_W mixed Xt7 rfl ?_
 (refine go0 ?_;try exact tTI)
 refine W_le (le_adoptC 2 1 86 7 dPc cPc (by omega) _ rfl rfl (by simp)) ?_
 (refine sy1 ?_;try exact tTI)
 refine W_le (le_adoptC 2 2 205 4 dEy cEy (by omega) _ rfl rfl (by simp)) ?_
 (refine sy1 ?_;try exact tTI)
 refine W_loopU (fun i : Nat=>[(4,iv i)]) (fun i=>[(2,.cells [tx crgS,.row 5 i,.row 6 0,iv 300]),(5,.row i 86 7 dPc cPc ((l.take i).map pOf))]) (fun i=>i ≤ 4 ∧ i ≤ l.length) (fun i=>4 - i) 0 ⟨by omega,by omega⟩ (by rfl) (by rfl) (fun i hi=>?_)
 obtain ⟨h4,hi⟩:=hi
 (refine sy1 ?_;try exact tTI)
 (refine go0 ?_;try exact tTI)
 refine W_cond (by rfl) (fun h5=>?_) (fun h5=>?_)
 ·rw [Bool.and_eq_true,decide_eq_true_eq,decide_eq_true_eq] at h5
  have hlt : i < l.length:=by omega
  have hb:=h _ (getD_mem dBx l i hlt)
  have ht : l.take (i + 1) = l.take i ++ [l.getD i dBx]:=by
   rw [List.take_succ_eq_append_getElem hlt]
   simp [List.getD,hlt]
  generalize hq : l.getD i dBx = b at *
  obtain ⟨b1,b2,b3,b4,b5,b6,b7⟩:=hb
  have em : b.m.tmod 8000 = b.m % 8000:=Int.tmod_eq_emod_of_nonneg b7.1
  (refine gof (ad2 hq em) ?_;try exact tTI)
  refine ⟨rfl,trivial,Pce,dPc,cPc,[pOf b],rfl,by omega,fun x _=>⟨rfl,rfl⟩,rfl,?_⟩
  (refine sy1 ?_;try exact tTI)
  refine ⟨rfl,⟨Nat.le_of_ble_eq_true rfl,rfl⟩,trivial,[pOf b],rfl,by simp;omega,by simp;omega,?_⟩
  (refine sy1 ?_;try exact tTI)
  (refine go0 ?_;try exact tTI)
  refine ⟨i + 1,⟨by omega,by omega⟩,by omega,by rfl,?_⟩
  rw [ht,List.map_append]
  (refine syE ?_;try exact tTI)
 ·rw [Bool.and_eq_false_iff,decide_eq_false_iff_not,decide_eq_false_iff_not] at h5
  have e : l.take i = l.take 4:=by
   rcases (show i = 4 ∨ i = l.length by omega) with rfl | rfl
   ·rfl
   ·rw [List.take_length,List.take_of_length_le (by omega)]
  rw [e]
  (refine go0 ?_;try exact tTI)
  refine W_ret ⟨[_],⟨⟨by simp,rfl⟩,rfl⟩,?_⟩
  (refine syP ?_;try exact tTI)
  rfl
def axL0 : List Axl:=[⟨0,8000,2⟩,⟨3000,12000,4⟩]
def axL1 : List Axl:=[⟨5000,12000,8⟩,⟨6000,12000,8⟩,⟨7000,12000,8⟩]
def unL0 : Unt:=⟨0,3000,0,1000,500,1200,2500,9000,0,0,axL0⟩
def unL1 : Unt:=⟨2,6000,0,500,1500,1250,1200,7000,0,0,axL1⟩
theorem fn15 : Sy.Fn Tryz.prog 15 [] (.agg (cV (car 1))):=by
 refine Fn_of_W mixed Xt15 rfl ?_
 repeat (first | refine WK_go ?_ | refine W_seqL ?_ | refine W_seq ?_ | refine W_block ?_)
 refine W_regL ?_
 (refine sy1 ?_;try exact tTI)
 repeat (first | refine WK_go ?_ | refine W_seqL ?_ | refine W_seq ?_ | refine W_block ?_)
 refine W_regP [3,5] (by decide) ?_
 (refine sCP ?_;try exact tTI)
 refine ⟨rfl,trivial,Axl,dA,cA,axL0,rfl,by omega,fun x _=>⟨rfl,rfl⟩,rfl,?_⟩
 refine ⟨_,le_frzR 3 [0] [0] 20 3 0 136 3 dA cA axL0 rfl rfl rfl rfl,?_⟩
 (refine sCP ?_;try exact tTI)
 refine ⟨rfl,trivial,Axl,dA,cA,axL1,rfl,by omega,fun x _=>⟨rfl,rfl⟩,rfl,?_⟩
 refine ⟨_,le_frzR 8 [0,4] [0] 30 24 0 136 3 dA cA axL1 rfl rfl rfl rfl,?_⟩
 (refine sCP ?_;try exact tTI)
 refine ⟨rfl,trivial,Unt,dU,cU,[unL0,unL1],rfl,by omega,fun x _=>⟨rfl,rfl⟩,rfl,?_⟩
 (refine sCP ?_;try exact tTI)
 refine W_ret ⟨[_],⟨⟨by simp,rfl⟩,rfl⟩,?_⟩
 (refine syP ?_;try exact tTI)
 rfl
set_option maxHeartbeats 4000000
def cmp3 (x y : Int) : Int:=if x < y then -1 else if y < x then 1 else 0
theorem fn200 (x : Int) : Sy.Fn Tryz.prog 200 [iv x] (bv false):=by
 refine Fn_of_W mixed Xt200 rfl ?_
 (refine go0 ?_;try exact tTI)
 exact W_ret ⟨[_],⟨rfl,rfl⟩,by simp;rfl⟩
theorem fn176 (x y : Int) : Sy.Fn Tryz.prog 176 [iv x,iv y] (iv (cmp3 x y)):=by
 refine Fn_of_W mixed Xt176 rfl ?_
 (refine go_c (fun x1=>fn200 x1) ?_;try exact tTI)
 refine W_cond (by rfl) (fun h=>by cases h) (fun _=>?_)
 (refine go0 ?_;try exact tTI)
 refine W_cond (by rfl) (fun h=>by cases h) (fun _=>?_)
 unfold cmp3
 (refine go0 ?_;try exact tTI)
 refine W_condD (by rfl) (fun h=>?_) (fun h=>?_)
 ·rw [if_pos h]
  (refine go0 ?_;try exact tTI)
  exact W_ret ⟨[_],⟨rfl,rfl⟩,rfl⟩
 rw [if_neg h]
 (refine go0 ?_;try exact tTI)
 refine W_condD (by rfl) (fun h=>?_) (fun h=>?_)
 ·rw [if_pos h]
  (refine go0 ?_;try exact tTI)
  exact W_ret ⟨[_],⟨rfl,rfl⟩,rfl⟩
 rw [if_neg h]
 (refine go0 ?_;try exact tTI)
 exact W_ret ⟨[_],⟨rfl,rfl⟩,rfl⟩
def cmpP (a b : Pt) : Int:=if a.x = b.x then cmp3 a.y b.y else cmp3 a.x b.x
theorem fn150 (a b : Pt) : Sy.Fn Tryz.prog 150 [.agg (cPt a),.agg (cPt b)] (iv (cmpP a b)):=by
 refine Fn_of_W mixed Xt150 rfl ?_
 unfold cmpP
 (refine go0 ?_;try exact tTI)
 refine W_cond (by rfl) (fun h=>?_) (fun h=>?_)
 ·rw [if_neg (by simpa using h)]
  (refine go_c (fun x1 x2=>fn176 x1 x2) ?_;try exact tTI)
  exact W_ret ⟨[_],⟨rfl,rfl⟩,rfl⟩
 ·rw [if_pos (by simpa using h)]
  (refine go_c (fun x1 x2=>fn176 x1 x2) ?_;try exact tTI)
  exact W_ret ⟨[_],⟨rfl,rfl⟩,rfl⟩
def crs (a b c : Pt) : Int:=(b.x - a.x) * (c.y - a.y) - (b.y - a.y) * (c.x - a.x)
theorem fn153 (a b c : Pt) (ha : okQ a = true) (hb : okQ b = true) (hc : okQ c = true) : Sy.Fn Tryz.prog 153 [.agg (cPt a),.agg (cPt b),.agg (cPt c)] (iv (crs a b c)):=by
 refine Fn_of_W mixed Xt153 rfl ?_
 have h1:=okQ_iff.1 ha
 have h2:=okQ_iff.1 hb
 have h3:=okQ_iff.1 hc
 have m1:=abs_mul (show -33554432 ≤ b.x - a.x ∧ b.x - a.x ≤ 33554432 by omega) (show -33554432 ≤ c.y - a.y ∧ c.y - a.y ≤ 33554432 by omega)
 have m2:=abs_mul (show -33554432 ≤ b.y - a.y ∧ b.y - a.y ≤ 33554432 by omega) (show -33554432 ≤ c.x - a.x ∧ c.x - a.x ≤ 33554432 by omega)
 unfold crs
 (refine go0 ?_;try exact tTI)
 exact W_ret ⟨[_],⟨rfl,rfl⟩,rfl⟩
theorem fn152 (a b c : Pt) (ha : okQ a = true) (hb : okQ b = true) (hc : okQ c = true) : Sy.Fn Tryz.prog 152 [.agg (cPt a),.agg (cPt b),.agg (cPt c)] (bv (decide (crs a b c ≤ 0))):=by
 refine Fn_of_W mixed Xt152 rfl ?_
 (refine go_c (fn153 a b c ha hb hc) ?_;try exact tTI)
 exact W_ret ⟨[_],⟨rfl,rfl⟩,rfl⟩
theorem fn175 (x : Int) (h : 0 ≤ x ∧ x < 18446744073709551616) : ∃ n : Nat,n ≤ 64 ∧ Sy.Fn Tryz.prog 175 [uw x] (iv n):=by
 obtain ⟨n,h1,_,h2⟩:=fn199 x h.1 h.2
 refine ⟨n,h1,?_⟩
 refine Fn_of_W mixed Xt175 rfl ?_
 (refine go0 ?_;try exact tTI)
 refine W_cond (by rfl) (fun h=>by cases h) (fun _=>?_)
 (refine go_c h2 ?_;try exact tTI)
 exact W_ret ⟨[_],⟨rfl,rfl⟩,rfl⟩
abbrev cQ1 (l : List Pt) : List AV:=[aQ l]
theorem fn114 (ll : List (List Pt)) (hl : ll.length ≤ 1000000) (h : ∀ i,i < ll.length → (ll.getD i []).length ≤ 256 ∧ (ll.getD i []).all okQ = true) : Sy.Fn Tryz.prog 114 [.sl 1 [] cQ1 ll] (iv 0):=by
 refine Fn_of_W mixed Xt114 rfl ?_
 (refine go0 ?_;try exact tTI)
 refine W_loopU (fun i : Nat=>[(9,iv i)]) (fun i=>[]) (fun i=>i ≤ ll.length) (fun i=>ll.length - i) 0 (by omega) (by rfl) (by rfl) (fun i hi=>?_)
 (refine sy1 ?_;try exact tTI)
 (refine go0 ?_;try exact tTI)
 refine W_condD (by rfl) (fun h5=>?_) (fun h5=>?_)
 ·obtain ⟨h1,_⟩:=h i (by omega)
  obtain ⟨l,hq⟩ : ∃ l,ll.getD i [] = l:=⟨_,rfl⟩
  rw [hq] at h1
  (refine gof hq ?_;try exact tTI)
  refine W_condD (by rfl) (fun h6=>absurd h6 (by omega)) (fun h6=>?_)
  (refine go0 ?_;try exact tTI)
  refine ⟨i + 1,by omega,by omega,by rfl,?_⟩
  (refine syE ?_;try exact tTI)
 (refine go0 ?_;try exact tTI)
 refine W_loopU (fun i : Nat=>[(19,iv i)]) (fun i=>[]) (fun i=>i ≤ ll.length) (fun i=>ll.length - i) 0 (by omega) (by rfl) (by rfl) (fun i hi=>?_)
 (refine sy1 ?_;try exact tTI)
 (refine go0 ?_;try exact tTI)
 refine W_condD (by rfl) (fun h6=>?_) (fun h6=>?_)
 ·obtain ⟨h1,h2⟩:=h i (by omega)
  obtain ⟨l,hq⟩ : ∃ l,ll.getD i [] = l:=⟨_,rfl⟩
  rw [hq] at h1 h2
  have c97:=fn97 l (by omega)
  rw [h2] at c97
  (refine gofc hq c97 ?_;try exact tTI)
  refine W_cond (by rfl) (fun h=>by cases h) (fun _=>?_)
  (refine go0 ?_;try exact tTI)
  refine ⟨i + 1,by omega,by omega,by rfl,?_⟩
  (refine syE ?_;try exact tTI)
 (refine go0 ?_;try exact tTI)
 exact W_ret ⟨[_],⟨rfl,rfl⟩,rfl⟩
set_option maxHeartbeats 8000000
structure Line (a b c : Pt) : Prop where
 qa : okQ a = true
 qb : okQ b = true
 qc : okQ c = true
 s1 : cmpP c a = 1
 s2 : cmpP b c = -1
 s3 : cmpP b a = 1
 n1 : (b.x == a.x && b.y == a.y) = false
 n2 : (c.x == b.x && c.y == b.y) = false
 x1 : crs a b c = 0
 x2 : crs c b a = 0
def ot (x y z : Pt) : Nat → List Pt
 |0=>[]
 |1=>[x]
 |2=>[x,y]
 |_=>[x,z]
def po (x y : Pt) : Nat → List Pt
 |0=>[x,y]
 |_=>[x]
def os : Nat → Nat
 |0=>0
 |1=>1
 |2=>2
 |_=>4
theorem fn154 (x y z : Pt) (qx : okQ x = true) (qy : okQ y = true) (qz : okQ z = true) (hc : crs x y z = 0) (s : List Pt) (hs : s = [x,y,z]) : FnO Tryz.prog 154 [.clo 177 [] [.fp [aQ s] 0],.clo 152 [] []] 117 2 dQ cPt [x,z]:=by
 refine FnO_of_W mixed Xt154 rfl (fun x _=>rfl) ?_
 have ls : s.length = 3:=by rw [hs];rfl
 have s0 : s.getD 0 dQ = x:=by rw [hs];rfl
 have s1 : s.getD 1 dQ = y:=by rw [hs];rfl
 have s2 : s.getD 2 dQ = z:=by rw [hs];rfl
 have d1:=fn152 x y z qx qy qz
 rw [hc] at d1
 (refine go0 ?_;try exact tTI)
 refine W_rfn (.inl rfl) (fun lp R hR=>Inl_of_W mixed Xt177 rfl (fun vs=>?_))
 (refine sy1 ?_;try exact tTI)
 (refine go0 ?_;try exact tTI)
 refine W_le (le_adoptC 2 0 117 2 dQ cPt (by omega) _ rfl rfl (by simp)) ?_
 (refine sy1 ?_;try exact tTI)
 refine W_loopU (fun i : Nat=>[(7,iv i)]) (fun i=>[(2,.cells [.row 9 (os i)]),(9,.row (os i) 117 2 dQ cPt (ot x y z i))]) (fun i=>i ≤ 3) (fun i=>3 - i) 0 (by omega) (by rfl) (by rfl) (fun i hi=>?_)
 (refine sy1 ?_;try exact tTI)
 (refine gof ls ?_;try exact tTI)
 refine W_condD (by rfl) (fun h5=>?_) (fun h5=>?_)
 ·obtain rfl | rfl | rfl : i = 0 ∨ i = 1 ∨ i = 2:=by omega
  ·rw [show ot x y z 0 = [] from rfl,show os 0 = 0 from rfl]
   (refine gof (ad2 s0 ls) ?_;try exact tTI)
   refine StopC.yld (fun hpc=>⟨trivial,Yl_of_W (k:=4) mixed hR rfl rfl rfl (fun vs2=>?_)⟩) (fun hpc=>absurd (by simp [Sy.pc]) hpc)
   (refine sy1 ?_;try exact tTI)
   (refine go0 ?_;try exact tTI)
   refine ⟨_,rfl,?_⟩
   (refine sy1 ?_;try exact tTI)
   (refine go0 ?_;try exact tTI)
   refine W_loopU (fun k : Nat=>[]) (fun k=>[]) (fun k=>k = 0) (fun k=>1) 0 rfl (by rfl) (by rfl) (fun k hk=>?_)
   (refine sy1 ?_;try exact tTI)
   repeat' (first | refine w1g ?_ | refine w1l ?_ | refine w1q ?_ | refine w1b ?_ | refine w1p ?_ | ((first | refine w1r ?_ | refine w1k ?_ | refine w1e ?_);(refine sy1 ?_;try exact tTI)) | refine an2 ?_ | ((refine CallC.go (bv false) (fun hpc=>absurd hpc (by simp [Sy.pc])) rfl ?_;(refine sy1 ?_;try exact tTI))) | fail)
   refine ⟨fun h=>absurd h (by decide),fun h=>absurd h (by decide),fun h=>absurd h (by decide),fun h=>absurd h (by decide),?_⟩
   refine CallC.go (bv false) (fun hpc=>absurd hpc (by simp [Sy.pc])) rfl ?_
   (refine sy1 ?_;try exact tTI)
   (refine go0 ?_;try exact tTI)
   refine W_cond (by rfl) (fun h=>absurd h (by decide)) (fun _=>?_)
   (refine go0 ?_;try exact tTI)
   refine ⟨rfl,trivial,Pt,dQ,cPt,[x],rfl,by omega,fun x _=>⟨rfl,rfl⟩,rfl,?_⟩
   (refine sy1 ?_;try exact tTI)
   refine ⟨rfl,⟨Nat.le_of_ble_eq_true rfl,rfl⟩,trivial,[x],rfl,by first | omega | (simp;done) | (simp;omega),by first | omega | (simp;done) | (simp;omega),?_⟩
   (refine sy1 ?_;try exact tTI)
   refine ⟨_,_,rfl,rfl,?_⟩
   (refine sy1 ?_;try exact tTI)
   refine W_cond (by rfl) (fun h=>by cases h) (fun _=>?_)
   (refine go0 ?_;try exact tTI)
   refine ⟨1,by omega,by omega,by rfl,?_⟩
   (refine syE ?_;try exact tTI)
   exact ⟨rfl,rfl⟩
  ·rw [show ((1 : Nat) : Int) = 1 from rfl,show ot x y z 1 = [x] from rfl,show os 1 = 1 from rfl]
   (refine gof (ad2 s1 ls) ?_;try exact tTI)
   refine StopC.yld (fun hpc=>⟨trivial,Yl_of_W (k:=4) mixed hR rfl rfl rfl (fun vs2=>?_)⟩) (fun hpc=>absurd (by simp [Sy.pc]) hpc)
   (refine sy1 ?_;try exact tTI)
   (refine go0 ?_;try exact tTI)
   refine ⟨_,rfl,?_⟩
   (refine sy1 ?_;try exact tTI)
   (refine go0 ?_;try exact tTI)
   refine W_loopU (fun k : Nat=>[]) (fun k=>[]) (fun k=>k = 0) (fun k=>1) 0 rfl (by rfl) (by rfl) (fun k hk=>?_)
   (refine sy1 ?_;try exact tTI)
   repeat' (first | refine w1g ?_ | refine w1l ?_ | refine w1q ?_ | refine w1b ?_ | refine w1p ?_ | ((first | refine w1r ?_ | refine w1k ?_ | refine w1e ?_);(refine sy1 ?_;try exact tTI)) | refine an2 ?_ | ((refine CallC.go (bv false) (fun hpc=>absurd hpc (by simp [Sy.pc])) rfl ?_;(refine sy1 ?_;try exact tTI))) | fail)
   refine W_cond (by rfl) (fun h=>absurd h (by decide)) (fun _=>?_)
   (refine go0 ?_;try exact tTI)
   refine ⟨rfl,trivial,Pt,dQ,cPt,[y],rfl,by omega,fun x _=>⟨rfl,rfl⟩,rfl,?_⟩
   (refine sy1 ?_;try exact tTI)
   refine ⟨rfl,⟨Nat.le_of_ble_eq_true rfl,rfl⟩,trivial,[y],rfl,by first | omega | (simp;done) | (simp;omega),by first | omega | (simp;done) | (simp;omega),?_⟩
   (refine sy1 ?_;try exact tTI)
   refine ⟨_,_,rfl,rfl,?_⟩
   (refine sy1 ?_;try exact tTI)
   refine W_cond (by rfl) (fun h=>by cases h) (fun _=>?_)
   (refine go0 ?_;try exact tTI)
   refine ⟨2,by omega,by omega,by rfl,?_⟩
   (refine syE ?_;try exact tTI)
   exact ⟨rfl,rfl,rfl⟩
  ·rw [show ((2 : Nat) : Int) = 2 from rfl,show ot x y z 2 = [x,y] from rfl,show os 2 = 2 from rfl]
   (refine gof (ad2 s2 ls) ?_;try exact tTI)
   refine StopC.yld (fun hpc=>⟨trivial,Yl_of_W (k:=4) mixed hR rfl rfl rfl (fun vs2=>?_)⟩) (fun hpc=>absurd (by simp [Sy.pc]) hpc)
   (refine sy1 ?_;try exact tTI)
   (refine go0 ?_;try exact tTI)
   refine ⟨_,rfl,?_⟩
   (refine sy1 ?_;try exact tTI)
   (refine go0 ?_;try exact tTI)
   refine W_loopU (fun m : Nat=>[]) (fun m=>[(2,.cells [.row 9 (2 + m)]),(9,.row (2 + m) 117 2 dQ cPt (po x y m))]) (fun m=>m ≤ 1) (fun m=>1 - m) 0 (by omega) (by rfl) (by rfl) (fun m hm=>?_)
   (refine sy1 ?_;try exact tTI)
   obtain rfl | rfl : m = 0 ∨ m = 1:=by omega
   ·rw [show po x y 0 = [x,y] from rfl,show 2 + 0 = 2 from rfl]
    (refine go_g d1 ?_;try exact tTI)
    refine W_cond (by rfl) (fun _=>?_) (fun h=>absurd h (by decide))
    (refine go0 ?_;try exact tTI)
    refine ⟨1,by omega,by omega,by rfl,?_⟩
    (refine syE ?_;try exact tTI)
    rfl
   ·rw [show po x y 1 = [x] from rfl,show 2 + 1 = 3 from rfl]
    repeat' (first | refine w1g ?_ | refine w1l ?_ | refine w1q ?_ | refine w1b ?_ | refine w1p ?_ | ((first | refine w1r ?_ | refine w1k ?_ | refine w1e ?_);(refine sy1 ?_;try exact tTI)) | refine an2 ?_ | ((refine CallC.go (bv false) (fun hpc=>absurd hpc (by simp [Sy.pc])) rfl ?_;(refine sy1 ?_;try exact tTI))) | fail)
    refine W_cond (by rfl) (fun h=>absurd h (by decide)) (fun _=>?_)
    (refine go0 ?_;try exact tTI)
    refine ⟨rfl,trivial,Pt,dQ,cPt,[z],rfl,by omega,fun x _=>⟨rfl,rfl⟩,rfl,?_⟩
    (refine sy1 ?_;try exact tTI)
    refine ⟨rfl,⟨Nat.le_of_ble_eq_true rfl,rfl⟩,trivial,[z],rfl,by first | omega | (simp;done) | (simp;omega),by first | omega | (simp;done) | (simp;omega),?_⟩
    (refine sy1 ?_;try exact tTI)
    refine ⟨_,_,rfl,rfl,?_⟩
    (refine sy1 ?_;try exact tTI)
    refine W_cond (by rfl) (fun h=>by cases h) (fun _=>?_)
    (refine go0 ?_;try exact tTI)
    refine ⟨3,by omega,by omega,by rfl,?_⟩
    (refine syE ?_;try exact tTI)
    exact ⟨rfl,rfl,rfl⟩
 ·obtain rfl : i = 3:=by omega
  rw [show ot x y z 3 = [x,z] from rfl,show os 3 = 4 from rfl]
  (refine go0 ?_;try exact tTI)
  refine ⟨_,_,rfl,rfl,⟨_,_,rfl,by rw [hR.st];simp,?_⟩⟩
  rw [hR.pe]
  (refine syN ?_;try exact tTI)
  (refine go0 ?_;try exact tTI)
  exact W_ret ⟨_,_,⟨rfl,rfl⟩,rfl⟩
def sv (s t : List Pt) : Nat → List Pt
 |0=>s
 |_=>t
theorem rest40 (a b c : Pt) (L : Line a b c) (s : List Pt) (hs : s = [a,b,c]) : W Tryz.prog 38 Xn115_18 ⟨[(3,.row 6 1),(4,.clo 152 [] [])],[(6,.row 1 117 2 dQ cPt s)],65⟩ (Sy.Fin [RV.t 2] (aQ [a,c])):=by
 have ls : s.length = 3:=by rw [hs];rfl
 have s0 : s.getD 0 dQ = a:=by rw [hs];rfl
 have s1 : s.getD 1 dQ = b:=by rw [hs];rfl
 have s2 : s.getD 2 dQ = c:=by rw [hs];rfl
 have d1:=fn152 a b c L.qa L.qb L.qc
 rw [L.x1] at d1
 have d2:=fn152 c b a L.qc L.qb L.qa
 rw [L.x2] at d2
 have e1:=fn154 a b c L.qa L.qb L.qc L.x1 s hs
 obtain ⟨s',hs'⟩ : ∃ s',s' = [c,b,a]:=⟨_,rfl⟩
 have e2:=fn154 c b a L.qc L.qb L.qa L.x2 s' hs'
 have hrv : (s.set 0 c).set 2 a = s':=by rw [hs,hs'];rfl
 have ls' : s'.length = 3:=by rw [hs'];rfl
 (refine go0 ?_;try exact tTI)
 refine CallC.inl (Inl_of_W mixed Xt155 rfl (fun vs=>?_))
 (refine sy1 ?_;try exact tTI)
 (refine go0 ?_;try exact tTI)
 refine W_ret ⟨[_],_,⟨rfl,rfl⟩,rfl,?_⟩
 (refine syP ?_;try exact tTI)
 refine CallC.inl (Inl_of_FnO e1 (by rfl) ?_)
 (refine sy1 ?_;try exact tTI)
 (refine go0 ?_;try exact tTI)
 refine CallC.inl (Inl_of_W mixed Xt156 rfl (fun vs2=>?_))
 (refine sy1 ?_;try exact tTI)
 (refine gof ls ?_;try exact tTI)
 refine W_loopU (fun k : Nat=>[(2,iv k),(3,iv (2 - (k : Int)))]) (fun k=>[(6,.row 1 117 2 dQ cPt (sv s s' k))]) (fun k=>k ≤ 1) (fun k=>1 - k) 0 (by omega) (by rfl) (by rfl) (fun k hk=>?_)
 (refine sy1 ?_;try exact tTI)
 obtain rfl | rfl : k = 0 ∨ k = 1:=by omega
 ·rw [show sv s s' 0 = s from rfl,show (2 : Int) - ((0 : Nat) : Int) = 2 from rfl]
  (refine gof (ad3 s0 s2 ls) ?_;try exact tTI)
  refine W_cond (by rfl) (fun _=>?_) (fun h=>absurd h (by decide))
  (refine gof (ad3 s0 s2 ls) ?_;try exact tTI)
  refine ⟨rfl,⟨Nat.le_of_ble_eq_true rfl,rfl⟩,trivial,c,rfl,rfl,?_⟩
  (refine sy1 ?_;try exact tTI)
  refine ⟨by first | omega | (simp;omega) | exact ⟨by omega,by rw [List.length_set];omega⟩,?_⟩
  refine ⟨rfl,⟨Nat.le_of_ble_eq_true rfl,rfl⟩,by rw [List.length_set];omega,a,rfl,rfl,?_⟩
  rw [hrv]
  (refine sy1 ?_;try exact tTI)
  (refine go0 ?_;try exact tTI)
  refine ⟨1,by omega,by omega,by rfl,?_⟩
  (refine syE ?_;try exact tTI)
  exact ⟨rfl,rfl⟩
 ·rw [show sv s s' 1 = s' from rfl,show (2 : Int) - ((1 : Nat) : Int) = 1 from rfl]
  repeat' (first | refine w1g ?_ | refine w1l ?_ | refine w1q ?_ | refine w1b ?_ | refine w1p ?_ | ((first | refine w1r ?_ | refine w1k ?_ | refine w1e ?_);simp (maxSteps:=400000) (disch:=omega) only [push_cast,↓reduceIte,reduceCtorEq,Nat.reduceAdd,Nat.reduceSub,Nat.reduceEqDiff,Nat.reduceLeDiff,Nat.reduceLT,Nat.reduceBEq,Nat.reduceDiv,Nat.reduceMod,Nat.reducePow,Nat.reduceMul,Int.reduceToNat,Int.reduceLT,Int.reduceLE,ls']) | refine an2 ?_ | fail)
  refine W_cond (by rfl) (fun h=>absurd h (by decide)) (fun _=>?_)
  (refine go0 ?_;try exact tTI)
  refine ⟨[],_,rfl,rfl,?_⟩
  (refine syP ?_;try exact tTI)
  (refine go0 ?_;try exact tTI)
  refine CallC.inl (Inl_of_W mixed Xt155 rfl (fun vs=>?_))
  (refine sy1 ?_;try exact tTI)
  (refine go0 ?_;try exact tTI)
  refine W_ret ⟨[_],_,⟨rfl,rfl⟩,rfl,?_⟩
  (refine syP ?_;try exact tTI)
  refine CallC.inl (Inl_of_FnO e2 (by rfl) ?_)
  (refine sy1 ?_;try exact tTI)
  (refine go0 ?_;try exact tTI)
  rw [show List.take ((0 : Int) + 1 + 1 - 1).toNat [a,c] = [a] from rfl,show List.take ((0 : Int) + 1 + 1 - 1).toNat [c,a] = [c] from rfl]
  refine ⟨rfl,⟨Nat.le_of_ble_eq_true rfl,rfl⟩,trivial,[c],rfl,by first | omega | (simp;done) | (simp;omega),by first | omega | (simp;done) | (simp;omega),?_⟩
  (refine sy1 ?_;try exact tTI)
  exact W_ret ⟨[_],⟨rfl,rfl⟩,rfl⟩
def sr (l s : List Pt) : Nat → List Pt
 |0=>l
 |1=>l
 |_=>s
theorem fn115 (a b c : Pt) (L : Line a b c) (l : List Pt) (hl : l = [a,c,b]) : Sy.Fn Tryz.prog 115 [aQ l] (aQ [a,c]):=by
 refine Fn_of_W mixed Xt115 rfl ?_
 have ll : l.length = 3:=by rw [hl];rfl
 obtain ⟨s,hs⟩ : ∃ s,s = [a,b,c]:=⟨_,rfl⟩
 have ls : s.length = 3:=by rw [hs];rfl
 have l0 : l.getD 0 dQ = a:=by rw [hl];rfl
 have l1 : l.getD 1 dQ = c:=by rw [hl];rfl
 have l2 : l.getD 2 dQ = b:=by rw [hl];rfl
 have s0 : s.getD 0 dQ = a:=by rw [hs];rfl
 have s1 : s.getD 1 dQ = b:=by rw [hs];rfl
 have s2 : s.getD 2 dQ = c:=by rw [hs];rfl
 have hsw : (l.set 2 c).set 1 b = s:=by rw [hl,hs];rfl
 have e10 : ((1 : Int) - 1).toNat = 0:=rfl
 have e21 : ((2 : Int) - 1).toNat = 1:=rfl
 have dT : decide True = true:=rfl
 have n1:=L.n1
 have n2:=L.n2
 have k1:=fn150 c a
 rw [L.s1] at k1
 have k2:=fn150 b c
 rw [L.s2] at k2
 have k3:=fn150 b a
 rw [L.s3] at k3
 (refine go0 ?_;try exact tTI)
 refine CallC.inl (Inl_of_W mixed Xt148 rfl (fun vs=>?_))
 (refine sy1 ?_;try exact tTI)
 (refine go0 ?_;try exact tTI)
 refine W_cond (by rfl) (fun h=>by cases h) (fun _=>?_)
 (refine go0 ?_;try exact tTI)
 refine ⟨rfl,trivial,Pt,dQ,cPt,[],rfl,by omega,fun x _=>⟨rfl,rfl⟩,rfl,?_⟩
 (refine sy1 ?_;try exact tTI)
 refine ⟨rfl,⟨Nat.le_of_ble_eq_true rfl,rfl⟩,trivial,l,rfl,by first | omega | (simp;omega),by first | omega | (simp;omega),?_⟩
 (refine sy1 ?_;try exact tTI)
 (refine go0 ?_;try exact tTI)
 refine W_ret ⟨[_],_,⟨rfl,rfl⟩,rfl,?_⟩
 (refine syP ?_;try exact tTI)
 (refine go0 ?_;try exact tTI)
 refine CallC.inl (Inl_of_W mixed Xt149 rfl (fun vs=>?_))
 obtain ⟨n73,_,c175⟩:=fn175 l.length (by omega)
 have w3 : IntKind.u64.wrap (l.length : Int) = l.length:=by rw [IntKind.wrap_u64];omega
 (refine sy1 ?_;try exact tTI)
 (refine gofc w3 c175 ?_;try exact tTI)
 refine CallC.inl (Inl_of_W mixed Xt174 rfl (fun vs2=>?_))
 (refine sy1 ?_;try exact tTI)
 (refine go0 ?_;try exact tTI)
 refine W_loopU (fun k : Nat=>[]) (fun k=>[]) (fun k=>k = 0) (fun k=>1) 0 rfl (by rfl) (by rfl) (fun k hk=>?_)
 (refine sy1 ?_;try exact tTI)
 (refine go0 ?_;try exact tTI)
 refine W_condD (by rfl) (fun h5=>?_) (fun h5=>absurd h5 (by omega))
 (refine go0 ?_;try exact tTI)
 refine CallC.inl (Inl_of_W mixed Xt190 rfl (fun vs3=>?_))
 (refine sy1 ?_;try exact tTI)
 (refine go0 ?_;try exact tTI)
 refine W_loopU (fun k : Nat=>[(8,iv ((k : Int) + 1))]) (fun k=>[(6,.row 1 117 2 dQ cPt (sr l s k))]) (fun k=>k ≤ 2) (fun k=>2 - k) 0 (by omega) (by rfl) (by rfl) (fun k hk=>?_)
 (refine sy1 ?_;try exact tTI)
 (refine go0 ?_;try exact tTI)
 refine W_condD (by rfl) (fun h6=>?_) (fun h6=>?_)
 ·obtain rfl | rfl : k = 0 ∨ k = 1:=by omega
  ·rw [show sr l s 0 = l from rfl,show ((0 : Nat) : Int) + 1 = 1 from rfl]
   (refine go0 ?_;try exact tTI)
   refine W_loopU (fun m : Nat=>[]) (fun k=>[]) (fun m=>m = 0) (fun m=>1) 0 rfl (by rfl) (by rfl) (fun m hm=>?_)
   (refine sy1 ?_;try exact tTI)
   (refine gofg (ad5 l0 l1 ll e10 dT) k1 ?_;try exact tTI)
   refine W_cond (by rfl) (fun h=>absurd h (by decide)) (fun _=>?_)
   (refine go0 ?_;try exact tTI)
   refine ⟨1,by omega,by omega,by rfl,?_⟩
   (refine syE ?_;try exact tTI)
   exact ⟨rfl,rfl⟩
  ·rw [show sr l s 1 = l from rfl,show ((1 : Nat) : Int) + 1 = 2 from rfl]
   (refine go0 ?_;try exact tTI)
   refine W_loopU (fun m : Nat=>[(9,iv (2 - (m : Int)))]) (fun m=>[(6,.row 1 117 2 dQ cPt (sr l s (m + 1)))]) (fun m=>m ≤ 1) (fun m=>1 - m) 0 (by omega) (by rfl) (by rfl) (fun m hm=>?_)
   (refine sy1 ?_;try exact tTI)
   obtain rfl | rfl : m = 0 ∨ m = 1:=by omega
   ·rw [show sr l s (0 + 1) = l from rfl,show (2 : Int) - ((0 : Nat) : Int) = 2 from rfl]
    (refine gofg (ad5 l1 l2 ll e21 dT) k2 ?_;try exact tTI)
    refine W_cond (by rfl) (fun _=>?_) (fun h=>by cases h)
    (refine gof (ad5 l1 l2 ll e21 dT) ?_;try exact tTI)
    refine ⟨rfl,⟨Nat.le_of_ble_eq_true rfl,rfl⟩,trivial,c,rfl,rfl,?_⟩
    (refine syf e21 ?_;try exact tTI)
    refine ⟨⟨by omega,by rw [List.length_set];omega⟩,?_⟩
    refine ⟨rfl,⟨Nat.le_of_ble_eq_true rfl,rfl⟩,by rw [List.length_set];omega,b,rfl,rfl,?_⟩
    rw [hsw]
    (refine syf e21 ?_;try exact tTI)
    (refine gof e21 ?_;try exact tTI)
    refine ⟨1,by omega,by omega,by rfl,?_⟩
    (refine syE ?_;try exact tTI)
    exact ⟨rfl,rfl⟩
   ·rw [show sr l s (1 + 1) = s from rfl,show (2 : Int) - ((1 : Nat) : Int) = 1 from rfl]
    (refine gofg (ad5 s0 s1 ls e10 dT) k3 ?_;try exact tTI)
    refine W_cond (by rfl) (fun h=>absurd h (by decide)) (fun _=>?_)
    (refine go0 ?_;try exact tTI)
    refine ⟨2,by omega,by omega,by rfl,?_⟩
    (refine syE ?_;try exact tTI)
    exact ⟨rfl,rfl⟩
 ·obtain rfl : k = 2:=by omega
  rw [show sr l s 2 = s from rfl]
  (refine go0 ?_;try exact tTI)
  refine ⟨[],_,rfl,rfl,?_⟩
  (refine syP ?_;try exact tTI)
  (refine go0 ?_;try exact tTI)
  refine W_ret ⟨[],_,rfl,rfl,?_⟩
  (refine syP ?_;try exact tTI)
  (refine go0 ?_;try exact tTI)
  refine ⟨[],_,rfl,rfl,?_⟩
  (refine syP ?_;try exact tTI)
  (refine go0 ?_;try exact tTI)
  refine CallC.inl (Inl_of_W mixed Xt151 rfl (fun vs4=>?_))
  (refine syf ls ?_;try exact tTI)
  (refine gof ls ?_;try exact tTI)
  refine W_cond (by rfl) (fun h=>absurd h (by decide)) (fun _=>?_)
  (refine go0 ?_;try exact tTI)
  refine W_loopU (fun k : Nat=>[(3,iv ((k : Int) + 1))]) (fun k=>[]) (fun k=>k ≤ 2) (fun k=>2 - k) 0 (by omega) (by rfl) (by rfl) (fun k hk=>?_)
  (refine sy1 ?_;try exact tTI)
  (refine gof ls ?_;try exact tTI)
  refine W_condD (by rfl) (fun h7=>?_) (fun h7=>?_)
  ·obtain rfl | rfl : k = 0 ∨ k = 1:=by omega
   ·rw [show ((0 : Nat) : Int) + 1 = 1 from rfl]
    (refine gof (ad5 s0 s1 ls e10 n1) ?_;try exact tTI)
    refine W_cond (by rfl) (fun h=>by cases h) (fun _=>?_)
    (refine go0 ?_;try exact tTI)
    refine ⟨1,by omega,by omega,by rfl,?_⟩
    (refine syE ?_;try exact tTI)
    rfl
   ·rw [show ((1 : Nat) : Int) + 1 = 2 from rfl]
    (refine gof (ad5 s1 s2 ls e21 n2) ?_;try exact tTI)
    refine W_cond (by rfl) (fun h=>by cases h) (fun _=>?_)
    (refine go0 ?_;try exact tTI)
    refine ⟨2,by omega,by omega,by rfl,?_⟩
    (refine syE ?_;try exact tTI)
    rfl
  ·(refine go0 ?_;try exact tTI)
   refine W_ret ⟨[_],_,⟨rfl,rfl⟩,rfl,?_⟩
   (refine syP ?_;try exact tTI)
   (refine gof ls ?_;try exact tTI)
   refine W_cond (by rfl) (fun h=>absurd h (by decide)) (fun _=>?_)
   refine W_skip ?_
   (refine sy1 ?_;try exact tTI)
   repeat (first | refine WK_go ?_ | refine W_seqL ?_ | refine W_seq ?_ | refine W_block ?_)
   refine W_regL ?_
   (refine sy1 ?_;try exact tTI)
   exact rest40 a b c L s hs
theorem fn73 (a b c : Pt) (L : Line a b c) (l : List Pt) (hl : l = [a,c,b]) : Sy.Fn Tryz.prog 73 [aQ l] (.tup [aQ [a,c],iv 0]):=by
 refine Fn_of_W mixed Xt73 rfl ?_
 have c114:=fn114 [l] (by simp) (fun i hi=>by
  obtain rfl : i = 0:=by simpa using hi
  rw [hl]
  simp [L.qa,L.qb,L.qc])
 have c115:=fn115 a b c L l hl
 have ll : l.length = 3:=by rw [hl];rfl
 (refine go0 ?_;try exact tTI)
 refine ⟨rfl,trivial,(List Pt),[],cQ1,[l],rfl,by omega,fun x _=>⟨rfl,rfl⟩,rfl,?_⟩
 (refine sy1 ?_;try exact tTI)
 (refine go_g c114 ?_;try exact tTI)
 refine W_cond (by rfl) (fun h=>by cases h) (fun _=>?_)
 (refine gof ll ?_;try exact tTI)
 refine W_cond (by rfl) (fun h=>absurd h (by decide)) (fun _=>?_)
 (refine go_c c115 ?_;try exact tTI)
 exact W_ret ⟨[_,_],⟨rfl,rfl,rfl⟩,rfl⟩
theorem line3 : Line ⟨1,0⟩ ⟨2,0⟩ ⟨3,0⟩:=⟨by decide,by decide,by decide,by decide,by decide,by decide,by decide,by decide,by decide,by decide⟩
theorem strt0 : Strt (car 1) unL0 unL1 ⟨0,0⟩ ⟨-3000,0⟩ ⟨-9000,0⟩ ⟨-100,0⟩:={
 T:={
  vu:=rfl
  ch:=car_ok1
  k0:=⟨by decide,by decide,by decide⟩
  k1:=⟨by decide,by decide,by decide⟩
  b0:=rfl
  b1:=rfl
  q0:=by decide
  q1:=by decide
  q2:=by decide
  n1:=by decide
  n2:=by decide
  l1:=⟨by decide,by decide,by decide,by decide,by decide,by decide +kernel,by decide +kernel⟩
  l2:=⟨by decide,by decide,by decide,by decide,by decide,by decide +kernel,by decide +kernel⟩
  e1:=by unfold plP;congr 1 <;> decide +kernel
  e2:=by unfold plP;congr 1 <;> decide +kernel }
 gr:=car_gr 1
 qb:=by decide
 len:=by decide
 pl:=⟨by decide,by decide,by decide,by decide,by decide,by decide +kernel,by decide +kernel⟩
 e1:=by unfold plP;congr 1 <;> decide +kernel
 pj:=⟨by decide,by decide,by decide,by decide,by decide,by decide +kernel,by decide +kernel⟩
 e2:=by unfold plP;congr 1 <;> decide +kernel }
def bx4 : Bx:=⟨0,0,0,0,0,0,4⟩
theorem obx4 : OBx bx4:=⟨by decide,by decide,by decide,by decide,by decide,by decide,by decide⟩
theorem ex_lv : levE 1000 0 3 1 = 0 ∧ levL 1000 0 3 1 = 667 ∧ levR 1000 0 3 1 = 334:=by decide +kernel
theorem fn33 : Sy.Fn Tryz.prog 33 [] (bv true):=by
 refine Fn_of_W mixed Xt33 rfl ?_
 have c72:=fn72 (car 1) unL0 unL1 ⟨0,0⟩ ⟨-3000,0⟩ ⟨-9000,0⟩ ⟨-100,0⟩ strt0
 have hb : ∀ b ∈ [bx4],OBx b:=fun b hb=>by rw [List.mem_singleton] at hb;rw [hb];exact obx4
 have c7:=fn7 [bx4] (by simp) hb
 have hok:=(crg_ok hb (by simp)).1
 have c6:=fn16 (crg [bx4]) (by have:=hok.n2;omega) (by have:=hok.n3;omega)
 rw [show masV (crg [bx4]) = 5 by unfold masV;rw [if_pos (chkL_ok hok)];decide,chkL_ok hok] at c6
 have c41:=fn41 1000 0 3 1
 rw [ex_lv.1,ex_lv.2.1,ex_lv.2.2] at c41
 have c73:=fn73 ⟨1,0⟩ ⟨2,0⟩ ⟨3,0⟩ line3 _ rfl
 repeat (first | refine WK_go ?_ | refine W_seqL ?_ | refine W_seq ?_ | refine W_block ?_)
 refine W_regL ?_
 (refine sy1 ?_;try exact tTI)
 repeat (first | refine WK_go ?_ | refine W_seqL ?_ | refine W_seq ?_ | refine W_block ?_)
 refine W_regL ?_
 (refine sy1 ?_;try exact tTI)
 refine CallC.now fn15 ?_
 (refine sy1 ?_;try exact tTI)
 refine CallC.now c72 ?_
 (refine sy1 ?_;try exact tTI)
 repeat (first | refine WK_go ?_ | refine W_seqL ?_ | refine W_seq ?_ | refine W_block ?_)
 refine W_regP [2] (by decide) ?_
 (refine sCP ?_;try exact tTI)
 refine ⟨rfl,trivial,Bx,dBx,cBx,[bx4],rfl,by omega,fun x _=>⟨rfl,rfl⟩,rfl,?_⟩
 refine ⟨_,le_frzR 19 [1,2] [8] 20 12 0 84 7 dBx cBx [bx4] rfl rfl rfl rfl,?_⟩
 (refine sCP ?_;try exact tTI)
 refine CallC.now c7 ?_
 (refine sy1 ?_;try exact tTI)
 refine CallC.now c6 ?_
 (refine sy1 ?_;try exact tTI)
 repeat (first | refine WK_go ?_ | refine W_seqL ?_ | refine W_seq ?_ | refine W_block ?_)
 refine W_regL ?_
 (refine sy1 ?_;try exact tTI)
 refine CallC.now c41 ?_
 (refine sy1 ?_;try exact tTI)
 repeat (first | refine WK_go ?_ | refine W_seqL ?_ | refine W_seq ?_ | refine W_block ?_)
 refine W_regP [4] (by decide) ?_
 (refine sCP ?_;try exact tTI)
 refine ⟨rfl,trivial,Pt,dQ,cPt,[⟨1,0⟩,⟨3,0⟩,⟨2,0⟩],rfl,by omega,fun x _=>⟨rfl,rfl⟩,rfl,?_⟩
 refine ⟨_,le_frzR 33 [1,2,3,4,5,6,7] [8] 45 38 0 117 2 dQ cPt [⟨1,0⟩,⟨3,0⟩,⟨2,0⟩] rfl rfl rfl rfl,?_⟩
 (refine sCP ?_;try exact tTI)
 refine CallC.now c73 ?_
 (refine sy1 ?_;try exact tTI)
 (refine go0 ?_;try exact tTI)
 refine W_ret ⟨[_],⟨rfl,rfl⟩,?_⟩
 rfl
def plh (p : Pce) (k : Nat) : Int:=plo p k + psz p k
def eH (l : List Pce) (k : Nat) : Nat → Int
 |0=>plh (pc l 0) k
 |n + 1=>max (eH l k n) (plh (pc l (n + 1)) k)
abbrev c3 (F : Nat → Int) : List AV:=[iv (F 0),iv (F 1),iv (F 2)]
def fS (l : List Bx) : Nat → Int
 |0=>max 2500 (1200 + eH (crg l).ps 2 ((crg l).ps.length - 1))
 |1=>2500
 |2=>16000 + smM (crg l).ps
 |3=>max 4500 (cdiv (7000 + smM (crg l).ps) 3)
 |4=>11500
 |_=>0
def okS (l : List Bx) : Bool:=!decide (l = []) && decide (cdiv (7000 + smM (crg l).ps) 3 ≤ 12000)
end Go.Proofs.YtolnclkcokckeaaGreat
