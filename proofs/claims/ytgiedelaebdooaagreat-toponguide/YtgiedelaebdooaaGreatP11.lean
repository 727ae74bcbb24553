/- Part 11 of the proof of: For every input the law TopOnGuide returns true: a point of a guide at a length is hardly off it, a track of such points is right, and one that is moved too far is refused. -/
import Derived.Test.YtgiedelaebdooaaGreatP10
namespace Go.Proofs.YtgiedelaebdooaaGreat
open Go Sy
set_option maxRecDepth 100000
set_option maxHeartbeats 4000000
set_option linter.unusedVariables false
set_option linter.unusedSimpArgs false
def extra (v : Veh) (m L x : Int) (i : Nat) : Int:=if v.fr = v.to then (if v.fr = i then m else 0) else if v.fr = i then levL m 0 L x else if v.to = i then levR m 0 L x else 0
def each (v : Veh) (m L x : Int) (i : Nat) : Int:=cdiv ((su v.units i).mass + extra v m L x i) (su v.units i).axles.length
theorem chkV_ok {v : Veh} (h : chkV v = 0) : v.units.length ≤ 12 ∧ (∀ i,i < v.units.length → hd1 (su v.units i) ∧ hd2 (su v.units i) ∧ (su v.units i).axles.length ≤ 24) ∧ 0 < v.units.length ∧ 0 ≤ v.fr ∧ v.fr ≤ v.to ∧ v.to < v.units.length:=by
 unfold chkV at h
 by_cases h1 : manyB v = true
 ·rw [if_pos h1] at h;omega
 rw [if_neg h1] at h
 by_cases h2 : argP v
 ·rw [if_pos h2] at h;omega
 rw [if_neg h2] at h
 by_cases h3 : (v.units.any fun u=>!unitB u) = true
 ·rw [if_pos h3] at h;omega
 rw [Bool.not_eq_true] at h1 h3
 unfold manyB at h1
 rw [Bool.or_eq_false_iff,decide_eq_false_iff_not,← Bool.not_eq_true,List.any_eq_true] at h1
 rw [← Bool.not_eq_true,List.any_eq_true] at h3
 unfold argP at h2
 simp only [not_or] at h2
 refine ⟨by omega,fun i hi=>?_,by omega,by omega,by omega,by omega⟩
 have hm:=getD_mem dU v.units i hi
 have hu : unitB (su v.units i) = true:=by
  rw [← Bool.not_eq_false]
  intro q
  exact h3 ⟨_,hm,by rw [q];rfl⟩
 unfold unitB at hu
 simp only [Bool.and_eq_true,decide_eq_true_eq] at hu
 refine ⟨hu.1.1,hu.1.2,?_⟩
 apply Classical.byContradiction
 intro q
 exact h1.2 ⟨_,hm,decide_eq_true (show 24 < (su v.units i).axles.length by omega)⟩
structure AxOK (v : Veh) (m L x : Int) : Prop where
 ch : chkV v = 0
 hm : 1 ≤ m ∧ m ≤ 16777216
 hL : 1 ≤ L ∧ L ≤ 16777216
 hx : 0 ≤ x ∧ x ≤ L
theorem AxOK.lev {v : Veh} {m L x : Int} (h : AxOK v m L x) : levE m 0 L x = 0:=by
 have hm:=h.hm;have hL:=h.hL;have hx:=h.hx
 unfold levE okMass okPlace
 rw [if_neg,if_neg (by omega),if_neg]
 ·rw [Bool.not_eq_false,inR_iff];exact hx
 ·rw [Bool.not_eq_true]
  simp only [Bool.or_eq_false_iff,Bool.not_eq_false',inR_iff]
  omega
theorem AxOK.lr {v : Veh} {m L x : Int} (h : AxOK v m L x) : (0 ≤ levL m 0 L x ∧ levL m 0 L x ≤ m) ∧ 0 ≤ levR m 0 L x ∧ levR m 0 L x ≤ m:=by
 have hm:=h.hm;have hL:=h.hL;have hx:=h.hx
 unfold levL levR
 rw [if_pos h.lev,if_pos h.lev]
 exact ⟨cdiv_rng (by omega) (by omega) (by omega),cdiv_rng (by omega) (by omega) (by omega)⟩
theorem AxOK.ex {v : Veh} {m L x : Int} (h : AxOK v m L x) (i : Nat) : 0 ≤ extra v m L x i ∧ extra v m L x i ≤ m:=by
 have hm:=h.hm
 have:=h.lr
 unfold extra
 repeat' split
 all_goals omega
theorem AxOK.ea {v : Veh} {m L x : Int} (h : AxOK v m L x) {i : Nat} (hi : i < v.units.length) : (1 ≤ (su v.units i).mass ∧ (su v.units i).mass ≤ 1048576) ∧ (1 ≤ ((su v.units i).axles.length : Int) ∧ ((su v.units i).axles.length : Int) ≤ 24) ∧ (0 ≤ each v m L x i ∧ each v m L x i ≤ 17825792) ∧ ((su v.units i).mass + extra v m L x i + (su v.units i).axles.length - 1).tdiv (su v.units i).axles.length = each v m L x i:=by
 have hm:=h.hm
 have he:=h.ex i
 obtain ⟨_,h2,h3⟩:=(chkV_ok h.ch).2.1 i hi
 obtain ⟨m1,_,_,m4⟩:=h2
 unfold each
 refine ⟨m1,by omega,?_,up_eq (by omega) (by omega)⟩
 have r:=cdiv_le (n:=(su v.units i).mass + extra v m L x i) (d:=(su v.units i).axles.length) (by omega)
 generalize cdiv ((su v.units i).mass + extra v m L x i) (su v.units i).axles.length = c at *
 have hn : 0 < ((su v.units i).axles.length : Int):=by omega
 generalize ((su v.units i).axles.length : Int) = n at *
 constructor
 ·have : (-1) * n < c * n:=by omega
  have:=lt_mul hn this
  omega
 ·apply Classical.byContradiction
  intro q
  have : 17825793 * n ≤ c * n:=Int.mul_le_mul_of_nonneg_right (by omega) (by omega)
  omega
abbrev byt (s : ByteArray) (i : Nat) : Nat:=(s.get! i).toNat
def gC (c : Nat) : Bool:=(decide (97 ≤ c) && decide (c ≤ 122)) || (decide (48 ≤ c) && decide (c ≤ 57))
theorem gC_lt {c : Nat} (h : gC c = true) : c < 128:=by
 unfold gC at h
 simp only [Bool.or_eq_true,Bool.and_eq_true,decide_eq_true_eq] at h
 omega
theorem dec_lt {s : ByteArray} {p : Nat} (h : byt s p < 128) : Utf8.decode s p = (byt s p,1):=by
 unfold Utf8.decode
 simp only [Nat.add_zero]
 rw [if_pos h]
theorem dec_ge {s : ByteArray} {p : Nat} (h : 128 ≤ byt s p) : 128 ≤ (Utf8.decode s p).1:=by
 unfold Utf8.decode
 simp only [Nat.add_zero]
 rw [if_neg (by unfold byt at h;omega)]
 split
 ·split
  ·assumption
  ·decide
 split
 ·split
  ·rename_i q;simp only [Bool.and_eq_true,decide_eq_true_eq,ge_iff_le] at q;omega
  ·decide
 split
 ·split
  ·rename_i q;simp only [Bool.and_eq_true,decide_eq_true_eq,ge_iff_le] at q;omega
  ·decide
 ·decide
def goodB (s : ByteArray) : Bool:=(List.range s.size).all fun i=>gC (byt s i)
theorem good_iff {s : ByteArray} : goodB s = true ↔ ∀ i,i < s.size → gC (byt s i) = true:=by
 unfold goodB
 rw [List.all_eq_true]
 exact ⟨fun h i hi=>h i (by simpa using hi),fun h i hi=>h i (by simpa using hi)⟩
def naB (s : ByteArray) : Bool:=decide (1 ≤ s.size) && (decide (s.size ≤ 20) && goodB s)
theorem dec_good (s : ByteArray) (p : Nat) : gC (Utf8.decode s p).1 = gC (byt s p) ∧ (gC (byt s p) = true → Utf8.decode s p = (byt s p,1)):=by
 by_cases h : byt s p < 128
 ·rw [dec_lt h];exact ⟨rfl,fun _=>rfl⟩
 ·have h1:=dec_ge (s:=s) (p:=p) (by omega)
  have e1 : gC (Utf8.decode s p).1 = false:=by
   rw [← Bool.not_eq_true];intro q;have:=gC_lt q;omega
  have e2 : gC (byt s p) = false:=by
   rw [← Bool.not_eq_true];intro q;have:=gC_lt q;omega
  rw [e1,e2]
  exact ⟨rfl,fun q=>by cases q⟩
abbrev tx (s : ByteArray) : AV:=.v (.string s)
structure Pce where
 x : Int
 y : Int
 z : Int
 l : Int
 w : Int
 h : Int
 m : Int
structure Eye where
 x : Int
 y : Int
 z : Int
 st : Int
structure Lod where
 name : ByteArray
 ps : List Pce
 es : List Eye
 fr : Int
def dPc : Pce:=⟨0,0,0,0,0,0,0⟩
def dEy : Eye:=⟨0,0,0,0⟩
abbrev cPc (p : Pce) : List AV:=[iv p.x,iv p.y,iv p.z,iv p.l,iv p.w,iv p.h,iv p.m]
abbrev cEy (e : Eye) : List AV:=[iv e.x,iv e.y,iv e.z,iv e.st]
abbrev aPc (l : List Pce) : AV:=.sl 7 dPc cPc l
abbrev aEy (l : List Eye) : AV:=.sl 4 dEy cEy l
abbrev cLd (l : Lod) : List AV:=[tx l.name,aPc l.ps,aEy l.es,iv l.fr]
def pceB (p : Pce) : Bool:=inR p.x (-131072) 131072 && (decide (1 ≤ p.l) && decide (p.l ≤ 131072 - p.x)) && (inR p.y (-131072) 131072 && (decide (1 ≤ p.w) && decide (p.w ≤ 131072 - p.y))) && (inR p.z 0 131072 && (decide (1 ≤ p.h) && decide (p.h ≤ 131072 - p.z))) && inR p.m 0 16777216
def eyeB (e : Eye) : Bool:=inR e.x (-131072) 131072 && inR e.y (-131072) 131072 && inR e.z 0 131072 && inR e.st 0 4194304
theorem fn99 (x lo hi : Int) : Sy.Fn Tryz.prog 99 [iv x,iv lo,iv hi] (bv (inR x lo hi)):=by
 refine Fn_of_W mixed Xt99 rfl ?_
 (refine go0 ?_;try exact tTI)
 exact W_ret ⟨[_],⟨rfl,rfl⟩,by unfold inR;rfl⟩
theorem fn101 (e : Eye) : Sy.Fn Tryz.prog 101 [.agg (cEy e)] (bv (eyeB e)):=by
 refine Fn_of_W mixed Xt101 rfl ?_
 (refine go_cg (fun x1 x2 x3=>fn99 x1 x2 x3) (fun x1 x2 x3=>fn99 x1 x2 x3) ?_;try exact tTI)
 exact W_ret ⟨[_],⟨rfl,rfl⟩,by unfold eyeB;rfl⟩
theorem name_no {s : ByteArray} {p : Nat} (hp : p < s.size) (h : gC (byt s p) = false) : naB s = false:=by
 rw [← Bool.not_eq_true]
 intro q
 unfold naB at q
 simp only [Bool.and_eq_true] at q
 rw [good_iff.1 q.2.2 p hp] at h
 cases h
theorem fn98 (s : ByteArray) : Sy.Fn Tryz.prog 98 [tx s] (bv (naB s)):=by
 refine Fn_of_W mixed Xt98 rfl ?_
 (refine go0 ?_;try exact tTI)
 refine W_cond (by rfl) (fun h=>?_) (fun h=>?_)
 ·have e : naB s = false:=by
   rw [← Bool.not_eq_true]
   unfold naB
   simp only [Bool.and_eq_true,decide_eq_true_eq,Bool.or_eq_true] at h ⊢
   omega
  rw [e]
  (refine go0 ?_;try exact tTI)
  exact W_ret ⟨[_],⟨rfl,rfl⟩,rfl⟩
 simp only [Bool.or_eq_false_iff,decide_eq_false_iff_not] at h
 refine W_skip ?_
 (refine sy1 ?_;try exact tTI)
 repeat (first | refine WK_go ?_ | refine W_seqL ?_ | refine W_seq ?_ | refine W_block ?_)
 refine W_regX [1] ?_
 (refine sCS ?_;try exact tTI)
 refine ⟨[],rfl,rfl,s,rfl,fun b=>?_⟩
 (refine sy1 ?_;try exact tTI)
 (refine go0 ?_;try exact tTI)
 refine W_loopU (fun i : Nat=>[]) (fun i=>[(10,.oth (.si b s i))]) (fun i=>i ≤ s.size ∧ ∀ j,j < i → gC (byt s j) = true) (fun i=>s.size - i) 0 ⟨by omega,fun j hj=>by omega⟩ (by rfl) (by rfl) (fun i hi=>?_)
 obtain ⟨hi,hall⟩:=hi
 (refine sy1 ?_;try exact tTI)
 repeat (first | refine WK_go ?_ | refine W_seqL ?_ | refine W_seq ?_ | refine W_block ?_)
 refine W_regX [0] ?_
 (refine sCS ?_;try exact tTI)
 refine ⟨[],rfl,rfl,10,b,s,i,rfl,rfl,?_⟩
 by_cases hlt : i < s.size
 ·obtain ⟨e1,e2⟩:=dec_good s i
  rw [show outN s i = .tup [bv true,.v (goInt i),.v (.int .i32 (Utf8.decode s i).1)] by unfold outN;rw [if_pos hlt],show advN s i = i + (Utf8.decode s i).2 by unfold advN;rw [if_pos hlt]]
  generalize (Utf8.decode s i).1 = c at *
  (refine sy1 ?_;try exact tTI)
  (refine go0 ?_;try exact tTI)
  refine W_cond (by rfl) (fun _=>?_) (fun hz=>by cases hz)
  (refine go0 ?_;try exact tTI)
  have key : ((decide ((c : Int) < 97) || decide (122 < (c : Int))) && (decide ((c : Int) < 48) || decide (57 < (c : Int)))) = !gC c:=by
   rw [Bool.eq_iff_iff]
   unfold gC
   simp only [Bool.and_eq_true,Bool.or_eq_true,Bool.not_eq_true',Bool.or_eq_false_iff,Bool.and_eq_false_iff,decide_eq_true_eq,decide_eq_false_iff_not]
   omega
  rw [key,e1]
  refine W_cond (by rfl) (fun hb=>?_) (fun hb=>?_)
  ·rw [name_no hlt (by simpa using hb)]
   (refine go0 ?_;try exact tTI)
   exact W_ret ⟨[_],⟨rfl,rfl⟩,rfl⟩
  ·have hg : gC (byt s i) = true:=by simpa using hb
   rw [e2 hg]
   (refine go0 ?_;try exact tTI)
   refine ⟨i + 1,⟨by omega,up_all hall hg⟩,by omega,by rfl,?_⟩
   (refine syE ?_;try exact tTI)
 ·rw [show outN s i = .tup [bv false] by unfold outN;rw [if_neg hlt],show advN s i = i by unfold advN;rw [if_neg hlt]]
  have e : naB s = true:=by
   unfold naB
   rw [good_iff.2 (fun j hj=>hall j (by omega))]
   simp only [Bool.and_true,Bool.and_eq_true,decide_eq_true_eq]
   omega
  rw [e]
  (refine sy1 ?_;try exact tTI)
  (refine go0 ?_;try exact tTI)
  refine W_cond (by rfl) (fun hz=>by cases hz) (fun _=>?_)
  (refine go0 ?_;try exact tTI)
  exact W_ret ⟨[_],⟨rfl,rfl⟩,rfl⟩
def aKB (x l lo : Int) : Bool:=inR x lo 131072 && (decide (1 ≤ l) && decide (l ≤ 131072 - x))
theorem pceB_eq (p : Pce) : pceB p = (aKB p.x p.l (-131072) && aKB p.y p.w (-131072) && aKB p.z p.h 0 && inR p.m 0 16777216):=rfl
theorem ax_key (x l lo : Int) (hl : -131072 ≤ lo) : (!inR x lo 131072 || decide (l < 1) || decide (IntKind.i64.wrap (131072 - x) < l)) = !aKB x l lo:=by
 unfold aKB
 by_cases h1 : inR x lo 131072 = true
 rotate_left
 ·rw [Bool.not_eq_true] at h1;rw [h1];rfl
 have g1:=inR_iff.1 h1
 rw [wrap64 ⟨by omega,by omega⟩,h1,Bool.eq_iff_iff]
 simp only [Bool.not_true,Bool.false_or,Bool.true_and,Bool.or_eq_true,Bool.not_eq_true',Bool.and_eq_false_iff,decide_eq_true_eq,decide_eq_false_iff_not]
 omega
theorem fn100 (p : Pce) : Sy.Fn Tryz.prog 100 [.agg (cPc p)] (bv (pceB p)):=by
 refine Fn_of_W mixed Xt100 rfl ?_
 rw [pceB_eq]
 (refine go0 ?_;try exact tTI)
 refine W_loopU (fun k : Nat=>[(22,iv k)]) (fun k=>[]) (fun k=>k ≤ 3 ∧ (0 < k → aKB p.x p.l (-131072) = true) ∧ (1 < k → aKB p.y p.w (-131072) = true) ∧ (2 < k → aKB p.z p.h 0 = true)) (fun k=>3 - k) 0 ⟨by omega,by omega,by omega,by omega⟩ (by rfl) (by rfl) (fun k hk=>?_)
 obtain ⟨hk,g1,g2,g3⟩:=hk
 (refine sy1 ?_;try exact tTI)
 (refine go0 ?_;try exact tTI)
 refine W_condD (by rfl) (fun h5=>?_) (fun h5=>?_)
 ·obtain rfl | rfl | rfl : k = 0 ∨ k = 1 ∨ k = 2:=by omega
  ·(refine gofcg Nat.mul_one (fun x1 x2 x3=>fn99 x1 x2 x3) (fun x1 x2 x3=>fn99 x1 x2 x3) ?_;try exact tTI)
   rw [ax_key _ _ _ (by omega)]
   refine W_cond (by rfl) (fun hb=>?_) (fun hb=>?_)
   ·rw [show aKB p.x p.l (-131072) = false by simpa using hb]
    (refine go0 ?_;try exact tTI)
    exact W_ret ⟨[_],⟨rfl,rfl⟩,rfl⟩
   ·(refine go0 ?_;try exact tTI)
    refine ⟨1,⟨by omega,fun _=>by simpa using hb,by omega,by omega⟩,by omega,by rfl,?_⟩
    (refine syE ?_;try exact tTI)
  ·rw [show ((1 : Nat) : Int) = 1 from rfl]
   (refine gofcg Nat.mul_one (fun x1 x2 x3=>fn99 x1 x2 x3) (fun x1 x2 x3=>fn99 x1 x2 x3) ?_;try exact tTI)
   rw [ax_key _ _ _ (by omega)]
   refine W_cond (by rfl) (fun hb=>?_) (fun hb=>?_)
   ·rw [show aKB p.y p.w (-131072) = false by simpa using hb]
    simp only [Bool.and_false,Bool.false_and]
    (refine go0 ?_;try exact tTI)
    exact W_ret ⟨[_],⟨rfl,rfl⟩,rfl⟩
   ·(refine go0 ?_;try exact tTI)
    refine ⟨2,⟨by omega,fun _=>g1 (by omega),fun _=>by simpa using hb,by omega⟩,by omega,by rfl,?_⟩
    (refine syE ?_;try exact tTI)
    rfl
  ·rw [show ((2 : Nat) : Int) = 2 from rfl]
   (refine gofcg Nat.mul_one (fun x1 x2 x3=>fn99 x1 x2 x3) (fun x1 x2 x3=>fn99 x1 x2 x3) ?_;try exact tTI)
   rw [ax_key _ _ _ (by omega)]
   refine W_cond (by rfl) (fun hb=>?_) (fun hb=>?_)
   ·rw [show aKB p.z p.h 0 = false by simpa using hb]
    simp only [Bool.and_false,Bool.false_and]
    (refine go0 ?_;try exact tTI)
    exact W_ret ⟨[_],⟨rfl,rfl⟩,rfl⟩
   ·(refine go0 ?_;try exact tTI)
    refine ⟨3,⟨by omega,fun _=>g1 (by omega),fun _=>g2 (by omega),fun _=>by simpa using hb⟩,by omega,by rfl,?_⟩
    (refine syE ?_;try exact tTI)
    rfl
 ·rw [g1 (by omega),g2 (by omega),g3 (by omega)]
  (refine go_c (fun x1 x2 x3=>fn99 x1 x2 x3) ?_;try exact tTI)
  exact W_ret ⟨[_],⟨rfl,rfl⟩,rfl⟩
theorem fn163 (p : Pce) (h : pceB p = true) : Sy.Fn Tryz.prog 163 [.agg (cPc p)] (.agg [iv p.x,iv p.y,iv p.z,iv (p.x + p.l),iv (p.y + p.w),iv (p.z + p.h)]):=by
 refine Fn_of_W mixed Xt163 rfl ?_
 unfold pceB at h
 simp only [Bool.and_eq_true,decide_eq_true_eq,inR_iff] at h
 (refine go0 ?_;try exact tTI)
 exact W_ret ⟨[_],⟨⟨by simp,rfl⟩,rfl⟩,rfl⟩
def pc (l : List Pce) (i : Nat) : Pce:=l.getD i dPc
def plo (p : Pce) : Nat → Int
 |0=>p.x
 |1=>p.y
 |_=>p.z
def psz (p : Pce) : Nat → Int
 |0=>p.l
 |1=>p.w
 |_=>p.h
def mo (p : Pce) (k : Nat) : Int:=p.m * (plo p k + (plo p k + psz p k))
def smM (l : List Pce) : Int:=l.foldl (fun a p=>a + p.m) 0
def smK (l : List Pce) (k : Nat) : Int:=l.foldl (fun a p=>a + mo p k) 0
theorem take_pc {l : List Pce} {i : Nat} (h : i < l.length) : l.take (i + 1) = l.take i ++ [pc l i]:=by
 rw [List.take_succ_eq_append_getElem h]
 simp [pc,h]
theorem smM_succ {l : List Pce} {i : Nat} (h : i < l.length) : smM (l.take (i + 1)) = smM (l.take i) + (pc l i).m:=by
 rw [take_pc h];simp [smM,List.foldl_append]
theorem smK_succ {l : List Pce} {i : Nat} (h : i < l.length) (k : Nat) : smK (l.take (i + 1)) k = smK (l.take i) k + mo (pc l i) k:=by
 rw [take_pc h];simp [smK,List.foldl_append]
theorem pceB_iff {p : Pce} : pceB p = true ↔ (((-131072 ≤ p.x ∧ p.x ≤ 131072) ∧ 1 ≤ p.l ∧ p.l ≤ 131072 - p.x) ∧ ((-131072 ≤ p.y ∧ p.y ≤ 131072) ∧ 1 ≤ p.w ∧ p.w ≤ 131072 - p.y) ∧ (0 ≤ p.z ∧ p.z ≤ 131072) ∧ 1 ≤ p.h ∧ p.h ≤ 131072 - p.z) ∧ 0 ≤ p.m ∧ p.m ≤ 16777216:=by
 unfold pceB
 simp only [Bool.and_eq_true,decide_eq_true_eq,inR_iff]
 omega
theorem mo_rng {p : Pce} (h : pceB p = true) (k : Nat) : (-262144 ≤ plo p k + (plo p k + psz p k) ∧ plo p k + (plo p k + psz p k) ≤ 262144) ∧ -4398046511104 ≤ mo p k ∧ mo p k ≤ 4398046511104:=by
 obtain ⟨⟨h1,h2,h3⟩,h4⟩:=pceB_iff.1 h
 have hr : -262144 ≤ plo p k + (plo p k + psz p k) ∧ plo p k + (plo p k + psz p k) ≤ 262144:=by
  rcases k with _ | _ | k <;> simp only [plo,psz] <;> omega
 refine ⟨hr,?_⟩
 unfold mo
 generalize plo p k + (plo p k + psz p k) = q at *
 constructor
 ·have a:=Int.mul_le_mul_of_nonneg_left hr.1 h4.1
  have b:=Int.mul_le_mul_of_nonneg_right h4.2 (show (0 : Int) ≤ 262144 by omega)
  omega
 ·have a:=Int.mul_le_mul_of_nonneg_left hr.2 h4.1
  have b:=Int.mul_le_mul_of_nonneg_right h4.2 (show (0 : Int) ≤ 262144 by omega)
  omega
theorem sm_rng {l : List Pce} (h : ∀ i,i < l.length → pceB (pc l i) = true) : ∀ n,n ≤ l.length → (0 ≤ smM (l.take n) ∧ smM (l.take n) ≤ n * 16777216) ∧ ∀ k,-(n * 4398046511104) ≤ smK (l.take n) k ∧ smK (l.take n) k ≤ n * 4398046511104
 |0,_=>by simp [smM,smK]
 |n + 1,hn=>by
  obtain ⟨h1,h2⟩:=sm_rng h n (by omega)
  rw [smM_succ (by omega)]
  have hp:=h n (by omega)
  obtain ⟨_,h4⟩:=pceB_iff.1 hp
  refine ⟨by omega,fun k=>?_⟩
  rw [smK_succ (by omega)]
  have:=(mo_rng hp k).2
  have:=h2 k
  omega
abbrev cW (m a b c : Int) : List AV:=[iv m,iv a,iv b,iv c]
def wk (F : Nat → Int) (p : Pce) (k j : Nat) : Int:=if j < k then F j + mo p j else F j
theorem fn44 (l : List Pce) (hl : l.length ≤ 32) (h : ∀ i,i < l.length → pceB (pc l i) = true) : Sy.Fn Tryz.prog 44 [aPc l] (.agg (cW (smM l) (smK l 0) (smK l 1) (smK l 2))):=by
 refine Fn_of_W mixed Xt44 rfl ?_
 (refine go0 ?_;try exact tTI)
 refine W_loopU (fun i : Nat=>[(7,iv i)]) (fun i=>[(0,.cells (cW (smM (l.take i)) (smK (l.take i) 0) (smK (l.take i) 1) (smK (l.take i) 2)))]) (fun i=>i ≤ l.length) (fun i=>l.length - i) 0 (by omega) (by rfl) (by rfl) (fun i hi=>?_)
 (refine sy1 ?_;try exact tTI)
 (refine go0 ?_;try exact tTI)
 refine W_condD (by rfl) (fun h5=>?_) (fun h5=>?_)
 ·have hlt : i < l.length:=by omega
  have hp:=h i hlt
  have hpc : l.getD i dPc = pc l i:=rfl
  obtain ⟨r1,r2⟩:=sm_rng h i (by omega)
  have e1:=smM_succ hlt
  have e2:=smK_succ hlt
  generalize pc l i = p at *
  generalize smM (l.take i) = M at *
  generalize smK (l.take i) = F at *
  obtain ⟨⟨h1,h2,h3⟩,h4⟩:=pceB_iff.1 hp
  (refine gof hpc ?_;try exact tTI)
  refine CallC.inl (Inl_of_W mixed Xt102 rfl (fun vs=>?_))
  have c163:=fn163 p hp
  (refine sy1 ?_;try exact tTI)
  (refine go_c c163 ?_;try exact tTI)
  have q0 : (-262144 ≤ p.x + (p.x + p.l) ∧ p.x + (p.x + p.l) ≤ 262144) ∧ -4398046511104 ≤ p.m * (p.x + (p.x + p.l)) ∧ p.m * (p.x + (p.x + p.l)) ≤ 4398046511104:=mo_rng hp 0
  have q1 : (-262144 ≤ p.y + (p.y + p.w) ∧ p.y + (p.y + p.w) ≤ 262144) ∧ -4398046511104 ≤ p.m * (p.y + (p.y + p.w)) ∧ p.m * (p.y + (p.y + p.w)) ≤ 4398046511104:=mo_rng hp 1
  have q2 : (-262144 ≤ p.z + (p.z + p.h) ∧ p.z + (p.z + p.h) ≤ 262144) ∧ -4398046511104 ≤ p.m * (p.z + (p.z + p.h)) ∧ p.m * (p.z + (p.z + p.h)) ≤ 4398046511104:=mo_rng hp 2
  have f0:=r2 0
  have f1:=r2 1
  have f2:=r2 2
  refine W_loopU (fun k : Nat=>[(17,iv k)]) (fun k=>[(0,.cells (cW (M + p.m) (wk F p k 0) (wk F p k 1) (wk F p k 2)))]) (fun k=>k ≤ 3) (fun k=>3 - k) 0 (by omega) (by rfl) (by rfl) (fun k hk=>?_)
  (refine sy1 ?_;try exact tTI)
  (refine go0 ?_;try exact tTI)
  refine W_condD (by rfl) (fun h6=>?_) (fun h6=>?_)
  ·obtain rfl | rfl | rfl : k = 0 ∨ k = 1 ∨ k = 2:=by omega
   ·rw [show wk F p 0 0 = F 0 from rfl,show wk F p 0 1 = F 1 from rfl,show wk F p 0 2 = F 2 from rfl]
    (refine gof Nat.mul_one ?_;try exact tTI)
    refine ⟨1,by omega,by omega,by rfl,?_⟩
    rw [show wk F p 1 0 = F 0 + p.m * (p.x + (p.x + p.l)) from rfl,show wk F p 1 1 = F 1 from rfl,show wk F p 1 2 = F 2 from rfl]
    (refine syE ?_;try exact tTI)
   ·rw [show ((1 : Nat) : Int) = 1 from rfl,show wk F p 1 0 = F 0 + p.m * (p.x + (p.x + p.l)) from rfl,show wk F p 1 1 = F 1 from rfl,show wk F p 1 2 = F 2 from rfl]
    (refine gof Nat.mul_one ?_;try exact tTI)
    refine ⟨2,by omega,by omega,by rfl,?_⟩
    rw [show wk F p 2 0 = F 0 + p.m * (p.x + (p.x + p.l)) from rfl,show wk F p 2 1 = F 1 + p.m * (p.y + (p.y + p.w)) from rfl,show wk F p 2 2 = F 2 from rfl]
    (refine syE ?_;try exact tTI)
    rfl
   ·rw [show ((2 : Nat) : Int) = 2 from rfl,show wk F p 2 0 = F 0 + p.m * (p.x + (p.x + p.l)) from rfl,show wk F p 2 1 = F 1 + p.m * (p.y + (p.y + p.w)) from rfl,show wk F p 2 2 = F 2 from rfl]
    (refine gof Nat.mul_one ?_;try exact tTI)
    refine ⟨3,by omega,by omega,by rfl,?_⟩
    rw [show wk F p 3 0 = F 0 + p.m * (p.x + (p.x + p.l)) from rfl,show wk F p 3 1 = F 1 + p.m * (p.y + (p.y + p.w)) from rfl,show wk F p 3 2 = F 2 + p.m * (p.z + (p.z + p.h)) from rfl]
    (refine syE ?_;try exact tTI)
    rfl
  ·obtain rfl : k = 3:=by omega
   rw [show wk F p 3 0 = F 0 + mo p 0 from rfl,show wk F p 3 1 = F 1 + mo p 1 from rfl,show wk F p 3 2 = F 2 + mo p 2 from rfl,← e1,← e2,← e2,← e2]
   (refine go0 ?_;try exact tTI)
   refine ⟨[],_,rfl,rfl,?_⟩
   (refine syP ?_;try exact tTI)
   (refine go0 ?_;try exact tTI)
   refine ⟨i + 1,by omega,by omega,by rfl,?_⟩
   (refine syE ?_;try exact tTI)
 ·obtain rfl : i = l.length:=by omega
  rw [List.take_length]
  (refine go0 ?_;try exact tTI)
  exact W_ret ⟨[_],⟨⟨by simp,rfl⟩,rfl⟩,rfl⟩
def gEy (l : List Eye) (i : Nat) : Eye:=l.getD i dEy
structure OkL (l : Lod) : Prop where
 n1 : 1 ≤ l.ps.length
 n2 : l.ps.length ≤ 32
 n3 : l.es.length ≤ 32
 nm : naB l.name = true
 fr : inR l.fr 0 1000 = true
 pc : ∀ i,i < l.ps.length → pceB (pc l.ps i) = true
 ey : ∀ i,i < l.es.length → eyeB (gEy l.es i) = true
 ms : inR (smM l.ps) 1 16777216 = true
open Classical in
noncomputable def chkL (l : Lod) : Int:=if l.ps.length < 1 ∨ 32 < l.ps.length ∨ 32 < l.es.length then 6 else if OkL l then 0 else 2
theorem chkL_many {l : Lod} (h : l.ps.length < 1 ∨ 32 < l.ps.length ∨ 32 < l.es.length) : chkL l = 6:=by unfold chkL;rw [if_pos h]
theorem chkL_bad {l : Lod} (h : ¬ (l.ps.length < 1 ∨ 32 < l.ps.length ∨ 32 < l.es.length)) (h2 : ¬ OkL l) : chkL l = 2:=by unfold chkL;rw [if_neg h,if_neg h2]
theorem chkL_ok {l : Lod} (h : OkL l) : chkL l = 0:=by
 have:=h.n1;have:=h.n2;have:=h.n3
 unfold chkL;rw [if_neg (by omega),if_pos h]
theorem chkL_zero {l : Lod} (h : chkL l = 0) : OkL l:=by
 unfold chkL at h
 split at h
 ·omega
 ·split at h
  ·assumption
  ·omega
theorem fn43 (l : Lod) (h1 : l.ps.length ≤ 140737488355328) (h2 : l.es.length ≤ 140737488355328) : Sy.Fn Tryz.prog 43 [.agg (cLd l)] (iv (chkL l)):=by
 refine Fn_of_W mixed Xt43 rfl ?_
 (refine go0 ?_;try exact tTI)
 refine W_cond (by rfl) (fun h=>?_) (fun h=>?_)
 ·rw [chkL_many (by simp only [Bool.or_eq_true,decide_eq_true_eq] at h;omega)]
  (refine go0 ?_;try exact tTI)
  exact W_ret ⟨[_],⟨rfl,rfl⟩,rfl⟩
 simp only [Bool.or_eq_false_iff,decide_eq_false_iff_not] at h
 have hm : ¬ (l.ps.length < 1 ∨ 32 < l.ps.length ∨ 32 < l.es.length):=by omega
 have c98:=fn98 l.name
 (refine go_cg c98 (fun x1 x2 x3=>fn99 x1 x2 x3) ?_;try exact tTI)
 refine W_cond (by rfl) (fun hb=>?_) (fun hb=>?_)
 ·rw [chkL_bad hm (fun q=>by rw [q.nm,q.fr] at hb;cases hb)]
  (refine go0 ?_;try exact tTI)
  exact W_ret ⟨[_],⟨rfl,rfl⟩,rfl⟩
 simp only [Bool.or_eq_false_iff,Bool.not_eq_false'] at hb
 (refine go0 ?_;try exact tTI)
 refine W_loopU (fun i : Nat=>[(36,iv i)]) (fun i=>[]) (fun i=>i ≤ l.ps.length ∧ ∀ j,j < i → pceB (pc l.ps j) = true) (fun i=>l.ps.length - i) 0 ⟨by omega,fun j hj=>by omega⟩ (by rfl) (by rfl) (fun i hi=>?_)
 obtain ⟨hi,hall⟩:=hi
 (refine sy1 ?_;try exact tTI)
 (refine go0 ?_;try exact tTI)
 refine W_condD (by rfl) (fun h5=>?_) (fun h5=>?_)
 ·have hlt : i < l.ps.length:=by omega
  have hpc : l.ps.getD i dPc = pc l.ps i:=rfl
  have c100:=fn100 (pc l.ps i)
  generalize hp : pc l.ps i = p at *
  (refine gofc hpc c100 ?_;try exact tTI)
  refine W_cond (by rfl) (fun hq=>?_) (fun hq=>?_)
  ·rw [chkL_bad hm (fun q=>by rw [← hp,q.pc i hlt] at hq;cases hq)]
   (refine go0 ?_;try exact tTI)
   exact W_ret ⟨[_],⟨rfl,rfl⟩,rfl⟩
  ·(refine go0 ?_;try exact tTI)
   refine ⟨i + 1,⟨by omega,up_all hall (by rw [hp];simpa using hq)⟩,by omega,by rfl,?_⟩
   (refine syE ?_;try exact tTI)
 have hpc : ∀ j,j < l.ps.length → pceB (pc l.ps j) = true:=fun j hj=>hall j (by omega)
 (refine go0 ?_;try exact tTI)
 refine W_loopU (fun i : Nat=>[(47,iv i)]) (fun i=>[]) (fun i=>i ≤ l.es.length ∧ ∀ j,j < i → eyeB (gEy l.es j) = true) (fun i=>l.es.length - i) 0 ⟨by omega,fun j hj=>by omega⟩ (by rfl) (by rfl) (fun i hi=>?_)
 obtain ⟨hi,hall2⟩:=hi
 (refine sy1 ?_;try exact tTI)
 (refine go0 ?_;try exact tTI)
 refine W_condD (by rfl) (fun h6=>?_) (fun h6=>?_)
 ·have hlt : i < l.es.length:=by omega
  have hey : l.es.getD i dEy = gEy l.es i:=rfl
  have c101:=fn101 (gEy l.es i)
  generalize hp : gEy l.es i = p at *
  (refine gofc hey c101 ?_;try exact tTI)
  refine W_cond (by rfl) (fun hq=>?_) (fun hq=>?_)
  ·rw [chkL_bad hm (fun q=>by rw [← hp,q.ey i hlt] at hq;cases hq)]
   (refine go0 ?_;try exact tTI)
   exact W_ret ⟨[_],⟨rfl,rfl⟩,rfl⟩
  ·(refine go0 ?_;try exact tTI)
   refine ⟨i + 1,⟨by omega,up_all hall2 (by rw [hp];simpa using hq)⟩,by omega,by rfl,?_⟩
   (refine syE ?_;try exact tTI)
 have hey : ∀ j,j < l.es.length → eyeB (gEy l.es j) = true:=fun j hj=>hall2 j (by omega)
 have c44:=fn44 l.ps (by omega) hpc
 (refine go_cc c44 (fun x1 x2 x3=>fn99 x1 x2 x3) ?_;try exact tTI)
 refine W_cond (by rfl) (fun hq=>?_) (fun hq=>?_)
 ·rw [chkL_bad hm (fun q=>by rw [q.ms] at hq;cases hq)]
  (refine go0 ?_;try exact tTI)
  exact W_ret ⟨[_],⟨rfl,rfl⟩,rfl⟩
 ·rw [chkL_ok ⟨by omega,by omega,by omega,hb.1,hb.2,hpc,hey,by simpa using hq⟩]
  (refine go0 ?_;try exact tTI)
  exact W_ret ⟨[_],⟨rfl,rfl⟩,rfl⟩
structure Bx where
 x : Int
 y : Int
 z : Int
 l : Int
 w : Int
 h : Int
 m : Int
def dBx : Bx:=⟨0,0,0,0,0,0,0⟩
structure OBx (b : Bx) : Prop where
 x : 0 ≤ b.x ∧ b.x ≤ 255
 y : 0 ≤ b.y ∧ b.y ≤ 255
 z : 0 ≤ b.z ∧ b.z ≤ 255
 l : 0 ≤ b.l ∧ b.l ≤ 255
 w : 0 ≤ b.w ∧ b.w ≤ 255
 h : 0 ≤ b.h ∧ b.h ≤ 255
 m : 0 ≤ b.m ∧ b.m ≤ 65535
def pOf (b : Bx) : Pce:=⟨20 * b.x,10 * b.y - 1280,10 * b.z,1 + 20 * b.l,1 + 10 * b.w,1 + 10 * b.h,1 + b.m % 8000⟩
def crgS : ByteArray:=⟨#[99,97,114,103,111]⟩
def crg (l : List Bx) : Lod:=⟨crgS,(l.take 4).map pOf,[],300⟩
theorem pOf_ok {b : Bx} (h : OBx b) : pceB (pOf b) = true ∧ 1 ≤ (pOf b).m ∧ (pOf b).m ≤ 8000:=by
 obtain ⟨h1,h2,h3,h4,h5,h6,h7⟩:=h
 rw [pceB_iff]
 unfold pOf
 dsimp only
 omega
theorem crg_pc {l : List Bx} (h : ∀ b ∈ l,OBx b) {i : Nat} (hi : i < (crg l).ps.length) : pceB (pc (crg l).ps i) = true ∧ 1 ≤ (pc (crg l).ps i).m ∧ (pc (crg l).ps i).m ≤ 8000:=by
 have hi' : i < (l.take 4).length:=by simpa [crg] using hi
 have e : pc (crg l).ps i = pOf ((l.take 4)[i]):=by
  simp only [pc,crg,List.getD,List.getElem?_map,List.getElem?_eq_getElem hi',Option.map_some,Option.getD_some]
 rw [e]
 exact pOf_ok (h _ (List.mem_of_mem_take (List.getElem_mem hi')))
theorem crg_sum {l : List Bx} (h : ∀ b ∈ l,OBx b) : ∀ n,n ≤ (crg l).ps.length → (n : Int) ≤ smM ((crg l).ps.take n) ∧ smM ((crg l).ps.take n) ≤ n * 8000
 |0,_=>by simp [smM]
 |n + 1,hn=>by
  have:=crg_sum h n (by omega)
  rw [smM_succ (by omega)]
  have:=crg_pc h (i:=n) (by omega)
  omega
theorem crg_len (l : List Bx) : (crg l).ps.length = min 4 l.length:=by simp [crg]
theorem crg_name : naB crgS = true:=by decide
theorem crg_ok {l : List Bx} (h : ∀ b ∈ l,OBx b) (hl : l ≠ []) : OkL (crg l) ∧ 1 ≤ smM (crg l).ps ∧ smM (crg l).ps ≤ 32000:=by
 have h1 : 0 < l.length:=List.length_pos_iff.2 hl
 have hn:=crg_len l
 have hs:=crg_sum h (crg l).ps.length (Nat.le_refl _)
 rw [List.take_length] at hs
 have hs' : 1 ≤ smM (crg l).ps ∧ smM (crg l).ps ≤ 32000:=by omega
 refine ⟨⟨by omega,by omega,by simp [crg],crg_name,by show inR 300 0 1000 = true;decide,fun i hi=>(crg_pc h hi).1,fun i hi=>by simp [crg] at hi,inR_iff.2 (by omega)⟩,hs'⟩
def carS : ByteArray:=⟨#[99,97,114,114,105,101,114]⟩
def car (fr : Int) : Veh:=⟨carS,[⟨0,3000,0,1000,500,1200,2500,9000,0,0,[⟨0,8000,2⟩,⟨3000,12000,4⟩]⟩,⟨2,6000,0,500,1500,1250,1200,7000,0,0,[⟨5000,12000,8⟩,⟨6000,12000,8⟩,⟨7000,12000,8⟩]⟩],fr,1⟩
theorem car_ok1 : chkV (car 1) = 0:=by decide
theorem car_gr (fr : Int) : Gr (car fr):=⟨by simp [car],fun u hu=>by simp [car] at hu;rcases hu with rfl | rfl <;> simp⟩
noncomputable def masV (l : Lod) : Int:=if chkL l = 0 then smM l.ps else 0
theorem fn12 (l : Lod) (h1 : l.ps.length ≤ 140737488355328) (h2 : l.es.length ≤ 140737488355328) : Sy.Fn Tryz.prog 12 [.agg (cLd l)] (.tup [iv (masV l),iv (chkL l)]):=by
 refine Fn_of_W mixed Xt12 rfl ?_
 have c43:=fn43 l h1 h2
 (refine go_c c43 ?_;try exact tTI)
 refine W_cond (by rfl) (fun h=>?_) (fun h=>?_)
 ·have h0 : ¬ chkL l = 0:=by simpa using h
  rw [show masV l = 0 by unfold masV;rw [if_neg h0]]
  (refine go0 ?_;try exact tTI)
  exact W_ret ⟨[_,_],⟨rfl,rfl,rfl⟩,rfl⟩
 ·have h0 : chkL l = 0:=by simpa using h
  have ok:=chkL_zero h0
  have c44:=fn44 l.ps ok.n2 ok.pc
  rw [show masV l = smM l.ps by unfold masV;rw [if_pos h0],h0]
  (refine go_c c44 ?_;try exact tTI)
  exact W_ret ⟨[_,_],⟨rfl,rfl,rfl⟩,rfl⟩
set_option maxHeartbeats 8000000
abbrev cBx (b : Bx) : List AV:=[.v (.int .u8 b.x),.v (.int .u8 b.y),.v (.int .u8 b.z),.v (.int .u8 b.l),.v (.int .u8 b.w),.v (.int .u8 b.h),.v (.int .u16 b.m)]
abbrev aBx (l : List Bx) : AV:=.sl 7 dBx cBx l
theorem fn13 (l : List Bx) (hl : l.length ≤ 140737488355328) (h : ∀ b ∈ l,OBx b) : Sy.Fn Tryz.prog 13 [aBx l] (.agg (cLd (crg l))):=by
 refine Fn_of_W mixed Xt13 rfl ?_
 (refine go0 ?_;try exact tTI)
 refine W_le (le_adoptC 2 1 148 7 dPc cPc (by omega) _ rfl rfl (by simp)) ?_
 (refine sy1 ?_;try exact tTI)
 refine W_le (le_adoptC 2 2 258 4 dEy cEy (by omega) _ rfl rfl (by simp)) ?_
 (refine sy1 ?_;try exact tTI)
 refine W_loopU (fun i : Nat=>[(4,iv i)]) (fun i=>[(2,.cells [tx crgS,.row 5 i,.row 6 0,iv 300]),(5,.row i 148 7 dPc cPc ((l.take i).map pOf))]) (fun i=>i ≤ 4 ∧ i ≤ l.length) (fun i=>4 - i) 0 ⟨by omega,by omega⟩ (by rfl) (by rfl) (fun i hi=>?_)
 obtain ⟨h4,hi⟩:=hi
 (refine sy1 ?_;try exact tTI)
 (refine go0 ?_;try exact tTI)
 refine W_cond (by rfl) (fun h5=>?_) (fun h5=>?_)
 ·rw [Bool.and_eq_true,decide_eq_true_eq,decide_eq_true_eq] at h5
  have hlt : i < l.length:=by omega
  have hb:=h _ (getD_mem dBx l i hlt)
  have ht : l.take (i + 1) = l.take i ++ [l.getD i dBx]:=by
   rw [List.take_succ_eq_append_getElem hlt]
   simp [List.getD,hlt]
  generalize hq : l.getD i dBx = b at *
  obtain ⟨b1,b2,b3,b4,b5,b6,b7⟩:=hb
  have em : b.m.tmod 8000 = b.m % 8000:=Int.tmod_eq_emod_of_nonneg b7.1
  (refine gof (ad2 hq em) ?_;try exact tTI)
  refine ⟨rfl,trivial,Pce,dPc,cPc,[pOf b],rfl,by omega,fun x _=>⟨rfl,rfl⟩,rfl,?_⟩
  (refine sy1 ?_;try exact tTI)
  refine ⟨rfl,⟨Nat.le_of_ble_eq_true rfl,rfl⟩,trivial,[pOf b],rfl,by simp;omega,by simp;omega,?_⟩
  (refine sy1 ?_;try exact tTI)
  (refine go0 ?_;try exact tTI)
  refine ⟨i + 1,⟨by omega,by omega⟩,by omega,by rfl,?_⟩
  rw [ht,List.map_append]
  (refine syE ?_;try exact tTI)
 ·rw [Bool.and_eq_false_iff,decide_eq_false_iff_not,decide_eq_false_iff_not] at h5
  have e : l.take i = l.take 4:=by
   rcases (show i = 4 ∨ i = l.length by omega) with rfl | rfl
   ·rfl
   ·rw [List.take_length,List.take_of_length_le (by omega)]
  rw [e]
  (refine go0 ?_;try exact tTI)
  refine W_ret ⟨[_],⟨⟨by simp,rfl⟩,rfl⟩,?_⟩
  (refine syP ?_;try exact tTI)
  rfl
def axL0 : List Axl:=[⟨0,8000,2⟩,⟨3000,12000,4⟩]
def axL1 : List Axl:=[⟨5000,12000,8⟩,⟨6000,12000,8⟩,⟨7000,12000,8⟩]
def unL0 : Unt:=⟨0,3000,0,1000,500,1200,2500,9000,0,0,axL0⟩
def unL1 : Unt:=⟨2,6000,0,500,1500,1250,1200,7000,0,0,axL1⟩
theorem fn16 : Sy.Fn Tryz.prog 16 [] (.agg (cV (car 1))):=by
 refine Fn_of_W mixed Xt16 rfl ?_
 repeat (first | refine WK_go ?_ | refine W_seqL ?_ | refine W_seq ?_ | refine W_block ?_)
 refine W_regL ?_
 (refine sy1 ?_;try exact tTI)
 repeat (first | refine WK_go ?_ | refine W_seqL ?_ | refine W_seq ?_ | refine W_block ?_)
 refine W_regP [3,5] (by decide) ?_
 (refine sCP ?_;try exact tTI)
 refine ⟨rfl,trivial,Axl,dA,cA,axL0,rfl,by omega,fun x _=>⟨rfl,rfl⟩,rfl,?_⟩
 refine ⟨_,le_frzR 3 [0] [0] 20 3 0 164 3 dA cA axL0 rfl rfl rfl rfl,?_⟩
 (refine sCP ?_;try exact tTI)
 refine ⟨rfl,trivial,Axl,dA,cA,axL1,rfl,by omega,fun x _=>⟨rfl,rfl⟩,rfl,?_⟩
 refine ⟨_,le_frzR 8 [0,4] [0] 30 24 0 164 3 dA cA axL1 rfl rfl rfl rfl,?_⟩
 (refine sCP ?_;try exact tTI)
 refine ⟨rfl,trivial,Unt,dU,cU,[unL0,unL1],rfl,by omega,fun x _=>⟨rfl,rfl⟩,rfl,?_⟩
 (refine sCP ?_;try exact tTI)
 refine W_ret ⟨[_],⟨⟨by simp,rfl⟩,rfl⟩,?_⟩
 (refine syP ?_;try exact tTI)
 rfl
structure Line (a b c : Pt) : Prop where
 qa : okQ a = true
 qb : okQ b = true
 qc : okQ c = true
 s1 : cmpP c a = 1
 s2 : cmpP b c = -1
 s3 : cmpP b a = 1
 n1 : (b.x == a.x && b.y == a.y) = false
 n2 : (c.x == b.x && c.y == b.y) = false
 x1 : crs a b c = 0
 x2 : crs c b a = 0
def ot (x y z : Pt) : Nat → List Pt
 |0=>[]
 |1=>[x]
 |2=>[x,y]
 |_=>[x,z]
def po (x y : Pt) : Nat → List Pt
 |0=>[x,y]
 |_=>[x]
def os : Nat → Nat
 |0=>0
 |1=>1
 |2=>2
 |_=>4
theorem fn218 (x y z : Pt) (qx : okQ x = true) (qy : okQ y = true) (qz : okQ z = true) (hc : crs x y z = 0) (s : List Pt) (hs : s = [x,y,z]) : FnO Tryz.prog 218 [.clo 249 [] [.fp [aQ s] 0],.clo 216 [] []] 30 2 dQ cPt [x,z]:=by
 refine FnO_of_W mixed Xt218 rfl (fun x _=>rfl) ?_
 have ls : s.length = 3:=by rw [hs];rfl
 have s0 : s.getD 0 dQ = x:=by rw [hs];rfl
 have s1 : s.getD 1 dQ = y:=by rw [hs];rfl
 have s2 : s.getD 2 dQ = z:=by rw [hs];rfl
 have d1:=fn216 x y z qx qy qz
 rw [hc] at d1
 (refine go0 ?_;try exact tTI)
 refine W_rfn (.inl rfl) (fun lp R hR=>Inl_of_W mixed Xt249 rfl (fun vs=>?_))
 (refine sy1 ?_;try exact tTI)
 (refine go0 ?_;try exact tTI)
 refine W_le (le_adoptC 2 0 30 2 dQ cPt (by omega) _ rfl rfl (by simp)) ?_
 (refine sy1 ?_;try exact tTI)
 refine W_loopU (fun i : Nat=>[(7,iv i)]) (fun i=>[(2,.cells [.row 9 (os i)]),(9,.row (os i) 30 2 dQ cPt (ot x y z i))]) (fun i=>i ≤ 3) (fun i=>3 - i) 0 (by omega) (by rfl) (by rfl) (fun i hi=>?_)
 (refine sy1 ?_;try exact tTI)
 (refine gof ls ?_;try exact tTI)
 refine W_condD (by rfl) (fun h5=>?_) (fun h5=>?_)
 ·obtain rfl | rfl | rfl : i = 0 ∨ i = 1 ∨ i = 2:=by omega
  ·rw [show ot x y z 0 = [] from rfl,show os 0 = 0 from rfl]
   (refine gof (ad2 s0 ls) ?_;try exact tTI)
   refine StopC.yld (fun hpc=>⟨trivial,Yl_of_W (k:=4) mixed hR rfl rfl rfl (fun vs2=>?_)⟩) (fun hpc=>absurd (by simp [Sy.pc]) hpc)
   (refine sy1 ?_;try exact tTI)
   (refine go0 ?_;try exact tTI)
   refine ⟨_,rfl,?_⟩
   (refine sy1 ?_;try exact tTI)
   (refine go0 ?_;try exact tTI)
   refine W_loopU (fun k : Nat=>[]) (fun k=>[]) (fun k=>k = 0) (fun k=>1) 0 rfl (by rfl) (by rfl) (fun k hk=>?_)
   (refine sy1 ?_;try exact tTI)
   repeat' (first | refine w1g ?_ | refine w1l ?_ | refine w1q ?_ | refine w1b ?_ | refine w1p ?_ | ((first | refine w1r ?_ | refine w1k ?_ | refine w1e ?_);(refine sy1 ?_;try exact tTI)) | refine an2 ?_ | ((refine CallC.go (bv false) (fun hpc=>absurd hpc (by simp [Sy.pc])) rfl ?_;(refine sy1 ?_;try exact tTI))) | fail)
   refine ⟨fun h=>absurd h (by decide),fun h=>absurd h (by decide),fun h=>absurd h (by decide),fun h=>absurd h (by decide),?_⟩
   refine CallC.go (bv false) (fun hpc=>absurd hpc (by simp [Sy.pc])) rfl ?_
   (refine sy1 ?_;try exact tTI)
   (refine go0 ?_;try exact tTI)
   refine W_cond (by rfl) (fun h=>absurd h (by decide)) (fun _=>?_)
   (refine go0 ?_;try exact tTI)
   refine ⟨rfl,trivial,Pt,dQ,cPt,[x],rfl,by omega,fun x _=>⟨rfl,rfl⟩,rfl,?_⟩
   (refine sy1 ?_;try exact tTI)
   refine ⟨rfl,⟨Nat.le_of_ble_eq_true rfl,rfl⟩,trivial,[x],rfl,by first | omega | (simp;done) | (simp;omega),by first | omega | (simp;done) | (simp;omega),?_⟩
   (refine sy1 ?_;try exact tTI)
   refine ⟨_,_,rfl,rfl,?_⟩
   (refine sy1 ?_;try exact tTI)
   refine W_cond (by rfl) (fun h=>by cases h) (fun _=>?_)
   (refine go0 ?_;try exact tTI)
   refine ⟨1,by omega,by omega,by rfl,?_⟩
   (refine syE ?_;try exact tTI)
   exact ⟨rfl,rfl⟩
  ·rw [show ((1 : Nat) : Int) = 1 from rfl,show ot x y z 1 = [x] from rfl,show os 1 = 1 from rfl]
   (refine gof (ad2 s1 ls) ?_;try exact tTI)
   refine StopC.yld (fun hpc=>⟨trivial,Yl_of_W (k:=4) mixed hR rfl rfl rfl (fun vs2=>?_)⟩) (fun hpc=>absurd (by simp [Sy.pc]) hpc)
   (refine sy1 ?_;try exact tTI)
   (refine go0 ?_;try exact tTI)
   refine ⟨_,rfl,?_⟩
   (refine sy1 ?_;try exact tTI)
   (refine go0 ?_;try exact tTI)
   refine W_loopU (fun k : Nat=>[]) (fun k=>[]) (fun k=>k = 0) (fun k=>1) 0 rfl (by rfl) (by rfl) (fun k hk=>?_)
   (refine sy1 ?_;try exact tTI)
   repeat' (first | refine w1g ?_ | refine w1l ?_ | refine w1q ?_ | refine w1b ?_ | refine w1p ?_ | ((first | refine w1r ?_ | refine w1k ?_ | refine w1e ?_);(refine sy1 ?_;try exact tTI)) | refine an2 ?_ | ((refine CallC.go (bv false) (fun hpc=>absurd hpc (by simp [Sy.pc])) rfl ?_;(refine sy1 ?_;try exact tTI))) | fail)
   refine W_cond (by rfl) (fun h=>absurd h (by decide)) (fun _=>?_)
   (refine go0 ?_;try exact tTI)
   refine ⟨rfl,trivial,Pt,dQ,cPt,[y],rfl,by omega,fun x _=>⟨rfl,rfl⟩,rfl,?_⟩
   (refine sy1 ?_;try exact tTI)
   refine ⟨rfl,⟨Nat.le_of_ble_eq_true rfl,rfl⟩,trivial,[y],rfl,by first | omega | (simp;done) | (simp;omega),by first | omega | (simp;done) | (simp;omega),?_⟩
   (refine sy1 ?_;try exact tTI)
   refine ⟨_,_,rfl,rfl,?_⟩
   (refine sy1 ?_;try exact tTI)
   refine W_cond (by rfl) (fun h=>by cases h) (fun _=>?_)
   (refine go0 ?_;try exact tTI)
   refine ⟨2,by omega,by omega,by rfl,?_⟩
   (refine syE ?_;try exact tTI)
   exact ⟨rfl,rfl,rfl⟩
  ·rw [show ((2 : Nat) : Int) = 2 from rfl,show ot x y z 2 = [x,y] from rfl,show os 2 = 2 from rfl]
   (refine gof (ad2 s2 ls) ?_;try exact tTI)
   refine StopC.yld (fun hpc=>⟨trivial,Yl_of_W (k:=4) mixed hR rfl rfl rfl (fun vs2=>?_)⟩) (fun hpc=>absurd (by simp [Sy.pc]) hpc)
   (refine sy1 ?_;try exact tTI)
   (refine go0 ?_;try exact tTI)
   refine ⟨_,rfl,?_⟩
   (refine sy1 ?_;try exact tTI)
   (refine go0 ?_;try exact tTI)
   refine W_loopU (fun m : Nat=>[]) (fun m=>[(2,.cells [.row 9 (2 + m)]),(9,.row (2 + m) 30 2 dQ cPt (po x y m))]) (fun m=>m ≤ 1) (fun m=>1 - m) 0 (by omega) (by rfl) (by rfl) (fun m hm=>?_)
   (refine sy1 ?_;try exact tTI)
   obtain rfl | rfl : m = 0 ∨ m = 1:=by omega
   ·rw [show po x y 0 = [x,y] from rfl,show 2 + 0 = 2 from rfl]
    (refine go_g d1 ?_;try exact tTI)
    refine W_cond (by rfl) (fun _=>?_) (fun h=>absurd h (by decide))
    (refine go0 ?_;try exact tTI)
    refine ⟨1,by omega,by omega,by rfl,?_⟩
    (refine syE ?_;try exact tTI)
    rfl
   ·rw [show po x y 1 = [x] from rfl,show 2 + 1 = 3 from rfl]
    repeat' (first | refine w1g ?_ | refine w1l ?_ | refine w1q ?_ | refine w1b ?_ | refine w1p ?_ | ((first | refine w1r ?_ | refine w1k ?_ | refine w1e ?_);(refine sy1 ?_;try exact tTI)) | refine an2 ?_ | ((refine CallC.go (bv false) (fun hpc=>absurd hpc (by simp [Sy.pc])) rfl ?_;(refine sy1 ?_;try exact tTI))) | fail)
    refine W_cond (by rfl) (fun h=>absurd h (by decide)) (fun _=>?_)
    (refine go0 ?_;try exact tTI)
    refine ⟨rfl,trivial,Pt,dQ,cPt,[z],rfl,by omega,fun x _=>⟨rfl,rfl⟩,rfl,?_⟩
    (refine sy1 ?_;try exact tTI)
    refine ⟨rfl,⟨Nat.le_of_ble_eq_true rfl,rfl⟩,trivial,[z],rfl,by first | omega | (simp;done) | (simp;omega),by first | omega | (simp;done) | (simp;omega),?_⟩
    (refine sy1 ?_;try exact tTI)
    refine ⟨_,_,rfl,rfl,?_⟩
    (refine sy1 ?_;try exact tTI)
    refine W_cond (by rfl) (fun h=>by cases h) (fun _=>?_)
    (refine go0 ?_;try exact tTI)
    refine ⟨3,by omega,by omega,by rfl,?_⟩
    (refine syE ?_;try exact tTI)
    exact ⟨rfl,rfl,rfl⟩
 ·obtain rfl : i = 3:=by omega
  rw [show ot x y z 3 = [x,z] from rfl,show os 3 = 4 from rfl]
  (refine go0 ?_;try exact tTI)
  refine ⟨_,_,rfl,rfl,⟨_,_,rfl,by rw [hR.st];simp,?_⟩⟩
  rw [hR.pe]
  (refine syN ?_;try exact tTI)
  (refine go0 ?_;try exact tTI)
  exact W_ret ⟨_,_,⟨rfl,rfl⟩,rfl⟩
def sv (s t : List Pt) : Nat → List Pt
 |0=>s
 |_=>t
theorem rest40 (a b c : Pt) (L : Line a b c) (s : List Pt) (hs : s = [a,b,c]) : W Tryz.prog 38 Xn155_18 ⟨[(3,.row 6 1),(4,.clo 216 [] [])],[(6,.row 1 30 2 dQ cPt s)],65⟩ (Sy.Fin [RV.t 2] (aQ [a,c])):=by
 have ls : s.length = 3:=by rw [hs];rfl
 have s0 : s.getD 0 dQ = a:=by rw [hs];rfl
 have s1 : s.getD 1 dQ = b:=by rw [hs];rfl
 have s2 : s.getD 2 dQ = c:=by rw [hs];rfl
 have d1:=fn216 a b c L.qa L.qb L.qc
 rw [L.x1] at d1
 have d2:=fn216 c b a L.qc L.qb L.qa
 rw [L.x2] at d2
 have e1:=fn218 a b c L.qa L.qb L.qc L.x1 s hs
 obtain ⟨s',hs'⟩ : ∃ s',s' = [c,b,a]:=⟨_,rfl⟩
 have e2:=fn218 c b a L.qc L.qb L.qa L.x2 s' hs'
 have hrv : (s.set 0 c).set 2 a = s':=by rw [hs,hs'];rfl
 have ls' : s'.length = 3:=by rw [hs'];rfl
 (refine go0 ?_;try exact tTI)
 refine CallC.inl (Inl_of_W mixed Xt219 rfl (fun vs=>?_))
 (refine sy1 ?_;try exact tTI)
 (refine go0 ?_;try exact tTI)
 refine W_ret ⟨[_],_,⟨rfl,rfl⟩,rfl,?_⟩
 (refine syP ?_;try exact tTI)
 refine CallC.inl (Inl_of_FnO e1 (by rfl) ?_)
 (refine sy1 ?_;try exact tTI)
 (refine go0 ?_;try exact tTI)
 refine CallC.inl (Inl_of_W mixed Xt220 rfl (fun vs2=>?_))
 (refine sy1 ?_;try exact tTI)
 (refine gof ls ?_;try exact tTI)
 refine W_loopU (fun k : Nat=>[(2,iv k),(3,iv (2 - (k : Int)))]) (fun k=>[(6,.row 1 30 2 dQ cPt (sv s s' k))]) (fun k=>k ≤ 1) (fun k=>1 - k) 0 (by omega) (by rfl) (by rfl) (fun k hk=>?_)
 (refine sy1 ?_;try exact tTI)
 obtain rfl | rfl : k = 0 ∨ k = 1:=by omega
 ·rw [show sv s s' 0 = s from rfl,show (2 : Int) - ((0 : Nat) : Int) = 2 from rfl]
  (refine gof (ad3 s0 s2 ls) ?_;try exact tTI)
  refine W_cond (by rfl) (fun _=>?_) (fun h=>absurd h (by decide))
  (refine gof (ad3 s0 s2 ls) ?_;try exact tTI)
  refine ⟨rfl,⟨Nat.le_of_ble_eq_true rfl,rfl⟩,trivial,c,rfl,rfl,?_⟩
  (refine sy1 ?_;try exact tTI)
  refine ⟨by first | omega | (simp;omega) | exact ⟨by omega,by rw [List.length_set];omega⟩,?_⟩
  refine ⟨rfl,⟨Nat.le_of_ble_eq_true rfl,rfl⟩,by rw [List.length_set];omega,a,rfl,rfl,?_⟩
  rw [hrv]
  (refine sy1 ?_;try exact tTI)
  (refine go0 ?_;try exact tTI)
  refine ⟨1,by omega,by omega,by rfl,?_⟩
  (refine syE ?_;try exact tTI)
  exact ⟨rfl,rfl⟩
 ·rw [show sv s s' 1 = s' from rfl,show (2 : Int) - ((1 : Nat) : Int) = 1 from rfl]
  repeat' (first | refine w1g ?_ | refine w1l ?_ | refine w1q ?_ | refine w1b ?_ | refine w1p ?_ | ((first | refine w1r ?_ | refine w1k ?_ | refine w1e ?_);simp (maxSteps:=400000) (disch:=omega) only [push_cast,↓reduceIte,reduceCtorEq,Nat.reduceAdd,Nat.reduceSub,Nat.reduceEqDiff,Nat.reduceLeDiff,Nat.reduceLT,Nat.reduceBEq,Nat.reduceDiv,Nat.reduceMod,Nat.reducePow,Nat.reduceMul,Int.reduceToNat,Int.reduceLT,Int.reduceLE,ls']) | refine an2 ?_ | fail)
  refine W_cond (by rfl) (fun h=>absurd h (by decide)) (fun _=>?_)
  (refine go0 ?_;try exact tTI)
  refine ⟨[],_,rfl,rfl,?_⟩
  (refine syP ?_;try exact tTI)
  (refine go0 ?_;try exact tTI)
  refine CallC.inl (Inl_of_W mixed Xt219 rfl (fun vs=>?_))
  (refine sy1 ?_;try exact tTI)
  (refine go0 ?_;try exact tTI)
  refine W_ret ⟨[_],_,⟨rfl,rfl⟩,rfl,?_⟩
  (refine syP ?_;try exact tTI)
  refine CallC.inl (Inl_of_FnO e2 (by rfl) ?_)
  (refine sy1 ?_;try exact tTI)
  (refine go0 ?_;try exact tTI)
  rw [show List.take ((0 : Int) + 1 + 1 - 1).toNat [a,c] = [a] from rfl,show List.take ((0 : Int) + 1 + 1 - 1).toNat [c,a] = [c] from rfl]
  refine ⟨rfl,⟨Nat.le_of_ble_eq_true rfl,rfl⟩,trivial,[c],rfl,by first | omega | (simp;done) | (simp;omega),by first | omega | (simp;done) | (simp;omega),?_⟩
  (refine sy1 ?_;try exact tTI)
  exact W_ret ⟨[_],⟨rfl,rfl⟩,rfl⟩
def sr (l s : List Pt) : Nat → List Pt
 |0=>l
 |1=>l
 |_=>s
theorem fn155 (a b c : Pt) (L : Line a b c) (l : List Pt) (hl : l = [a,c,b]) : Sy.Fn Tryz.prog 155 [aQ l] (aQ [a,c]):=by
 refine Fn_of_W mixed Xt155 rfl ?_
 have ll : l.length = 3:=by rw [hl];rfl
 obtain ⟨s,hs⟩ : ∃ s,s = [a,b,c]:=⟨_,rfl⟩
 have ls : s.length = 3:=by rw [hs];rfl
 have l0 : l.getD 0 dQ = a:=by rw [hl];rfl
 have l1 : l.getD 1 dQ = c:=by rw [hl];rfl
 have l2 : l.getD 2 dQ = b:=by rw [hl];rfl
 have s0 : s.getD 0 dQ = a:=by rw [hs];rfl
 have s1 : s.getD 1 dQ = b:=by rw [hs];rfl
 have s2 : s.getD 2 dQ = c:=by rw [hs];rfl
 have hsw : (l.set 2 c).set 1 b = s:=by rw [hl,hs];rfl
 have e10 : ((1 : Int) - 1).toNat = 0:=rfl
 have e21 : ((2 : Int) - 1).toNat = 1:=rfl
 have dT : decide True = true:=rfl
 have n1:=L.n1
 have n2:=L.n2
 have k1:=fn214 c a
 rw [L.s1] at k1
 have k2:=fn214 b c
 rw [L.s2] at k2
 have k3:=fn214 b a
 rw [L.s3] at k3
 (refine go0 ?_;try exact tTI)
 refine CallC.inl (Inl_of_W mixed Xt212 rfl (fun vs=>?_))
 (refine sy1 ?_;try exact tTI)
 (refine go0 ?_;try exact tTI)
 refine W_cond (by rfl) (fun h=>by cases h) (fun _=>?_)
 (refine go0 ?_;try exact tTI)
 refine ⟨rfl,trivial,Pt,dQ,cPt,[],rfl,by omega,fun x _=>⟨rfl,rfl⟩,rfl,?_⟩
 (refine sy1 ?_;try exact tTI)
 refine ⟨rfl,⟨Nat.le_of_ble_eq_true rfl,rfl⟩,trivial,l,rfl,by first | omega | (simp;omega),by first | omega | (simp;omega),?_⟩
 (refine sy1 ?_;try exact tTI)
 (refine go0 ?_;try exact tTI)
 refine W_ret ⟨[_],_,⟨rfl,rfl⟩,rfl,?_⟩
 (refine syP ?_;try exact tTI)
 (refine go0 ?_;try exact tTI)
 refine CallC.inl (Inl_of_W mixed Xt213 rfl (fun vs=>?_))
 obtain ⟨n73,_,c247⟩:=fn247 l.length (by omega)
 have w3 : IntKind.u64.wrap (l.length : Int) = l.length:=by rw [IntKind.wrap_u64];omega
 (refine sy1 ?_;try exact tTI)
 (refine gofc w3 c247 ?_;try exact tTI)
 refine CallC.inl (Inl_of_W mixed Xt248 rfl (fun vs2=>?_))
 (refine sy1 ?_;try exact tTI)
 (refine go0 ?_;try exact tTI)
 refine W_loopU (fun k : Nat=>[]) (fun k=>[]) (fun k=>k = 0) (fun k=>1) 0 rfl (by rfl) (by rfl) (fun k hk=>?_)
 (refine sy1 ?_;try exact tTI)
 (refine go0 ?_;try exact tTI)
 refine W_condD (by rfl) (fun h5=>?_) (fun h5=>absurd h5 (by omega))
 (refine go0 ?_;try exact tTI)
 refine CallC.inl (Inl_of_W mixed Xt286 rfl (fun vs3=>?_))
 (refine sy1 ?_;try exact tTI)
 (refine go0 ?_;try exact tTI)
 refine W_loopU (fun k : Nat=>[(8,iv ((k : Int) + 1))]) (fun k=>[(6,.row 1 30 2 dQ cPt (sr l s k))]) (fun k=>k ≤ 2) (fun k=>2 - k) 0 (by omega) (by rfl) (by rfl) (fun k hk=>?_)
 (refine sy1 ?_;try exact tTI)
 (refine go0 ?_;try exact tTI)
 refine W_condD (by rfl) (fun h6=>?_) (fun h6=>?_)
 ·obtain rfl | rfl : k = 0 ∨ k = 1:=by omega
  ·rw [show sr l s 0 = l from rfl,show ((0 : Nat) : Int) + 1 = 1 from rfl]
   (refine go0 ?_;try exact tTI)
   refine W_loopU (fun m : Nat=>[]) (fun k=>[]) (fun m=>m = 0) (fun m=>1) 0 rfl (by rfl) (by rfl) (fun m hm=>?_)
   (refine sy1 ?_;try exact tTI)
   (refine gofg (ad5 l0 l1 ll e10 dT) k1 ?_;try exact tTI)
   refine W_cond (by rfl) (fun h=>absurd h (by decide)) (fun _=>?_)
   (refine go0 ?_;try exact tTI)
   refine ⟨1,by omega,by omega,by rfl,?_⟩
   (refine syE ?_;try exact tTI)
   exact ⟨rfl,rfl⟩
  ·rw [show sr l s 1 = l from rfl,show ((1 : Nat) : Int) + 1 = 2 from rfl]
   (refine go0 ?_;try exact tTI)
   refine W_loopU (fun m : Nat=>[(9,iv (2 - (m : Int)))]) (fun m=>[(6,.row 1 30 2 dQ cPt (sr l s (m + 1)))]) (fun m=>m ≤ 1) (fun m=>1 - m) 0 (by omega) (by rfl) (by rfl) (fun m hm=>?_)
   (refine sy1 ?_;try exact tTI)
   obtain rfl | rfl : m = 0 ∨ m = 1:=by omega
   ·rw [show sr l s (0 + 1) = l from rfl,show (2 : Int) - ((0 : Nat) : Int) = 2 from rfl]
    (refine gofg (ad5 l1 l2 ll e21 dT) k2 ?_;try exact tTI)
    refine W_cond (by rfl) (fun _=>?_) (fun h=>by cases h)
    (refine gof (ad5 l1 l2 ll e21 dT) ?_;try exact tTI)
    refine ⟨rfl,⟨Nat.le_of_ble_eq_true rfl,rfl⟩,trivial,c,rfl,rfl,?_⟩
    (refine syf e21 ?_;try exact tTI)
    refine ⟨⟨by omega,by rw [List.length_set];omega⟩,?_⟩
    refine ⟨rfl,⟨Nat.le_of_ble_eq_true rfl,rfl⟩,by rw [List.length_set];omega,b,rfl,rfl,?_⟩
    rw [hsw]
    (refine syf e21 ?_;try exact tTI)
    (refine gof e21 ?_;try exact tTI)
    refine ⟨1,by omega,by omega,by rfl,?_⟩
    (refine syE ?_;try exact tTI)
    exact ⟨rfl,rfl⟩
   ·rw [show sr l s (1 + 1) = s from rfl,show (2 : Int) - ((1 : Nat) : Int) = 1 from rfl]
    (refine gofg (ad5 s0 s1 ls e10 dT) k3 ?_;try exact tTI)
    refine W_cond (by rfl) (fun h=>absurd h (by decide)) (fun _=>?_)
    (refine go0 ?_;try exact tTI)
    refine ⟨2,by omega,by omega,by rfl,?_⟩
    (refine syE ?_;try exact tTI)
    exact ⟨rfl,rfl⟩
 ·obtain rfl : k = 2:=by omega
  rw [show sr l s 2 = s from rfl]
  (refine go0 ?_;try exact tTI)
  refine ⟨[],_,rfl,rfl,?_⟩
  (refine syP ?_;try exact tTI)
  (refine go0 ?_;try exact tTI)
  refine W_ret ⟨[],_,rfl,rfl,?_⟩
  (refine syP ?_;try exact tTI)
  (refine go0 ?_;try exact tTI)
  refine ⟨[],_,rfl,rfl,?_⟩
  (refine syP ?_;try exact tTI)
  (refine go0 ?_;try exact tTI)
  refine CallC.inl (Inl_of_W mixed Xt215 rfl (fun vs4=>?_))
  (refine syf ls ?_;try exact tTI)
  (refine gof ls ?_;try exact tTI)
  refine W_cond (by rfl) (fun h=>absurd h (by decide)) (fun _=>?_)
  (refine go0 ?_;try exact tTI)
  refine W_loopU (fun k : Nat=>[(3,iv ((k : Int) + 1))]) (fun k=>[]) (fun k=>k ≤ 2) (fun k=>2 - k) 0 (by omega) (by rfl) (by rfl) (fun k hk=>?_)
  (refine sy1 ?_;try exact tTI)
  (refine gof ls ?_;try exact tTI)
  refine W_condD (by rfl) (fun h7=>?_) (fun h7=>?_)
  ·obtain rfl | rfl : k = 0 ∨ k = 1:=by omega
   ·rw [show ((0 : Nat) : Int) + 1 = 1 from rfl]
    (refine gof (ad5 s0 s1 ls e10 n1) ?_;try exact tTI)
    refine W_cond (by rfl) (fun h=>by cases h) (fun _=>?_)
    (refine go0 ?_;try exact tTI)
    refine ⟨1,by omega,by omega,by rfl,?_⟩
    (refine syE ?_;try exact tTI)
    rfl
   ·rw [show ((1 : Nat) : Int) + 1 = 2 from rfl]
    (refine gof (ad5 s1 s2 ls e21 n2) ?_;try exact tTI)
    refine W_cond (by rfl) (fun h=>by cases h) (fun _=>?_)
    (refine go0 ?_;try exact tTI)
    refine ⟨2,by omega,by omega,by rfl,?_⟩
    (refine syE ?_;try exact tTI)
    rfl
  ·(refine go0 ?_;try exact tTI)
   refine W_ret ⟨[_],_,⟨rfl,rfl⟩,rfl,?_⟩
   (refine syP ?_;try exact tTI)
   (refine gof ls ?_;try exact tTI)
   refine W_cond (by rfl) (fun h=>absurd h (by decide)) (fun _=>?_)
   refine W_skip ?_
   (refine sy1 ?_;try exact tTI)
   repeat (first | refine WK_go ?_ | refine W_seqL ?_ | refine W_seq ?_ | refine W_block ?_)
   refine W_regL ?_
   (refine sy1 ?_;try exact tTI)
   exact rest40 a b c L s hs
theorem fn87 (a b c : Pt) (L : Line a b c) (l : List Pt) (hl : l = [a,c,b]) : Sy.Fn Tryz.prog 87 [aQ l] (.tup [aQ [a,c],iv 0]):=by
 refine Fn_of_W mixed Xt87 rfl ?_
 have c32:=fn32 [l] (by simp) (fun i hi=>by
  obtain rfl : i = 0:=by simpa using hi
  rw [hl]
  simp [L.qa,L.qb,L.qc])
 have c155:=fn155 a b c L l hl
 have ll : l.length = 3:=by rw [hl];rfl
 (refine go0 ?_;try exact tTI)
 refine ⟨rfl,trivial,(List Pt),[],cQ1,[l],rfl,by omega,fun x _=>⟨rfl,rfl⟩,rfl,?_⟩
 (refine sy1 ?_;try exact tTI)
 (refine go_g c32 ?_;try exact tTI)
 refine W_cond (by rfl) (fun h=>by cases h) (fun _=>?_)
 (refine gof ll ?_;try exact tTI)
 refine W_cond (by rfl) (fun h=>absurd h (by decide)) (fun _=>?_)
 (refine go_c c155 ?_;try exact tTI)
 exact W_ret ⟨[_,_],⟨rfl,rfl,rfl⟩,rfl⟩
theorem line3 : Line ⟨1,0⟩ ⟨2,0⟩ ⟨3,0⟩:=⟨by decide,by decide,by decide,by decide,by decide,by decide,by decide,by decide,by decide,by decide⟩
theorem strt0 : Strt (car 1) unL0 unL1 ⟨0,0⟩ ⟨-3000,0⟩ ⟨-9000,0⟩ ⟨-100,0⟩:={
 T:={
  vu:=rfl
  ch:=car_ok1
  k0:=⟨by decide,by decide,by decide⟩
  k1:=⟨by decide,by decide,by decide⟩
  b0:=rfl
  b1:=rfl
  q0:=by decide
  q1:=by decide
  q2:=by decide
  n1:=by decide
  n2:=by decide
  l1:=⟨by decide,by decide,by decide,by decide,by decide,by decide +kernel,by decide +kernel⟩
  l2:=⟨by decide,by decide,by decide,by decide,by decide,by decide +kernel,by decide +kernel⟩
  e1:=by unfold plP;congr 1 <;> decide +kernel
  e2:=by unfold plP;congr 1 <;> decide +kernel }
 gr:=car_gr 1
 qb:=by decide
 len:=by decide
 pl:=⟨by decide,by decide,by decide,by decide,by decide,by decide +kernel,by decide +kernel⟩
 e1:=by unfold plP;congr 1 <;> decide +kernel
 pj:=⟨by decide,by decide,by decide,by decide,by decide,by decide +kernel,by decide +kernel⟩
 e2:=by unfold plP;congr 1 <;> decide +kernel }
def bx4 : Bx:=⟨0,0,0,0,0,0,4⟩
theorem obx4 : OBx bx4:=⟨by decide,by decide,by decide,by decide,by decide,by decide,by decide⟩
theorem ex_lv : levE 1000 0 3 1 = 0 ∧ levL 1000 0 3 1 = 667 ∧ levR 1000 0 3 1 = 334:=by decide +kernel
theorem fn134 : Sy.Fn Tryz.prog 134 [] (bv true):=by
 refine Fn_of_W mixed Xt134 rfl ?_
 have c41:=fn41 (car 1) unL0 unL1 ⟨0,0⟩ ⟨-3000,0⟩ ⟨-9000,0⟩ ⟨-100,0⟩ strt0
 have hb : ∀ b ∈ [bx4],OBx b:=fun b hb=>by rw [List.mem_singleton] at hb;rw [hb];exact obx4
 have c7:=fn13 [bx4] (by simp) hb
 have hok:=(crg_ok hb (by simp)).1
 have c6:=fn12 (crg [bx4]) (by have:=hok.n2;omega) (by have:=hok.n3;omega)
 rw [show masV (crg [bx4]) = 5 by unfold masV;rw [if_pos (chkL_ok hok)];decide,chkL_ok hok] at c6
 have c49:=fn49 1000 0 3 1
 rw [ex_lv.1,ex_lv.2.1,ex_lv.2.2] at c49
 have c87:=fn87 ⟨1,0⟩ ⟨2,0⟩ ⟨3,0⟩ line3 _ rfl
 repeat (first | refine WK_go ?_ | refine W_seqL ?_ | refine W_seq ?_ | refine W_block ?_)
 refine W_regL ?_
 (refine sy1 ?_;try exact tTI)
 repeat (first | refine WK_go ?_ | refine W_seqL ?_ | refine W_seq ?_ | refine W_block ?_)
 refine W_regL ?_
 (refine sy1 ?_;try exact tTI)
 refine CallC.now fn16 ?_
 (refine sy1 ?_;try exact tTI)
 refine CallC.now c41 ?_
 (refine sy1 ?_;try exact tTI)
 repeat (first | refine WK_go ?_ | refine W_seqL ?_ | refine W_seq ?_ | refine W_block ?_)
 refine W_regP [2] (by decide) ?_
 (refine sCP ?_;try exact tTI)
 refine ⟨rfl,trivial,Bx,dBx,cBx,[bx4],rfl,by omega,fun x _=>⟨rfl,rfl⟩,rfl,?_⟩
 refine ⟨_,le_frzR 19 [1,2] [8] 20 12 0 146 7 dBx cBx [bx4] rfl rfl rfl rfl,?_⟩
 (refine sCP ?_;try exact tTI)
 refine CallC.now c7 ?_
 (refine sy1 ?_;try exact tTI)
 refine CallC.now c6 ?_
 (refine sy1 ?_;try exact tTI)
 repeat (first | refine WK_go ?_ | refine W_seqL ?_ | refine W_seq ?_ | refine W_block ?_)
 refine W_regL ?_
 (refine sy1 ?_;try exact tTI)
 refine CallC.now c49 ?_
 (refine sy1 ?_;try exact tTI)
 repeat (first | refine WK_go ?_ | refine W_seqL ?_ | refine W_seq ?_ | refine W_block ?_)
 refine W_regP [4] (by decide) ?_
 (refine sCP ?_;try exact tTI)
 refine ⟨rfl,trivial,Pt,dQ,cPt,[⟨1,0⟩,⟨3,0⟩,⟨2,0⟩],rfl,by omega,fun x _=>⟨rfl,rfl⟩,rfl,?_⟩
 refine ⟨_,le_frzR 33 [1,2,3,4,5,6,7] [8] 45 38 0 30 2 dQ cPt [⟨1,0⟩,⟨3,0⟩,⟨2,0⟩] rfl rfl rfl rfl,?_⟩
 (refine sCP ?_;try exact tTI)
 refine CallC.now c87 ?_
 (refine sy1 ?_;try exact tTI)
 (refine go0 ?_;try exact tTI)
 refine W_ret ⟨[_],⟨rfl,rfl⟩,?_⟩
 rfl
end Go.Proofs.YtgiedelaebdooaaGreat
