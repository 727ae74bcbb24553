/- Part 6 of the proof of: If a track is right, each of its points is near the guide, whatever the input. -/
import Derived.Test.YtmekmmgiamjfoaaGreatP5
import Derived.Lib.Mul64
import Derived.Laws.Bits64b
namespace Go.Proofs.YtmekmmgiamjfoaaGreat
open Go Sy
set_option maxRecDepth 100000
set_option maxHeartbeats 4000000
set_option linter.unusedVariables false
set_option linter.unusedSimpArgs false
theorem mixed : Tryz.prog.follows .mixedOrders = true:=by kernel_rfl
abbrev iv (n : Int) : AV:=.v (.int .i64 n)
abbrev bv (b : Bool) : AV:=.v (.bool b)
theorem shrC (a : Int) (s : Nat) (b : Int) (h : (2 : Int) ^ min s IntKind.u64.bits = b) (hb : 0 ≤ b) : a.fdiv (2 ^ min s IntKind.u64.bits) = a / b:=by
 rw [h,Int.fdiv_eq_ediv_of_nonneg _ hb]
theorem shr32 (a : Int) : a.fdiv (2 ^ min 32 IntKind.u64.bits) = a / 4294967296:=shrC a 32 _ (by decide) (by decide)
theorem shr16 (a : Int) : a.fdiv (2 ^ min 16 IntKind.u64.bits) = a / 65536:=shrC a 16 _ (by decide) (by decide)
theorem shr8 (a : Int) : a.fdiv (2 ^ min 8 IntKind.u64.bits) = a / 256:=shrC a 8 _ (by decide) (by decide)
abbrev uw (n : Int) : AV:=.v (.int .u64 n)
def Bits (x : Int) (n : Nat) : Prop:=2 ^ n ≤ 2 * x ∧ x < 2 ^ n
theorem Bits.up {x : Int} {n : Nat} (k : Nat) (h : Bits (x / 2 ^ k) n) : Bits x (n + k):=by
 obtain ⟨h1,h2⟩:=h
 have hk : (0 : Int) < 2 ^ k:=Int.pow_pos (by omega)
 have hm:=Int.mul_ediv_add_emod x (2 ^ k)
 have hr:=Int.emod_lt_of_pos x hk
 have hr0:=Int.emod_nonneg x (Int.ne_of_gt hk)
 have e : (2 : Int) ^ (n + k) = 2 ^ n * 2 ^ k:=Int.pow_add ..
 have m1:=Int.mul_le_mul_of_nonneg_right h1 (Int.le_of_lt hk)
 have m2:=Int.mul_le_mul_of_nonneg_right (show x / 2 ^ k + 1 ≤ 2 ^ n by omega) (Int.le_of_lt hk)
 unfold Bits
 rw [e]
 rw [Int.add_mul] at m2
 rw [Int.mul_assoc,Int.mul_comm (x / 2 ^ k)] at m1
 rw [Int.mul_comm (x / 2 ^ k)] at m2
 constructor <;> omega
def lo (b x : Int) : Int:=if b ≤ x then x / b else x
def nb (b : Int) (k : Nat) (x : Int) : Nat:=if b ≤ x then k else 0
theorem Bits.lo {b x : Int} {n : Nat} (k : Nat) (hb : (2 : Int) ^ k = b) (h : Bits (lo b x) n) : Bits x (n + nb b k x):=by
 unfold Go.Proofs.YtmekmmgiamjfoaaGreat.lo at h
 unfold nb
 subst hb
 split
 ·rename_i h1;rw [if_pos h1] at h;exact h.up k
 ·rename_i h1;rw [if_neg h1] at h;exact h
def tab : ByteArray:=⟨#[0,1,2,2,3,3,3,3,4,4,4,4,4,4,4,4,5,5,5,5,5,5,5,5,5,5,5,5,5,5,5,5,6,6,6,6,6,6,6,6,6,6,6,6,6,6,6,6,6,6,6,6,6,6,6,6,6,6,6,6,6,6,6,6,7,7,7,7,7,7,7,7,7,7,7,7,7,7,7,7,7,7,7,7,7,7,7,7,7,7,7,7,7,7,7,7,7,7,7,7,7,7,7,7,7,7,7,7,7,7,7,7,7,7,7,7,7,7,7,7,7,7,7,7,7,7,7,7,8,8,8,8,8,8,8,8,8,8,8,8,8,8,8,8,8,8,8,8,8,8,8,8,8,8,8,8,8,8,8,8,8,8,8,8,8,8,8,8,8,8,8,8,8,8,8,8,8,8,8,8,8,8,8,8,8,8,8,8,8,8,8,8,8,8,8,8,8,8,8,8,8,8,8,8,8,8,8,8,8,8,8,8,8,8,8,8,8,8,8,8,8,8,8,8,8,8,8,8,8,8,8,8,8,8,8,8,8,8,8,8,8,8,8,8,8,8,8,8,8,8,8,8,8,8,8,8]⟩
def tabOK (i : Nat) : Bool:=decide (byteAt tab i ≤ 8) && (decide (i = 0) || (decide (2 ^ byteAt tab i ≤ 2 * i) && decide (i < 2 ^ byteAt tab i)))
theorem tab_all : (List.range 256).all tabOK = true:=by decide +kernel
theorem tab_size : tab.size = 256:=by decide +kernel
theorem tab_bits {u : Int} (h0 : 0 ≤ u) (h : u < 256) : byteAt tab u.toNat ≤ 8 ∧ (0 < u → Bits u (byteAt tab u.toNat)):=by
 have h1:=List.all_eq_true.1 tab_all u.toNat (by simp;omega)
 unfold tabOK at h1
 simp only [Bool.and_eq_true,Bool.or_eq_true,decide_eq_true_eq] at h1
 refine ⟨h1.1,fun h2=>?_⟩
 have h3:=h1.2.resolve_left (by omega)
 unfold Bits
 have e : ((u.toNat : Nat) : Int) = u:=by omega
 generalize byteAt tab u.toNat = n at *
 have e2 : ((2 ^ n : Nat) : Int) = (2 : Int) ^ n:=Int.natCast_pow 2 n
 omega
theorem fn238 (x : Int) (h0 : 0 ≤ x) (hx : x < 18446744073709551616) : ∃ n : Nat,n ≤ 64 ∧ (0 < x → Bits x n) ∧ Sy.Fn Tryz.prog 238 [uw x] (iv n):=by
 generalize hy : lo 4294967296 x = y
 have hyb : 0 ≤ y ∧ y < 4294967296:=by subst hy;unfold lo;split <;> omega
 generalize hm : nb 4294967296 32 x = m
 have hmb : m ≤ 32:=by subst hm;unfold nb;split <;> omega
 generalize hz : lo 65536 y = z
 have hzb : 0 ≤ z ∧ z < 65536:=by subst hz;unfold lo;split <;> omega
 generalize hk : m + nb 65536 16 y = k
 have hkb : k ≤ 48:=by subst hk;unfold nb;split <;> omega
 generalize hu : lo 256 z = u
 have hub : 0 ≤ u ∧ u < 256:=by subst hu;unfold lo;split <;> omega
 generalize hj : k + nb 256 8 z = j
 have hjb : j ≤ 56:=by subst hj;unfold nb;split <;> omega
 have ht:=tab_bits hub.1 hub.2
 have hpos : 0 < x → 0 < u:=fun h=>by
  have h1 : 0 < y:=by subst hy;unfold lo;split <;> omega
  have h2 : 0 < z:=by subst hz;unfold lo;split <;> omega
  subst hu;unfold lo;split <;> omega
 refine ⟨j + byteAt tab u.toNat,by omega,fun h=>?_,?_⟩
 ·have h1:=ht.2 (hpos h)
  rw [← hu] at h1
  have h2:=h1.lo 8 (by decide)
  rw [hu,← hz] at h2
  have h3:=h2.lo 16 (by decide)
  rw [hz,← hy] at h3
  have h4:=h3.lo 32 (by decide)
  rw [hy] at h4
  rw [← hj,← hk,← hm]
  rw [show nb 4294967296 32 x + nb 65536 16 y + nb 256 8 z + byteAt tab u.toNat = byteAt tab u.toNat + nb 256 8 z + nb 65536 16 y + nb 4294967296 32 x by omega]
  exact h4
 refine Fn_of_W mixed Xt238 rfl ?_
 (refine go0 ?_;try exact tTI)
 refine W_meet [(0,uw y),(2,iv m)] [] ?_ ?_
 ·subst hy hm
  unfold lo nb
  refine W_condD (by rfl) (fun h=>?_) (fun h=>?_)
  ·rw [if_pos h,if_pos h]
   repeat' (first | refine w1g ?_ | refine w1l ?_ | refine w1q ?_ | refine w1b ?_ | refine w1p ?_ | ((first | refine w1r ?_ | refine w1k ?_ | refine w1e ?_);simp (maxSteps:=400000) (disch:=omega) only [push_cast,↓reduceIte,reduceCtorEq,Nat.reduceAdd,Nat.reduceSub,Nat.reduceEqDiff,Nat.reduceLeDiff,Nat.reduceLT,Nat.reduceBEq,Nat.reduceDiv,Nat.reduceMod,Nat.reducePow,Nat.reduceMul,Int.reduceToNat,Int.reduceLT,Int.reduceLE,shr32]) | refine an2 ?_ | fail)
   refine ⟨by rfl,?_⟩
   (refine syE ?_;try exact tTI)
   all_goals omega
  ·rw [if_neg h,if_neg h]
   (refine go0 ?_;try exact tTI)
   rfl
 (refine sy1 ?_;try exact tTI)
 (refine go0 ?_;try exact tTI)
 refine W_meet [(0,uw z),(2,iv k)] [] ?_ ?_
 ·subst hz hk
  unfold lo nb
  refine W_condD (by rfl) (fun h=>?_) (fun h=>?_)
  ·rw [if_pos h,if_pos h]
   repeat' (first | refine w1g ?_ | refine w1l ?_ | refine w1q ?_ | refine w1b ?_ | refine w1p ?_ | ((first | refine w1r ?_ | refine w1k ?_ | refine w1e ?_);simp (maxSteps:=400000) (disch:=omega) only [push_cast,↓reduceIte,reduceCtorEq,Nat.reduceAdd,Nat.reduceSub,Nat.reduceEqDiff,Nat.reduceLeDiff,Nat.reduceLT,Nat.reduceBEq,Nat.reduceDiv,Nat.reduceMod,Nat.reducePow,Nat.reduceMul,Int.reduceToNat,Int.reduceLT,Int.reduceLE,shr16]) | refine an2 ?_ | fail)
   refine ⟨by rfl,?_⟩
   (refine syE ?_;try exact tTI)
   all_goals omega
  ·rw [if_neg h,if_neg h]
   (refine go0 ?_;try exact tTI)
   rfl
 (refine sy1 ?_;try exact tTI)
 (refine go0 ?_;try exact tTI)
 refine W_meet [(0,uw u),(2,iv j)] [] ?_ ?_
 ·subst hu hj
  unfold lo nb
  refine W_condD (by rfl) (fun h=>?_) (fun h=>?_)
  ·rw [if_pos h,if_pos h]
   repeat' (first | refine w1g ?_ | refine w1l ?_ | refine w1q ?_ | refine w1b ?_ | refine w1p ?_ | ((first | refine w1r ?_ | refine w1k ?_ | refine w1e ?_);simp (maxSteps:=400000) (disch:=omega) only [push_cast,↓reduceIte,reduceCtorEq,Nat.reduceAdd,Nat.reduceSub,Nat.reduceEqDiff,Nat.reduceLeDiff,Nat.reduceLT,Nat.reduceBEq,Nat.reduceDiv,Nat.reduceMod,Nat.reducePow,Nat.reduceMul,Int.reduceToNat,Int.reduceLT,Int.reduceLE,shr8]) | refine an2 ?_ | fail)
   refine ⟨by rfl,?_⟩
   (refine syE ?_;try exact tTI)
   all_goals omega
  ·rw [if_neg h,if_neg h]
   (refine go0 ?_;try exact tTI)
   rfl
 (refine sy1 ?_;try exact tTI)
 have hw : IntKind.u8.wrap u = u:=by rw [IntKind.wrap_u8];omega
 refine W_seq (W_regL ?_)
 rw [show ({ data:=_ } : ByteArray) = tab from rfl]
 simp (maxSteps:=400000) (disch:=omega) only [push_cast,↓reduceIte,reduceCtorEq,Nat.reduceAdd,Nat.reduceSub,Nat.reduceEqDiff,Nat.reduceLeDiff,Nat.reduceLT,Nat.reduceBEq,Nat.reduceDiv,Nat.reduceMod,Nat.reducePow,Nat.reduceMul,Int.reduceToNat,Int.reduceLT,Int.reduceLE,hw,tab_size]
 refine ⟨⟨hub.1,hub.2⟩,?_⟩
 exact W_ret ⟨[_],⟨rfl,rfl⟩,rfl⟩
structure Half (Y u d : Int) : Prop where
 y : 9223372036854775808 ≤ Y ∧ Y < 18446744073709551616
 u : 0 ≤ u ∧ u < Y
 d : 0 ≤ d ∧ d < 4294967296
def Half.q (Y u d : Int) : Int:=(u * 4294967296 + d) / Y
theorem split_Y (Y q : Int) : q * Y = (q * (Y / 4294967296)) * 4294967296 + q * (Y % 4294967296):=by
 have h : Y = Y / 4294967296 * 4294967296 + Y % 4294967296:=by omega
 rw [Int.mul_assoc,← Int.mul_add,← h]
theorem Half.no {Y u d q r : Int} (h : Half Y u d) (e : q * (Y / 4294967296) + r = u) (hc : q * (Y % 4294967296) ≤ 4294967296 * r + d) : q ≤ Half.q Y u d:=by
 unfold Half.q
 have:=h.y
 rw [Int.le_ediv_iff_mul_le (by omega),split_Y Y q]
 omega
theorem Half.yes {Y u d q r : Int} (h : Half Y u d) (e : q * (Y / 4294967296) + r = u) (hc : 4294967296 * r + d < q * (Y % 4294967296)) : Half.q Y u d < q:=by
 unfold Half.q
 have:=h.y
 rw [Int.ediv_lt_iff_lt_mul (by omega),split_Y Y q]
 omega
theorem Half.lt {Y u d : Int} (h : Half Y u d) : 0 ≤ Half.q Y u d ∧ Half.q Y u d < 4294967296:=by
 have h1:=h.y;have h2:=h.u;have h3:=h.d
 unfold Half.q
 constructor
 ·exact Int.ediv_nonneg (by omega) (by omega)
 ·rw [Int.ediv_lt_iff_lt_mul (by omega)]
  omega
theorem Half.start {Y u d : Int} (h : Half Y u d) : u / (Y / 4294967296) * (Y / 4294967296) + u % (Y / 4294967296) = u ∧ Half.q Y u d ≤ u / (Y / 4294967296) ∧ u / (Y / 4294967296) ≤ 4294967297 ∧ 0 ≤ u % (Y / 4294967296) ∧ u % (Y / 4294967296) < 4294967296:=by
 have h1:=h.y;have h2:=h.u;have h3:=h.d
 have hlt:=h.lt
 have hp : 0 < Y / 4294967296:=by omega
 have e:=Int.ediv_mul_add_emod u (Y / 4294967296)
 have e1:=Int.emod_nonneg u (Int.ne_of_gt hp)
 have e2:=Int.emod_lt_of_pos u hp
 refine ⟨e,?_,?_,e1,by omega⟩
 ·rw [Int.le_ediv_iff_mul_le hp]
  have h4 : Half.q Y u d * Y ≤ u * 4294967296 + d:=Int.ediv_mul_le _ (by omega)
  rw [split_Y Y (Half.q Y u d)] at h4
  have h5 : 0 ≤ Half.q Y u d * (Y % 4294967296):=Int.mul_nonneg hlt.1 (by omega)
  omega
 ·have h4 : u / (Y / 4294967296) < 4294967298:=by
   rw [Int.ediv_lt_iff_lt_mul hp]
   omega
  omega
theorem Half.step {Y u d q r : Int} (h : Half Y u d) (e : q * (Y / 4294967296) + r = u) (hq : Half.q Y u d ≤ q) (hc : 4294967296 ≤ q ∨ 4294967296 * r + d < q * (Y % 4294967296)) : (q - 1) * (Y / 4294967296) + (r + Y / 4294967296) = u ∧ Half.q Y u d ≤ q - 1:=by
 have hlt:=h.lt
 refine ⟨by rw [Int.sub_mul,Int.one_mul];omega,?_⟩
 rcases hc with hc | hc
 ·omega
 ·have:=h.yes e hc;omega
theorem Half.break {Y u d q r : Int} (h : Half Y u d) (e : q * (Y / 4294967296) + r = u) (hq : Half.q Y u d ≤ q) (hb : q ≤ 4294967296) (hr : 4294967296 ≤ r) : q = Half.q Y u d:=by
 have h1:=h.y;have h2:=h.u;have h3:=h.d
 have hlt:=h.lt
 have m : q * (Y % 4294967296) ≤ 4294967296 * 4294967295:=Int.mul_le_mul hb (by omega) (by omega) (by omega)
 have:=h.no e (by omega)
 omega
def Half.r (Y u d : Int) : Int:=u * 4294967296 + d - Half.q Y u d * Y
def ab (a : Int) : Int:=max a (0 - a)
structure FrOK (a b d : Int) : Prop where
 ha : -9223372036854775807 ≤ a ∧ a ≤ 9223372036854775807
 hb : -9223372036854775807 ≤ b ∧ b ≤ 9223372036854775807
 hd : 0 < d ∧ d ≤ 9223372036854775807
 hq : ab a * ab b < d * 4611686018427387904
def inR (x lo hi : Int) : Bool:=decide (lo ≤ x) && decide (x ≤ hi)
theorem inR_iff {x lo hi : Int} : inR x lo hi = true ↔ lo ≤ x ∧ x ≤ hi:=by simp [inR]
structure Pt where
 x : Int
 y : Int
abbrev cPt (p : Pt) : List AV:=[iv p.x,iv p.y]
def idxF {α : Type} (p : α → Bool) : List α → Int → Int
 |[],_=>-1
 |x :: r,i=>if p x then i else idxF p r (i + 1)
theorem idxF_at {α : Type} (p : α → Bool) (d : α) : ∀ (l : List α) (i : Nat) (k : Int),i < l.length → (∀ j,j < i → p (l.getD j d) = false) → p (l.getD i d) = true → idxF p l k = k + i
 |[],i,k,h,_,_=>by simp at h
 |x :: r,0,k,_,_,h=>by simp at h;simp [idxF,h]
 |x :: r,i + 1,k,h,hj,hp=>by
  have h0 : p x = false:=by simpa using hj 0 (by omega)
  have:=idxF_at p d r i (k + 1) (by simpa using h) (fun j hlt=>by simpa using hj (j + 1) (by omega)) (by simpa using hp)
  simp only [idxF,h0,Bool.false_eq_true,if_false,this]
  omega
theorem idxF_none {α : Type} (p : α → Bool) (d : α) : ∀ (l : List α) (k : Int),(∀ j,j < l.length → p (l.getD j d) = false) → idxF p l k = -1
 |[],k,_=>rfl
 |x :: r,k,h=>by
  have h0 : p x = false:=by simpa using h 0 (by simp)
  have:=idxF_none p d r (k + 1) (fun j hlt=>by simpa using h (j + 1) (by simpa using hlt))
  simp only [idxF,h0,Bool.false_eq_true,if_false,this]
theorem idxF_any {α : Type} (p : α → Bool) : ∀ (l : List α) (k : Int),0 ≤ k → decide (0 ≤ idxF p l k) = l.any p
 |[],k,_=>by simp [idxF]
 |x :: r,k,h=>by
  simp only [idxF,List.any_cons]
  by_cases hp : p x = true
  ·simp [hp,h]
  ·simp only [hp]
   simpa using idxF_any p r (k + 1) (by omega)
theorem up_all {p : Nat → Prop} {i : Nat} (h : ∀ j,j < i → p j) (hi : p i) : ∀ j,j < i + 1 → p j:=fun j hj=>by
 rcases Nat.lt_succ_iff_lt_or_eq.1 hj with hj | rfl
 ·exact h j hj
 ·exact hi
def cI (n : Int) : List AV:=[iv n]
theorem nI (n : Int) : nth (cI n) 0 = iv n:=rfl
theorem lI (n : Int) : (cI n).length = 1:=rfl
attribute [push_cast] nI lI
theorem getD_mem {α : Type} (d : α) (l : List α) (i : Nat) (h : i < l.length) : l.getD i d ∈ l:=by
 simp only [List.getD,List.getElem?_eq_getElem h,Option.getD_some];exact List.getElem_mem h
def dQ : Pt:=⟨0,0⟩
abbrev aQ (l : List Pt) : AV:=.sl 2 dQ cPt l
def okQ (p : Pt) : Bool:=inR p.x (-16777216) 16777216 && inR p.y (-16777216) 16777216
theorem fn155 (x lo hi : Int) : Sy.Fn Tryz.prog 155 [iv x,iv lo,iv hi] (bv (inR x lo hi)):=by
 refine Fn_of_W mixed Xt155 rfl ?_
 (refine go0 ?_;try exact tTI)
 exact W_ret ⟨[_],⟨rfl,rfl⟩,rfl⟩
theorem all_no {l : List Pt} {i : Nat} (hi : i < l.length) (h : okQ (l.getD i dQ) = false) : l.all okQ = false:=by
 rw [← Bool.not_eq_true,List.all_eq_true]
 intro q
 rw [q _ (getD_mem dQ l i hi)] at h;cases h
theorem all_yes {l : List Pt} (h : ∀ i,i < l.length → okQ (l.getD i dQ) = true) : l.all okQ = true:=by
 rw [List.all_eq_true]
 intro x hx
 obtain ⟨i,hi,rfl⟩:=List.mem_iff_getElem.1 hx
 have:=h i hi
 simpa [List.getD,List.getElem?_eq_getElem hi] using this
theorem fn126 (l : List Pt) (hl : l.length ≤ 1000000) : Sy.Fn Tryz.prog 126 [aQ l] (bv (l.all okQ)):=by
 refine Fn_of_W mixed Xt126 rfl ?_
 (refine go0 ?_;try exact tTI)
 refine W_loopU (fun i : Nat=>[(7,iv i)]) (fun i=>[]) (fun i=>i ≤ l.length ∧ ∀ j,j < i → okQ (l.getD j dQ) = true) (fun i=>l.length - i) 0 ⟨by omega,fun j hj=>by omega⟩ (by rfl) (by rfl) (fun i hi=>?_)
 obtain ⟨hi,hall⟩:=hi
 (refine sy1 ?_;try exact tTI)
 (refine go0 ?_;try exact tTI)
 refine W_condD (by rfl) (fun h5=>?_) (fun h5=>?_)
 ·have hlt : i < l.length:=by omega
  generalize hp : l.getD i dQ = p at *
  (refine gofcg hp (fun x1 x2 x3=>fn155 x1 x2 x3) (fun x1 x2 x3=>fn155 x1 x2 x3) ?_;try exact tTI)
  have key : (!inR p.x (-16777216) 16777216 || !inR p.y (-16777216) 16777216) = !okQ p:=by unfold okQ;rw [Bool.not_and]
  rw [key]
  refine W_cond (by rfl) (fun hb=>?_) (fun hb=>?_)
  ·rw [all_no hlt (by rw [hp];simpa using hb)]
   (refine go0 ?_;try exact tTI)
   exact W_ret ⟨[_],⟨rfl,rfl⟩,rfl⟩
  ·(refine go0 ?_;try exact tTI)
   refine ⟨i + 1,⟨by omega,up_all hall (by rw [hp];simpa using hb)⟩,by omega,by rfl,?_⟩
   (refine syE ?_;try exact tTI)
 ·rw [all_yes (fun j hj=>hall j (by omega))]
  (refine go0 ?_;try exact tTI)
  exact W_ret ⟨[_],⟨rfl,rfl⟩,rfl⟩
theorem fn75 (p : Pt) : Sy.Fn Tryz.prog 75 [.agg (cPt p)] (iv (if okQ p = true then 0 else 2)):=by
 refine Fn_of_W mixed Xt75 rfl ?_
 have c126:=fn126 [p] (by simp)
 rw [show [p].all okQ = okQ p by simp] at c126
 (refine go0 ?_;try exact tTI)
 refine ⟨rfl,trivial,Pt,dQ,cPt,[p],rfl,by omega,fun x _=>⟨rfl,rfl⟩,rfl,?_⟩
 (refine sy1 ?_;try exact tTI)
 (refine go_g c126 ?_;try exact tTI)
 refine W_cond (by rfl) (fun h=>?_) (fun h=>?_)
 ·rw [if_neg (by simpa using h)]
  (refine go0 ?_;try exact tTI)
  exact W_ret ⟨[_],⟨rfl,rfl⟩,rfl⟩
 ·rw [if_pos (by simpa using h)]
  (refine go0 ?_;try exact tTI)
  exact W_ret ⟨[_],⟨rfl,rfl⟩,rfl⟩
def nr (n d : Int) : Int:=if d - (n - n / d * d) ≤ n - n / d * d then n / d + 1 else n / d
def rB (k : Nat) : Int:=2 ^ (62 - 2 * k)
def rS (n : Int) : Nat → Int × Int
 |0=>(n,0)
 |k + 1=>if (rS n k).2 + rB k ≤ (rS n k).1 then ((rS n k).1 - ((rS n k).2 + rB k),(rS n k).2 / 2 + rB k) else ((rS n k).1,(rS n k).2 / 2)
def rt (n : Int) : Int:=(rS n 32).2
theorem rB_rng (k : Nat) : 1 ≤ rB k ∧ rB k ≤ 4611686018427387904:=by
 unfold rB
 have h1 : (2 : Int) ^ (62 - 2 * k) = ((2 ^ (62 - 2 * k) : Nat) : Int):=by simp
 rw [h1]
 have h2:=Nat.pow_le_pow_right (show 0 < 2 by omega) (show 62 - 2 * k ≤ 62 by omega)
 have h3:=Nat.pow_pos (n:=62 - 2 * k) (show 0 < 2 by omega)
 have h4 : (2 : Nat) ^ 62 = 4611686018427387904:=by decide
 omega
theorem rS_rng {n : Int} (hn : 0 ≤ n) : ∀ k,(0 ≤ (rS n k).1 ∧ (rS n k).1 ≤ n) ∧ 0 ≤ (rS n k).2 ∧ (rS n k).2 ≤ 9223372036854775808
 |0=>by simp only [rS];omega
 |k + 1=>by
  obtain ⟨h1,h2⟩:=rS_rng hn k
  have hb:=rB_rng k
  simp only [rS]
  split
  ·dsimp only;omega
  ·dsimp only;omega
theorem rS_succ (n : Int) (k : Nat) : rS n (k + 1) = if (rS n k).2 + rB k ≤ (rS n k).1 then ((rS n k).1 - ((rS n k).2 + rB k),(rS n k).2 / 2 + rB k) else ((rS n k).1,(rS n k).2 / 2):=rfl
theorem rt_rng {n : Int} (hn : 0 ≤ n) : 0 ≤ rt n ∧ rt n ≤ 4611686018427387905:=by
 have h:=(rS_rng hn 31).2
 have hb : rB 31 = 1:=by decide
 have e : rS n 32 = _:=rS_succ n 31
 unfold rt
 rw [e,hb]
 generalize rS n 31 = q at *
 split
 ·dsimp only;omega
 ·dsimp only;omega
theorem shl_rB {k : Nat} (hk : k < 32) : IntKind.u64.wrap (1 * 2 ^ (min (62 - 2 * (k : Int)).toNat IntKind.u64.bits)) = rB k:=by
 have h1 : min (62 - 2 * (k : Int)).toNat IntKind.u64.bits = 62 - 2 * k:=by
  rw [show IntKind.u64.bits = 64 from rfl];omega
 have h2:=rB_rng k
 rw [h1,Int.one_mul]
 unfold rB at h2 ⊢
 rw [IntKind.wrap_u64]
 exact Int.emod_eq_of_lt (by omega) (by omega)
theorem fn184 (n : Int) (hn : 0 ≤ n ∧ n ≤ 9223372036854775807) : Sy.Fn Tryz.prog 184 [iv n] (iv (rt n)):=by
 refine Fn_of_W mixed Xt184 rfl ?_
 have hwn : IntKind.u64.wrap n = n:=by rw [IntKind.wrap_u64];omega
 (refine gof hwn ?_;try exact tTI)
 refine W_loopU (fun k : Nat=>[(3,.v (.int .u64 (rS n k).1)),(4,.v (.int .u64 (rS n k).2)),(9,iv k)]) (fun k=>[]) (fun k=>k ≤ 32) (fun k=>32 - k) 0 (by omega) (by rfl) (by rfl) (fun k hk=>?_)
 (refine sy1 ?_;try exact tTI)
 (refine go0 ?_;try exact tTI)
 refine W_condD (by rfl) (fun h5=>?_) (fun h5=>?_)
 ·have hlt : k < 32:=by omega
  have hb:=rB_rng k
  have hs:=shl_rB hlt
  obtain ⟨h1,h2⟩:=rS_rng hn.1 k
  have e1 : rS n (k + 1) = if (rS n k).2 + rB k ≤ (rS n k).1 then ((rS n k).1 - ((rS n k).2 + rB k),(rS n k).2 / 2 + rB k) else ((rS n k).1,(rS n k).2 / 2):=rfl
  generalize (rS n k).1 = l at *
  generalize (rS n k).2 = r at *
  have w1 : IntKind.u64.wrap (r + rB k) = r + rB k:=by rw [IntKind.wrap_u64];omega
  have w3 : r.fdiv (2 ^ (min 1 IntKind.u64.bits)) = r / 2:=by
   rw [show (2 : Int) ^ (min 1 IntKind.u64.bits) = 2 from rfl]
   exact Int.fdiv_eq_ediv_of_nonneg _ (by omega)
  have w4 : IntKind.u64.wrap (r / 2 + rB k) = r / 2 + rB k:=by rw [IntKind.wrap_u64];omega
  (refine gof (ad2 hs w1) ?_;try exact tTI)
  refine W_condD (by rfl) (fun h6=>?_) (fun h6=>?_)
  ·have w2 : IntKind.u64.wrap (l - (r + rB k)) = l - (r + rB k):=by rw [IntKind.wrap_u64];omega
   rw [if_pos h6] at e1
   (refine gof (ad4 w1 w2 w3 w4) ?_;try exact tTI)
   refine ⟨k + 1,by omega,by omega,by rfl,?_⟩
   rw [e1]
   (refine syE ?_;try exact tTI)
  ·rw [if_neg h6] at e1
   (refine gof w3 ?_;try exact tTI)
   refine ⟨k + 1,by omega,by omega,by rfl,?_⟩
   rw [e1]
   (refine syE ?_;try exact tTI)
 ·obtain rfl : k = 32:=by omega
  have hr:=rt_rng hn.1
  have e : (rS n 32).2 = rt n:=rfl
  rw [e]
  generalize (rS n 32).1 = l
  generalize rt n = r at *
  (refine go0 ?_;try exact tTI)
  exact W_ret ⟨[_],⟨rfl,rfl⟩,rfl⟩
theorem abs_mul {a b A B : Int} (ha : -A ≤ a ∧ a ≤ A) (hb : -B ≤ b ∧ b ≤ B) : -(A * B) ≤ a * b ∧ a * b ≤ A * B:=by
 have hA : 0 ≤ A:=by omega
 have hB : 0 ≤ B:=by omega
 have h1 : (a * b).natAbs ≤ (A * B).natAbs:=by
  rw [Int.natAbs_mul,Int.natAbs_mul]
  exact Nat.mul_le_mul (by omega) (by omega)
 have h2 : 0 ≤ A * B:=Int.mul_nonneg hA hB
 omega
def plR (a h : Pt) : Int:=rt (1024 * ((h.x - a.x) * (h.x - a.x) + (h.y - a.y) * (h.y - a.y)))
def plP (a h : Pt) (x y : Int) : Pt:=⟨a.x + nr (32 * ((h.x - a.x) * x - (h.y - a.y) * y)) (plR a h),a.y + nr (32 * ((h.y - a.y) * x + (h.x - a.x) * y)) (plR a h)⟩
structure PlOK (a h : Pt) (x y : Int) : Prop where
 ka : okQ a = true
 kh : okQ h = true
 kx : inR x (-16777216) 16777216 = true
 ky : inR y (-16777216) 16777216 = true
 kz : ¬ (h.x - a.x = 0 ∧ h.y - a.y = 0)
 kr : 0 < plR a h
 kp : okQ (plP a h x y) = true
theorem okQ_iff {p : Pt} : okQ p = true ↔ (-16777216 ≤ p.x ∧ p.x ≤ 16777216) ∧ -16777216 ≤ p.y ∧ p.y ≤ 16777216:=by
 unfold okQ
 rw [Bool.and_eq_true,inR_iff,inR_iff]
def cmp3 (x y : Int) : Int:=if x < y then -1 else if y < x then 1 else 0
theorem fn239 (x : Int) : Sy.Fn Tryz.prog 239 [iv x] (bv false):=by
 refine Fn_of_W mixed Xt239 rfl ?_
 (refine go0 ?_;try exact tTI)
 exact W_ret ⟨[_],⟨rfl,rfl⟩,by simp;rfl⟩
theorem fn215 (x y : Int) : Sy.Fn Tryz.prog 215 [iv x,iv y] (iv (cmp3 x y)):=by
 refine Fn_of_W mixed Xt215 rfl ?_
 (refine go_c (fun x1=>fn239 x1) ?_;try exact tTI)
 refine W_cond (by rfl) (fun h=>by cases h) (fun _=>?_)
 (refine go0 ?_;try exact tTI)
 refine W_cond (by rfl) (fun h=>by cases h) (fun _=>?_)
 unfold cmp3
 (refine go0 ?_;try exact tTI)
 refine W_condD (by rfl) (fun h=>?_) (fun h=>?_)
 ·rw [if_pos h]
  (refine go0 ?_;try exact tTI)
  exact W_ret ⟨[_],⟨rfl,rfl⟩,rfl⟩
 rw [if_neg h]
 (refine go0 ?_;try exact tTI)
 refine W_condD (by rfl) (fun h=>?_) (fun h=>?_)
 ·rw [if_pos h]
  (refine go0 ?_;try exact tTI)
  exact W_ret ⟨[_],⟨rfl,rfl⟩,rfl⟩
 rw [if_neg h]
 (refine go0 ?_;try exact tTI)
 exact W_ret ⟨[_],⟨rfl,rfl⟩,rfl⟩
def cmpP (a b : Pt) : Int:=if a.x = b.x then cmp3 a.y b.y else cmp3 a.x b.x
theorem fn187 (a b : Pt) : Sy.Fn Tryz.prog 187 [.agg (cPt a),.agg (cPt b)] (iv (cmpP a b)):=by
 refine Fn_of_W mixed Xt187 rfl ?_
 unfold cmpP
 (refine go0 ?_;try exact tTI)
 refine W_cond (by rfl) (fun h=>?_) (fun h=>?_)
 ·rw [if_neg (by simpa using h)]
  (refine go_c (fun x1 x2=>fn215 x1 x2) ?_;try exact tTI)
  exact W_ret ⟨[_],⟨rfl,rfl⟩,rfl⟩
 ·rw [if_pos (by simpa using h)]
  (refine go_c (fun x1 x2=>fn215 x1 x2) ?_;try exact tTI)
  exact W_ret ⟨[_],⟨rfl,rfl⟩,rfl⟩
def crs (a b c : Pt) : Int:=(b.x - a.x) * (c.y - a.y) - (b.y - a.y) * (c.x - a.x)
theorem fn190 (a b c : Pt) (ha : okQ a = true) (hb : okQ b = true) (hc : okQ c = true) : Sy.Fn Tryz.prog 190 [.agg (cPt a),.agg (cPt b),.agg (cPt c)] (iv (crs a b c)):=by
 refine Fn_of_W mixed Xt190 rfl ?_
 have h1:=okQ_iff.1 ha
 have h2:=okQ_iff.1 hb
 have h3:=okQ_iff.1 hc
 have m1:=abs_mul (show -33554432 ≤ b.x - a.x ∧ b.x - a.x ≤ 33554432 by omega) (show -33554432 ≤ c.y - a.y ∧ c.y - a.y ≤ 33554432 by omega)
 have m2:=abs_mul (show -33554432 ≤ b.y - a.y ∧ b.y - a.y ≤ 33554432 by omega) (show -33554432 ≤ c.x - a.x ∧ c.x - a.x ≤ 33554432 by omega)
 unfold crs
 (refine go0 ?_;try exact tTI)
 exact W_ret ⟨[_],⟨rfl,rfl⟩,rfl⟩
theorem fn189 (a b c : Pt) (ha : okQ a = true) (hb : okQ b = true) (hc : okQ c = true) : Sy.Fn Tryz.prog 189 [.agg (cPt a),.agg (cPt b),.agg (cPt c)] (bv (decide (crs a b c ≤ 0))):=by
 refine Fn_of_W mixed Xt189 rfl ?_
 (refine go_c (fn190 a b c ha hb hc) ?_;try exact tTI)
 exact W_ret ⟨[_],⟨rfl,rfl⟩,rfl⟩
theorem fn214 (x : Int) (h : 0 ≤ x ∧ x < 18446744073709551616) : ∃ n : Nat,n ≤ 64 ∧ Sy.Fn Tryz.prog 214 [uw x] (iv n):=by
 obtain ⟨n,h1,_,h2⟩:=fn238 x h.1 h.2
 refine ⟨n,h1,?_⟩
 refine Fn_of_W mixed Xt214 rfl ?_
 (refine go0 ?_;try exact tTI)
 refine W_cond (by rfl) (fun h=>by cases h) (fun _=>?_)
 (refine go_c h2 ?_;try exact tTI)
 exact W_ret ⟨[_],⟨rfl,rfl⟩,rfl⟩
abbrev cQ1 (l : List Pt) : List AV:=[aQ l]
theorem fn153 (ll : List (List Pt)) (hl : ll.length ≤ 1000000) (h : ∀ i,i < ll.length → (ll.getD i []).length ≤ 256 ∧ (ll.getD i []).all okQ = true) : Sy.Fn Tryz.prog 153 [.sl 1 [] cQ1 ll] (iv 0):=by
 refine Fn_of_W mixed Xt153 rfl ?_
 (refine go0 ?_;try exact tTI)
 refine W_loopU (fun i : Nat=>[(9,iv i)]) (fun i=>[]) (fun i=>i ≤ ll.length) (fun i=>ll.length - i) 0 (by omega) (by rfl) (by rfl) (fun i hi=>?_)
 (refine sy1 ?_;try exact tTI)
 (refine go0 ?_;try exact tTI)
 refine W_condD (by rfl) (fun h5=>?_) (fun h5=>?_)
 ·obtain ⟨h1,_⟩:=h i (by omega)
  obtain ⟨l,hq⟩ : ∃ l,ll.getD i [] = l:=⟨_,rfl⟩
  rw [hq] at h1
  (refine gof hq ?_;try exact tTI)
  refine W_condD (by rfl) (fun h6=>absurd h6 (by omega)) (fun h6=>?_)
  (refine go0 ?_;try exact tTI)
  refine ⟨i + 1,by omega,by omega,by rfl,?_⟩
  (refine syE ?_;try exact tTI)
 (refine go0 ?_;try exact tTI)
 refine W_loopU (fun i : Nat=>[(19,iv i)]) (fun i=>[]) (fun i=>i ≤ ll.length) (fun i=>ll.length - i) 0 (by omega) (by rfl) (by rfl) (fun i hi=>?_)
 (refine sy1 ?_;try exact tTI)
 (refine go0 ?_;try exact tTI)
 refine W_condD (by rfl) (fun h6=>?_) (fun h6=>?_)
 ·obtain ⟨h1,h2⟩:=h i (by omega)
  obtain ⟨l,hq⟩ : ∃ l,ll.getD i [] = l:=⟨_,rfl⟩
  rw [hq] at h1 h2
  have c126:=fn126 l (by omega)
  rw [h2] at c126
  (refine gofc hq c126 ?_;try exact tTI)
  refine W_cond (by rfl) (fun h=>by cases h) (fun _=>?_)
  (refine go0 ?_;try exact tTI)
  refine ⟨i + 1,by omega,by omega,by rfl,?_⟩
  (refine syE ?_;try exact tTI)
 (refine go0 ?_;try exact tTI)
 exact W_ret ⟨[_],⟨rfl,rfl⟩,rfl⟩
end Go.Proofs.YtmekmmgiamjfoaaGreat
