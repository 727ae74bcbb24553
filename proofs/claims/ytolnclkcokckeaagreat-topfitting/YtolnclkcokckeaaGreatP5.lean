/- Part 5 of the proof of: For every input the law TopFitting returns true: the windows of a passage and the first time at which it fits into them are the first time at which the permits let it begin. -/
import Derived.Test.YtolnclkcokckeaaGreatP4
import Derived.Lib.Mul64
import Derived.Laws.Bits64b
import Derived.Shelf.Strings.FuncGrows
namespace Go.Proofs.YtolnclkcokckeaaGreat
open Go Sy
set_option maxRecDepth 100000
set_option maxHeartbeats 4000000
set_option linter.unusedVariables false
set_option linter.unusedSimpArgs false
theorem mixed : Tryz.prog.follows .mixedOrders = true:=by kernel_rfl
abbrev iv (n : Int) : AV:=.v (.int .i64 n)
abbrev bv (b : Bool) : AV:=.v (.bool b)
abbrev uv (n : Nat) : AV:=.v (.int .u64 n)
theorem maskN (a : Nat) (ha : a < 18446744073709551616) : bits .and .u64 (a : Int) 4294967295 = ((a % 4294967296 : Nat) : Int):=by
 have h:=bits_and_u64_nat a 4294967295 ha (by omega)
 have e : a &&& 4294967295 = a % 4294967296:=Nat.and_two_pow_sub_one_eq_mod a 32
 rw [e] at h
 exact h
theorem shrC (a : Int) (s : Nat) (b : Int) (h : (2 : Int) ^ min s IntKind.u64.bits = b) (hb : 0 ≤ b) : a.fdiv (2 ^ min s IntKind.u64.bits) = a / b:=by
 rw [h,Int.fdiv_eq_ediv_of_nonneg _ hb]
theorem shr32 (a : Int) : a.fdiv (2 ^ min 32 IntKind.u64.bits) = a / 4294967296:=shrC a 32 _ (by decide) (by decide)
theorem shr16 (a : Int) : a.fdiv (2 ^ min 16 IntKind.u64.bits) = a / 65536:=shrC a 16 _ (by decide) (by decide)
theorem shr8 (a : Int) : a.fdiv (2 ^ min 8 IntKind.u64.bits) = a / 256:=shrC a 8 _ (by decide) (by decide)
theorem divN (a : Nat) : (a : Int) / 4294967296 = ((a / 4294967296 : Nat) : Int):=by omega
theorem mulN (a b : Nat) : (a : Int) * (b : Int) = ((a * b : Nat) : Int):=(Int.natCast_mul a b).symm
theorem addN (a b : Nat) : (a : Int) + (b : Int) = ((a + b : Nat) : Int):=(Int.natCast_add a b).symm
theorem wrapN (a : Nat) (ha : a < 18446744073709551616) : IntKind.u64.wrap (a : Int) = (a : Int):=by rw [IntKind.wrap_u64];omega
theorem wrapM (a : Nat) : IntKind.u64.wrap (a : Int) = ((a % 18446744073709551616 : Nat) : Int):=by rw [IntKind.wrap_u64];omega
theorem fn179 (x y : Nat) (hx : x < 18446744073709551616) (hy : y < 18446744073709551616) : Sy.Fn Tryz.prog 179 [uv x,uv y] (.tup [uv (x * y / 18446744073709551616),uv (x * y % 18446744073709551616)]):=by
 refine Fn_of_W mixed Xt179 rfl ?_
 obtain ⟨bd,bt,bw,hhi⟩:=Lib.mul64_hi x y hx hy
 have ba:=Lib.half_mul_le (a:=x / 4294967296) (b:=y / 4294967296) (by omega) (by omega)
 have bb:=Lib.half_mul_le (a:=x / 4294967296) (b:=y % 4294967296) (by omega) (by omega)
 have bc:=Lib.half_mul_le (a:=x % 4294967296) (b:=y / 4294967296) (by omega) (by omega)
 have ba' : x / 4294967296 * (y / 4294967296) < 18446744073709551616:=by omega
 have bb' : x / 4294967296 * (y % 4294967296) < 18446744073709551616:=by omega
 have bc' : x % 4294967296 * (y / 4294967296) < 18446744073709551616:=by omega
 have bh1 : x / 4294967296 * (y / 4294967296) + (x / 4294967296 * (y % 4294967296) + x % 4294967296 * (y % 4294967296) / 4294967296) / 4294967296 < 18446744073709551616:=by omega
 have bh : x / 4294967296 * (y / 4294967296) + (x / 4294967296 * (y % 4294967296) + x % 4294967296 * (y % 4294967296) / 4294967296) / 4294967296 + ((x / 4294967296 * (y % 4294967296) + x % 4294967296 * (y % 4294967296) / 4294967296) % 4294967296 + x % 4294967296 * (y / 4294967296)) / 4294967296 < 18446744073709551616:=by omega
 (refine go0 ?_;try exact tTI)
 simp only [maskN x hx,maskN y hy,shr32,divN,mulN,addN,wrapN _ bd,wrapN _ bb',wrapN _ bt,maskN _ bt,wrapN _ bc',wrapN _ bw,wrapN _ ba',wrapN _ bh1,wrapN _ bh,wrapM (x * y)]
 rw [hhi]
 exact W_ret ⟨[_,_],⟨rfl,rfl,rfl⟩,rfl⟩
abbrev uw (n : Int) : AV:=.v (.int .u64 n)
def Bits (x : Int) (n : Nat) : Prop:=2 ^ n ≤ 2 * x ∧ x < 2 ^ n
theorem Bits.up {x : Int} {n : Nat} (k : Nat) (h : Bits (x / 2 ^ k) n) : Bits x (n + k):=by
 obtain ⟨h1,h2⟩:=h
 have hk : (0 : Int) < 2 ^ k:=Int.pow_pos (by omega)
 have hm:=Int.mul_ediv_add_emod x (2 ^ k)
 have hr:=Int.emod_lt_of_pos x hk
 have hr0:=Int.emod_nonneg x (Int.ne_of_gt hk)
 have e : (2 : Int) ^ (n + k) = 2 ^ n * 2 ^ k:=Int.pow_add ..
 have m1:=Int.mul_le_mul_of_nonneg_right h1 (Int.le_of_lt hk)
 have m2:=Int.mul_le_mul_of_nonneg_right (show x / 2 ^ k + 1 ≤ 2 ^ n by omega) (Int.le_of_lt hk)
 unfold Bits
 rw [e]
 rw [Int.add_mul] at m2
 rw [Int.mul_assoc,Int.mul_comm (x / 2 ^ k)] at m1
 rw [Int.mul_comm (x / 2 ^ k)] at m2
 constructor <;> omega
def lo (b x : Int) : Int:=if b ≤ x then x / b else x
def nb (b : Int) (k : Nat) (x : Int) : Nat:=if b ≤ x then k else 0
theorem Bits.lo {b x : Int} {n : Nat} (k : Nat) (hb : (2 : Int) ^ k = b) (h : Bits (lo b x) n) : Bits x (n + nb b k x):=by
 unfold Go.Proofs.YtolnclkcokckeaaGreat.lo at h
 unfold nb
 subst hb
 split
 ·rename_i h1;rw [if_pos h1] at h;exact h.up k
 ·rename_i h1;rw [if_neg h1] at h;exact h
def tab : ByteArray:=⟨#[0,1,2,2,3,3,3,3,4,4,4,4,4,4,4,4,5,5,5,5,5,5,5,5,5,5,5,5,5,5,5,5,6,6,6,6,6,6,6,6,6,6,6,6,6,6,6,6,6,6,6,6,6,6,6,6,6,6,6,6,6,6,6,6,7,7,7,7,7,7,7,7,7,7,7,7,7,7,7,7,7,7,7,7,7,7,7,7,7,7,7,7,7,7,7,7,7,7,7,7,7,7,7,7,7,7,7,7,7,7,7,7,7,7,7,7,7,7,7,7,7,7,7,7,7,7,7,7,8,8,8,8,8,8,8,8,8,8,8,8,8,8,8,8,8,8,8,8,8,8,8,8,8,8,8,8,8,8,8,8,8,8,8,8,8,8,8,8,8,8,8,8,8,8,8,8,8,8,8,8,8,8,8,8,8,8,8,8,8,8,8,8,8,8,8,8,8,8,8,8,8,8,8,8,8,8,8,8,8,8,8,8,8,8,8,8,8,8,8,8,8,8,8,8,8,8,8,8,8,8,8,8,8,8,8,8,8,8,8,8,8,8,8,8,8,8,8,8,8,8,8,8,8,8,8,8]⟩
def tabOK (i : Nat) : Bool:=decide (byteAt tab i ≤ 8) && (decide (i = 0) || (decide (2 ^ byteAt tab i ≤ 2 * i) && decide (i < 2 ^ byteAt tab i)))
theorem tab_all : (List.range 256).all tabOK = true:=by decide +kernel
theorem tab_size : tab.size = 256:=by decide +kernel
theorem tab_bits {u : Int} (h0 : 0 ≤ u) (h : u < 256) : byteAt tab u.toNat ≤ 8 ∧ (0 < u → Bits u (byteAt tab u.toNat)):=by
 have h1:=List.all_eq_true.1 tab_all u.toNat (by simp;omega)
 unfold tabOK at h1
 simp only [Bool.and_eq_true,Bool.or_eq_true,decide_eq_true_eq] at h1
 refine ⟨h1.1,fun h2=>?_⟩
 have h3:=h1.2.resolve_left (by omega)
 unfold Bits
 have e : ((u.toNat : Nat) : Int) = u:=by omega
 generalize byteAt tab u.toNat = n at *
 have e2 : ((2 ^ n : Nat) : Int) = (2 : Int) ^ n:=Int.natCast_pow 2 n
 omega
theorem fn199 (x : Int) (h0 : 0 ≤ x) (hx : x < 18446744073709551616) : ∃ n : Nat,n ≤ 64 ∧ (0 < x → Bits x n) ∧ Sy.Fn Tryz.prog 199 [uw x] (iv n):=by
 generalize hy : lo 4294967296 x = y
 have hyb : 0 ≤ y ∧ y < 4294967296:=by subst hy;unfold lo;split <;> omega
 generalize hm : nb 4294967296 32 x = m
 have hmb : m ≤ 32:=by subst hm;unfold nb;split <;> omega
 generalize hz : lo 65536 y = z
 have hzb : 0 ≤ z ∧ z < 65536:=by subst hz;unfold lo;split <;> omega
 generalize hk : m + nb 65536 16 y = k
 have hkb : k ≤ 48:=by subst hk;unfold nb;split <;> omega
 generalize hu : lo 256 z = u
 have hub : 0 ≤ u ∧ u < 256:=by subst hu;unfold lo;split <;> omega
 generalize hj : k + nb 256 8 z = j
 have hjb : j ≤ 56:=by subst hj;unfold nb;split <;> omega
 have ht:=tab_bits hub.1 hub.2
 have hpos : 0 < x → 0 < u:=fun h=>by
  have h1 : 0 < y:=by subst hy;unfold lo;split <;> omega
  have h2 : 0 < z:=by subst hz;unfold lo;split <;> omega
  subst hu;unfold lo;split <;> omega
 refine ⟨j + byteAt tab u.toNat,by omega,fun h=>?_,?_⟩
 ·have h1:=ht.2 (hpos h)
  rw [← hu] at h1
  have h2:=h1.lo 8 (by decide)
  rw [hu,← hz] at h2
  have h3:=h2.lo 16 (by decide)
  rw [hz,← hy] at h3
  have h4:=h3.lo 32 (by decide)
  rw [hy] at h4
  rw [← hj,← hk,← hm]
  rw [show nb 4294967296 32 x + nb 65536 16 y + nb 256 8 z + byteAt tab u.toNat = byteAt tab u.toNat + nb 256 8 z + nb 65536 16 y + nb 4294967296 32 x by omega]
  exact h4
 refine Fn_of_W mixed Xt199 rfl ?_
 (refine go0 ?_;try exact tTI)
 refine W_meet [(0,uw y),(2,iv m)] [] ?_ ?_
 ·subst hy hm
  unfold lo nb
  refine W_condD (by rfl) (fun h=>?_) (fun h=>?_)
  ·rw [if_pos h,if_pos h]
   repeat' (first | refine w1g ?_ | refine w1l ?_ | refine w1q ?_ | refine w1b ?_ | refine w1p ?_ | ((first | refine w1r ?_ | refine w1k ?_ | refine w1e ?_);simp (maxSteps:=400000) (disch:=omega) only [push_cast,↓reduceIte,reduceCtorEq,Nat.reduceAdd,Nat.reduceSub,Nat.reduceEqDiff,Nat.reduceLeDiff,Nat.reduceLT,Nat.reduceBEq,Nat.reduceDiv,Nat.reduceMod,Nat.reducePow,Nat.reduceMul,Int.reduceToNat,Int.reduceLT,Int.reduceLE,shr32]) | refine an2 ?_ | fail)
   refine ⟨by rfl,?_⟩
   (refine syE ?_;try exact tTI)
   all_goals omega
  ·rw [if_neg h,if_neg h]
   (refine go0 ?_;try exact tTI)
   rfl
 (refine sy1 ?_;try exact tTI)
 (refine go0 ?_;try exact tTI)
 refine W_meet [(0,uw z),(2,iv k)] [] ?_ ?_
 ·subst hz hk
  unfold lo nb
  refine W_condD (by rfl) (fun h=>?_) (fun h=>?_)
  ·rw [if_pos h,if_pos h]
   repeat' (first | refine w1g ?_ | refine w1l ?_ | refine w1q ?_ | refine w1b ?_ | refine w1p ?_ | ((first | refine w1r ?_ | refine w1k ?_ | refine w1e ?_);simp (maxSteps:=400000) (disch:=omega) only [push_cast,↓reduceIte,reduceCtorEq,Nat.reduceAdd,Nat.reduceSub,Nat.reduceEqDiff,Nat.reduceLeDiff,Nat.reduceLT,Nat.reduceBEq,Nat.reduceDiv,Nat.reduceMod,Nat.reducePow,Nat.reduceMul,Int.reduceToNat,Int.reduceLT,Int.reduceLE,shr16]) | refine an2 ?_ | fail)
   refine ⟨by rfl,?_⟩
   (refine syE ?_;try exact tTI)
   all_goals omega
  ·rw [if_neg h,if_neg h]
   (refine go0 ?_;try exact tTI)
   rfl
 (refine sy1 ?_;try exact tTI)
 (refine go0 ?_;try exact tTI)
 refine W_meet [(0,uw u),(2,iv j)] [] ?_ ?_
 ·subst hu hj
  unfold lo nb
  refine W_condD (by rfl) (fun h=>?_) (fun h=>?_)
  ·rw [if_pos h,if_pos h]
   repeat' (first | refine w1g ?_ | refine w1l ?_ | refine w1q ?_ | refine w1b ?_ | refine w1p ?_ | ((first | refine w1r ?_ | refine w1k ?_ | refine w1e ?_);simp (maxSteps:=400000) (disch:=omega) only [push_cast,↓reduceIte,reduceCtorEq,Nat.reduceAdd,Nat.reduceSub,Nat.reduceEqDiff,Nat.reduceLeDiff,Nat.reduceLT,Nat.reduceBEq,Nat.reduceDiv,Nat.reduceMod,Nat.reducePow,Nat.reduceMul,Int.reduceToNat,Int.reduceLT,Int.reduceLE,shr8]) | refine an2 ?_ | fail)
   refine ⟨by rfl,?_⟩
   (refine syE ?_;try exact tTI)
   all_goals omega
  ·rw [if_neg h,if_neg h]
   (refine go0 ?_;try exact tTI)
   rfl
 (refine sy1 ?_;try exact tTI)
 have hw : IntKind.u8.wrap u = u:=by rw [IntKind.wrap_u8];omega
 refine W_seq (W_regL ?_)
 rw [show ({ data:=_ } : ByteArray) = tab from rfl]
 simp (maxSteps:=400000) (disch:=omega) only [push_cast,↓reduceIte,reduceCtorEq,Nat.reduceAdd,Nat.reduceSub,Nat.reduceEqDiff,Nat.reduceLeDiff,Nat.reduceLT,Nat.reduceBEq,Nat.reduceDiv,Nat.reduceMod,Nat.reducePow,Nat.reduceMul,Int.reduceToNat,Int.reduceLT,Int.reduceLE,hw,tab_size]
 refine ⟨⟨hub.1,hub.2⟩,?_⟩
 exact W_ret ⟨[_],⟨rfl,rfl⟩,rfl⟩
theorem fn201 (x : Int) (h0 : 0 < x) (hx : x < 18446744073709551616) : ∃ n : Nat,n ≤ 64 ∧ Bits x n ∧ Sy.Fn Tryz.prog 201 [uw x] (iv (64 - n)):=by
 obtain ⟨n,hn,hb,c⟩:=fn199 x (by omega) hx
 refine ⟨n,hn,hb h0,?_⟩
 refine Fn_of_W mixed Xt201 rfl ?_
 (refine go_c c ?_;try exact tTI)
 exact W_ret ⟨[_],⟨rfl,rfl⟩,rfl⟩
structure Half (Y u d : Int) : Prop where
 y : 9223372036854775808 ≤ Y ∧ Y < 18446744073709551616
 u : 0 ≤ u ∧ u < Y
 d : 0 ≤ d ∧ d < 4294967296
def Half.q (Y u d : Int) : Int:=(u * 4294967296 + d) / Y
theorem split_Y (Y q : Int) : q * Y = (q * (Y / 4294967296)) * 4294967296 + q * (Y % 4294967296):=by
 have h : Y = Y / 4294967296 * 4294967296 + Y % 4294967296:=by omega
 rw [Int.mul_assoc,← Int.mul_add,← h]
theorem Half.no {Y u d q r : Int} (h : Half Y u d) (e : q * (Y / 4294967296) + r = u) (hc : q * (Y % 4294967296) ≤ 4294967296 * r + d) : q ≤ Half.q Y u d:=by
 unfold Half.q
 have:=h.y
 rw [Int.le_ediv_iff_mul_le (by omega),split_Y Y q]
 omega
theorem Half.yes {Y u d q r : Int} (h : Half Y u d) (e : q * (Y / 4294967296) + r = u) (hc : 4294967296 * r + d < q * (Y % 4294967296)) : Half.q Y u d < q:=by
 unfold Half.q
 have:=h.y
 rw [Int.ediv_lt_iff_lt_mul (by omega),split_Y Y q]
 omega
theorem Half.lt {Y u d : Int} (h : Half Y u d) : 0 ≤ Half.q Y u d ∧ Half.q Y u d < 4294967296:=by
 have h1:=h.y;have h2:=h.u;have h3:=h.d
 unfold Half.q
 constructor
 ·exact Int.ediv_nonneg (by omega) (by omega)
 ·rw [Int.ediv_lt_iff_lt_mul (by omega)]
  omega
theorem Half.start {Y u d : Int} (h : Half Y u d) : u / (Y / 4294967296) * (Y / 4294967296) + u % (Y / 4294967296) = u ∧ Half.q Y u d ≤ u / (Y / 4294967296) ∧ u / (Y / 4294967296) ≤ 4294967297 ∧ 0 ≤ u % (Y / 4294967296) ∧ u % (Y / 4294967296) < 4294967296:=by
 have h1:=h.y;have h2:=h.u;have h3:=h.d
 have hlt:=h.lt
 have hp : 0 < Y / 4294967296:=by omega
 have e:=Int.ediv_mul_add_emod u (Y / 4294967296)
 have e1:=Int.emod_nonneg u (Int.ne_of_gt hp)
 have e2:=Int.emod_lt_of_pos u hp
 refine ⟨e,?_,?_,e1,by omega⟩
 ·rw [Int.le_ediv_iff_mul_le hp]
  have h4 : Half.q Y u d * Y ≤ u * 4294967296 + d:=Int.ediv_mul_le _ (by omega)
  rw [split_Y Y (Half.q Y u d)] at h4
  have h5 : 0 ≤ Half.q Y u d * (Y % 4294967296):=Int.mul_nonneg hlt.1 (by omega)
  omega
 ·have h4 : u / (Y / 4294967296) < 4294967298:=by
   rw [Int.ediv_lt_iff_lt_mul hp]
   omega
  omega
theorem Half.step {Y u d q r : Int} (h : Half Y u d) (e : q * (Y / 4294967296) + r = u) (hq : Half.q Y u d ≤ q) (hc : 4294967296 ≤ q ∨ 4294967296 * r + d < q * (Y % 4294967296)) : (q - 1) * (Y / 4294967296) + (r + Y / 4294967296) = u ∧ Half.q Y u d ≤ q - 1:=by
 have hlt:=h.lt
 refine ⟨by rw [Int.sub_mul,Int.one_mul];omega,?_⟩
 rcases hc with hc | hc
 ·omega
 ·have:=h.yes e hc;omega
theorem Half.break {Y u d q r : Int} (h : Half Y u d) (e : q * (Y / 4294967296) + r = u) (hq : Half.q Y u d ≤ q) (hb : q ≤ 4294967296) (hr : 4294967296 ≤ r) : q = Half.q Y u d:=by
 have h1:=h.y;have h2:=h.u;have h3:=h.d
 have hlt:=h.lt
 have m : q * (Y % 4294967296) ≤ 4294967296 * 4294967295:=Int.mul_le_mul hb (by omega) (by omega) (by omega)
 have:=h.no e (by omega)
 omega
theorem Half.stop {Y u d q r : Int} (h : Half Y u d) (e : q * (Y / 4294967296) + r = u) (hq : Half.q Y u d ≤ q) (hc : q * (Y % 4294967296) ≤ 4294967296 * r + d) : q = Half.q Y u d:=by
 have:=h.no e hc
 omega
def Half.r (Y u d : Int) : Int:=u * 4294967296 + d - Half.q Y u d * Y
theorem Half.r_lt {Y u d : Int} (h : Half Y u d) : 0 ≤ Half.r Y u d ∧ Half.r Y u d < Y:=by
 have h1:=h.y
 have e:=Int.ediv_mul_add_emod (u * 4294967296 + d) Y
 have e1:=Int.emod_nonneg (u * 4294967296 + d) (show Y ≠ 0 by omega)
 have e2:=Int.emod_lt_of_pos (u * 4294967296 + d) (show 0 < Y by omega)
 unfold Half.r Half.q
 omega
theorem long_div {y P N u d1 d0 : Int} (hy : 0 < y) (hP : 0 < P) (e : N * P = u * 18446744073709551616 + d1 * 4294967296 + d0) (h : Half (y * P) u d1) (h0 : Half (y * P) (Half.r (y * P) u d1) d0) :
  Half.q (y * P) u d1 * 4294967296 + Half.q (y * P) (Half.r (y * P) u d1) d0 = N / y ∧ Half.r (y * P) (Half.r (y * P) u d1) d0 / P = N % y:=by
 have hr:=h0.r_lt
 have e1 : Half.r (y * P) u d1 = u * 4294967296 + d1 - Half.q (y * P) u d1 * (y * P):=rfl
 have e2 : Half.r (y * P) (Half.r (y * P) u d1) d0 = Half.r (y * P) u d1 * 4294967296 + d0 - Half.q (y * P) (Half.r (y * P) u d1) d0 * (y * P):=rfl
 generalize hR0 : Half.r (y * P) (Half.r (y * P) u d1) d0 = R0 at *
 generalize hR1 : Half.r (y * P) u d1 = R1 at *
 generalize hq1 : Half.q (y * P) u d1 = q1 at *
 generalize hq0 : Half.q (y * P) R1 d0 = q0 at *
 have e3 : (q1 * 4294967296 + q0) * (y * P) = q1 * (y * P) * 4294967296 + q0 * (y * P):=by
  rw [Int.add_mul,Int.mul_assoc,Int.mul_comm 4294967296,← Int.mul_assoc]
 have e4 : R0 = (N - (q1 * 4294967296 + q0) * y) * P:=by
  rw [Int.sub_mul,Int.mul_assoc,e3]
  omega
 have e5 : R0 / P = N - (q1 * 4294967296 + q0) * y:=by
  rw [e4,Int.mul_ediv_cancel _ (Int.ne_of_gt hP)]
 have e6 : 0 ≤ N - (q1 * 4294967296 + q0) * y:=by
  rw [e4] at hr
  exact Int.nonneg_of_mul_nonneg_left hr.1 hP
 have e7 : N - (q1 * 4294967296 + q0) * y < y:=by
  rw [e4] at hr
  exact Int.lt_of_mul_lt_mul_right hr.2 (Int.le_of_lt hP)
 have e8 : N / y = q1 * 4294967296 + q0:=by
  have h1 : q1 * 4294967296 + q0 ≤ N / y:=by rw [Int.le_ediv_iff_mul_le hy];omega
  have h2 : N / y < q1 * 4294967296 + q0 + 1:=by rw [Int.ediv_lt_iff_lt_mul hy,Int.add_mul];omega
  omega
 refine ⟨e8.symm,?_⟩
 rw [e5,Int.emod_def,e8,Int.mul_comm]
theorem shift_up {y : Int} {n : Nat} (h : Bits y n) (hn : n ≤ 64) : 9223372036854775808 ≤ y * 2 ^ (64 - n) ∧ y * 2 ^ (64 - n) < 18446744073709551616:=by
 obtain ⟨h1,h2⟩:=h
 have hk : (0 : Int) < 2 ^ (64 - n):=Int.pow_pos (by omega)
 have e : (2 : Int) ^ n * 2 ^ (64 - n) = 18446744073709551616:=by
  rw [← Int.pow_add,show n + (64 - n) = 64 by omega];rfl
 have m1:=Int.mul_le_mul_of_nonneg_right h1 (Int.le_of_lt hk)
 have m2:=Int.mul_lt_mul_of_pos_right h2 hk
 rw [Int.mul_assoc] at m1
 omega
theorem shift_parts {hi lo y : Int} {n : Nat} (hn : n ≤ 64) (h : 0 ≤ hi ∧ hi < y) (hl : 0 ≤ lo ∧ lo < 18446744073709551616) :
  (hi * 18446744073709551616 + lo) * 2 ^ (64 - n) = (hi * 2 ^ (64 - n) + lo / 2 ^ n) * 18446744073709551616 + lo * 2 ^ (64 - n) % 18446744073709551616 ∧
  0 ≤ hi * 2 ^ (64 - n) + lo / 2 ^ n ∧ hi * 2 ^ (64 - n) + lo / 2 ^ n < y * 2 ^ (64 - n) ∧ 0 ≤ lo / 2 ^ n ∧ lo / 2 ^ n < 2 ^ (64 - n):=by
 have hk : (0 : Int) < 2 ^ (64 - n):=Int.pow_pos (by omega)
 have hk2 : (0 : Int) < 2 ^ n:=Int.pow_pos (by omega)
 have e : (2 : Int) ^ n * 2 ^ (64 - n) = 18446744073709551616:=by
  rw [← Int.pow_add,show n + (64 - n) = 64 by omega];rfl
 have e2 : lo * 2 ^ (64 - n) / 18446744073709551616 = lo / 2 ^ n:=by
  rw [← e];exact Int.mul_ediv_mul_of_pos_left _ _ hk
 have h1 : 0 ≤ lo / 2 ^ n:=Int.ediv_nonneg hl.1 (Int.le_of_lt hk2)
 have h2 : lo / 2 ^ n < 2 ^ (64 - n):=by
  rw [Int.ediv_lt_iff_lt_mul hk2,Int.mul_comm,e];exact hl.2
 have h3 : 0 ≤ hi * 2 ^ (64 - n):=Int.mul_nonneg h.1 (Int.le_of_lt hk)
 have h4:=Int.mul_le_mul_of_nonneg_right (show hi + 1 ≤ y by omega) (Int.le_of_lt hk)
 rw [Int.add_mul,Int.one_mul] at h4
 refine ⟨?_,by omega,by omega,h1,h2⟩
 rw [Int.add_mul,Int.mul_assoc,Int.mul_comm 18446744073709551616,← Int.mul_assoc]
 omega
theorem or_add {a b : Int} {k : Nat} (ha : 0 ≤ a) (hb : 0 ≤ b) (hlt : b < 2 ^ k) (h : a * 2 ^ k + b < 18446744073709551616) : bits .or .u64 (a * 2 ^ k) b = a * 2 ^ k + b:=by
 obtain ⟨x,rfl⟩ : ∃ x : Nat,a = x:=⟨a.toNat,by omega⟩
 obtain ⟨y,rfl⟩ : ∃ y : Nat,b = y:=⟨b.toNat,by omega⟩
 have e : (x : Int) * 2 ^ k = ((x * 2 ^ k : Nat) : Int):=by rw [Int.natCast_mul,Int.natCast_pow];rfl
 have hl : y < 2 ^ k:=by
  have : ((2 ^ k : Nat) : Int) = (2 : Int) ^ k:=Int.natCast_pow 2 k
  omega
 rw [e] at h ⊢
 rw [bits_or_u64_nat _ _ (by omega) (by omega),← Nat.shiftLeft_eq,← Nat.shiftLeft_add_eq_or_of_lt hl]
 omega
theorem wrapU {x : Int} (h : 0 ≤ x ∧ x < 18446744073709551616) : IntKind.u64.wrap x = x:=by rw [IntKind.wrap_u64];omega
theorem maskI {a : Int} (h : 0 ≤ a ∧ a < 18446744073709551616) : bits .and .u64 a 4294967295 = a % 4294967296:=by
 obtain ⟨n,rfl⟩ : ∃ n : Nat,a = n:=⟨a.toNat,by omega⟩
 rw [maskN n (by omega)];omega
theorem wrap_rem {a b c r : Int} (h : a + b - c = r) (hr : 0 ≤ r ∧ r < 18446744073709551616) : IntKind.u64.wrap (IntKind.u64.wrap (IntKind.u64.wrap a + b) - IntKind.u64.wrap c) = r:=by
 simp only [IntKind.wrap_u64];omega
theorem fn180 (hi lo y : Int) (h : 0 ≤ hi ∧ hi < y) (hl : 0 ≤ lo ∧ lo < 18446744073709551616) (hy : y < 18446744073709551616) : Sy.Fn Tryz.prog 180 [uw hi,uw lo,uw y] (.tup [uw ((hi * 18446744073709551616 + lo) / y),uw ((hi * 18446744073709551616 + lo) % y)]):=by
 refine Fn_of_W mixed Xt180 rfl ?_
 obtain ⟨n,hn,hb,c⟩:=fn201 y (by omega) hy
 have hsu:=shift_up hb hn
 obtain ⟨hp1,hp2,hp3,hp4,hp5⟩:=shift_parts hn h hl
 (refine go0 ?_;try exact tTI)
 refine W_cond (by rfl) (fun h1=>by rw [beq_iff_eq] at h1;omega) (fun _=>?_)
 (refine go0 ?_;try exact tTI)
 refine W_condD (by rfl) (fun h1=>by omega) (fun _=>?_)
 (refine go0 ?_;try exact tTI)
 refine W_cond (by rfl) (fun h1=>?_) (fun h1=>?_)
 ·rw [beq_iff_eq] at h1
  subst h1
  have e1:=Int.ediv_nonneg hl.1 (show 0 ≤ y by omega)
  have e2 : lo / y ≤ lo:=Int.ediv_le_self _ hl.1
  repeat' (first | refine w1g ?_ | refine w1l ?_ | refine w1q ?_ | refine w1b ?_ | refine w1p ?_ | ((first | refine w1r ?_ | refine w1k ?_ | refine w1e ?_);simp (maxSteps:=400000) (disch:=omega) only [push_cast,↓reduceIte,reduceCtorEq,Nat.reduceAdd,Nat.reduceSub,Nat.reduceEqDiff,Nat.reduceLeDiff,Nat.reduceLT,Nat.reduceBEq,Nat.reduceDiv,Nat.reduceMod,Nat.reducePow,Nat.reduceMul,Int.reduceToNat,Int.reduceLT,Int.reduceLE,Int.tdiv_eq_ediv_of_nonneg,Int.tmod_eq_emod_of_nonneg,wrapU]) | refine an2 ?_ | fail)
  exact W_ret ⟨[_,_],⟨rfl,rfl,rfl⟩,by simp;rfl⟩
 have w1 : IntKind.u64.wrap (64 - (n : Int)) = 64 - n:=wrapU ⟨by omega,by omega⟩
 have w2 : min (64 - (n : Int)).toNat IntKind.u64.bits = 64 - n:=by show min _ 64 = _;omega
 have w3 : min n IntKind.u64.bits = n:=by show min _ 64 = _;omega
 have w4 : IntKind.u64.wrap (n : Int) = n:=wrapU ⟨by omega,by omega⟩
 have hk : (0 : Int) < 2 ^ (64 - n):=Int.pow_pos (by omega)
 have hh : 0 ≤ hi * 2 ^ (64 - n):=Int.mul_nonneg h.1 (Int.le_of_lt hk)
 have w5 : IntKind.u64.wrap (64 - (64 - (n : Int))) = n:=by rw [show 64 - (64 - (n : Int)) = n by omega];exact w4
 have w6 : IntKind.u64.wrap (y * 2 ^ (64 - n)) = y * 2 ^ (64 - n):=wrapU (by omega)
 have w7 : IntKind.u64.wrap (hi * 2 ^ (64 - n)) = hi * 2 ^ (64 - n):=wrapU (by omega)
 have w8 : lo.fdiv (2 ^ n) = lo / 2 ^ n:=Int.fdiv_eq_ediv_of_nonneg _ (Int.le_of_lt (Int.pow_pos (by omega)))
 have w9:=or_add (a:=hi) (b:=lo / 2 ^ n) (k:=64 - n) h.1 hp4 hp5 (by omega)
 have w10 : IntKind.u64.wrap (lo * 2 ^ (64 - n)) = lo * 2 ^ (64 - n) % 18446744073709551616:=IntKind.wrap_u64 _
 have wm:=maskI (a:=y * 2 ^ (64 - n)) (by omega)
 have wm2:=maskI (a:=lo * 2 ^ (64 - n) % 18446744073709551616) (by omega)
 have hld:=fun d1 d0=>long_div (y:=y) (P:=2 ^ (64 - n)) (N:=hi * 18446744073709551616 + lo) (u:=hi * 2 ^ (64 - n) + lo / 2 ^ n) (d1:=d1) (d0:=d0) (by omega) hk
 repeat' (first | refine w1g ?_ | refine w1l ?_ | refine w1q ?_ | refine w1b ?_ | refine w1p ?_ | ((first | refine w1r ?_ | refine w1k ?_ | refine w1e ?_ | refine CallC.now (c) ?_);simp (maxSteps:=400000) (disch:=omega) only [push_cast,↓reduceIte,reduceCtorEq,Nat.reduceAdd,Nat.reduceSub,Nat.reduceEqDiff,Nat.reduceLeDiff,Nat.reduceLT,Nat.reduceBEq,Nat.reduceDiv,Nat.reduceMod,Nat.reducePow,Nat.reduceMul,Int.reduceToNat,Int.reduceLT,Int.reduceLE,w1,w2,w3,w4,w5,w6,w7,w8,w9,w10,wm,wm2,shr32]) | refine an2 ?_ | fail)
 generalize hD : y * 2 ^ (64 - n) = Y at *
 generalize hU : hi * 2 ^ (64 - n) + lo / 2 ^ n = u at *
 generalize hE : lo * 2 ^ (64 - n) % 18446744073709551616 = e at *
 have heb : 0 ≤ e ∧ e < 18446744073709551616:=by subst hE;omega
 have H1 : Half Y u (e / 4294967296):=⟨hsu,⟨hp2,hp3⟩,by omega⟩
 obtain ⟨s1,s2,s3,s4,s5⟩:=H1.start
 have v1 : u.tdiv (Y / 4294967296) = u / (Y / 4294967296):=Int.tdiv_eq_ediv_of_nonneg hp2
 have s0 : 0 ≤ u / (Y / 4294967296):=Int.ediv_nonneg hp2 (by omega)
 have v2 : IntKind.u64.wrap (u / (Y / 4294967296)) = u / (Y / 4294967296):=wrapU (by omega)
 have s00 : 0 ≤ u / (Y / 4294967296) * (Y / 4294967296):=Int.mul_nonneg s0 (by omega)
 have v3 : IntKind.u64.wrap (u / (Y / 4294967296) * (Y / 4294967296)) = u / (Y / 4294967296) * (Y / 4294967296):=wrapU (by omega)
 have v4 : IntKind.u64.wrap (u - u / (Y / 4294967296) * (Y / 4294967296)) = u % (Y / 4294967296):=by
  rw [show u - u / (Y / 4294967296) * (Y / 4294967296) = u % (Y / 4294967296) by omega];exact wrapU (by omega)
 rw [v1,v2,v3,v4]
 generalize hq0 : u / (Y / 4294967296) = q0 at *
 generalize hr0 : u % (Y / 4294967296) = r0 at *
 generalize hQ : Half.q Y u (e / 4294967296) = Q1 at *
 have wd : 0 ≤ e / 4294967296 ∧ e / 4294967296 < 4294967296:=by omega
 have we : 0 ≤ e % 4294967296 ∧ e % 4294967296 < 4294967296:=by omega
 have hQb:=H1.lt
 refine W_meetB [(15,uw Q1)] [] ?_ ?_
 ·refine W_loopU (fun p : Int × Int=>[(15,uw p.1),(16,uw p.2)]) (fun i=>[]) (fun p=>p.1 * (Y / 4294967296) + p.2 = u ∧ Q1 ≤ p.1 ∧ p.1 ≤ 4294967297 ∧ 0 ≤ p.2 ∧ p.2 < 4294967296) (fun p=>p.1.toNat) (q0,r0) ⟨s1,s2,s3,s4,s5⟩ (by rfl) (by rfl) (fun p hp=>?_)
  obtain ⟨q,r⟩:=p
  obtain ⟨i1,i2,i3,i4,i5⟩:=hp
  simp only at i1 i2 i3 i4 i5
  have m0 : 0 ≤ q * (Y % 4294967296):=Int.mul_nonneg (by omega) (by omega)
  have v5 : IntKind.u64.wrap (4294967296 * r) = 4294967296 * r:=wrapU (by omega)
  have v6 : IntKind.u64.wrap (4294967296 * r + e / 4294967296) = 4294967296 * r + e / 4294967296:=wrapU (by omega)
  have m1 : q < 4294967296 → q * (Y % 4294967296) ≤ 4294967295 * 4294967295:=fun hq=>Int.mul_le_mul (by omega) (by omega) (by omega) (by omega)
  have v7 : q < 4294967296 → IntKind.u64.wrap (q * (Y % 4294967296)) = q * (Y % 4294967296):=fun hq=>wrapU ⟨m0,by have:=m1 hq;omega⟩
  (refine sy1 ?_;try exact tTI)
  (refine gof (ad2 v5 v6) ?_;try exact tTI)
  refine W_cond (by rfl) (fun hb=>?_) (fun hb=>?_)
  ·have hc : 4294967296 ≤ q ∨ 4294967296 * r + e / 4294967296 < q * (Y % 4294967296):=by
    rw [Bool.or_eq_true,decide_eq_true_eq,decide_eq_true_eq] at hb
    by_cases hq : 4294967296 ≤ q
    ·exact .inl hq
    ·rw [v7 (by omega)] at hb
     exact .inr (hb.resolve_left hq)
   obtain ⟨t1,t2⟩:=H1.step i1 (by rw [hQ];exact i2) hc
   rw [hQ] at t2
   have v8 : IntKind.u64.wrap (q - 1) = q - 1:=wrapU (by omega)
   have v9 : IntKind.u64.wrap (r + Y / 4294967296) = r + Y / 4294967296:=wrapU (by omega)
   (refine gof (ad2 v8 v9) ?_;try exact tTI)
   refine W_condD (by rfl) (fun hr=>?_) (fun hr=>?_)
   ·have hbr:=H1.break t1 (by rw [hQ];exact t2) (by omega) hr
    rw [hQ] at hbr
    (refine go0 ?_;try exact tTI)
    refine ⟨by rfl,?_⟩
    (refine eqf hbr ?_;try exact tTI)
   ·(refine go0 ?_;try exact tTI)
    refine ⟨(q - 1,r + Y / 4294967296),⟨t1,t2,by simp only [];omega,by simp only [];omega,by simp only [];omega⟩,by simp only [];omega,by rfl,?_⟩
    (refine syE ?_;try exact tTI)
  ·rw [Bool.or_eq_false_iff,decide_eq_false_iff_not,decide_eq_false_iff_not] at hb
   have hst:=H1.stop i1 (by rw [hQ];exact i2) (by rw [v7 (by omega)] at hb;omega)
   rw [hQ] at hst
   (refine go0 ?_;try exact tTI)
   refine ⟨by rfl,?_⟩
   (refine eqf hst ?_;try exact tTI)
 generalize hR : Half.r Y u (e / 4294967296) = R1 at *
 have hRb:=H1.r_lt
 rw [hR] at hRb
 have H0 : Half Y R1 (e % 4294967296):=⟨hsu,hRb,we⟩
 have hR' : u * 4294967296 + e / 4294967296 - Q1 * Y = R1:=by rw [← hR,← hQ];rfl
 have x1 : IntKind.u64.wrap (IntKind.u64.wrap (IntKind.u64.wrap (u * 4294967296) + e / 4294967296) - IntKind.u64.wrap (Q1 * Y)) = R1:=wrap_rem hR' (by omega)
 obtain ⟨s1',s2',s3',s4',s5'⟩:=H0.start
 have v1' : R1.tdiv (Y / 4294967296) = R1 / (Y / 4294967296):=Int.tdiv_eq_ediv_of_nonneg hRb.1
 have s0' : 0 ≤ R1 / (Y / 4294967296):=Int.ediv_nonneg hRb.1 (by omega)
 have v2' : IntKind.u64.wrap (R1 / (Y / 4294967296)) = R1 / (Y / 4294967296):=wrapU (by omega)
 have s00' : 0 ≤ R1 / (Y / 4294967296) * (Y / 4294967296):=Int.mul_nonneg s0' (by omega)
 have v3' : IntKind.u64.wrap (R1 / (Y / 4294967296) * (Y / 4294967296)) = R1 / (Y / 4294967296) * (Y / 4294967296):=wrapU (by omega)
 have v4' : IntKind.u64.wrap (R1 - R1 / (Y / 4294967296) * (Y / 4294967296)) = R1 % (Y / 4294967296):=by
  rw [show R1 - R1 / (Y / 4294967296) * (Y / 4294967296) = R1 % (Y / 4294967296) by omega];exact wrapU (by omega)
 (refine sy1 ?_;try exact tTI)
 repeat' (first | refine w1g ?_ | refine w1l ?_ | refine w1q ?_ | refine w1b ?_ | refine w1p ?_ | ((first | refine w1r ?_ | refine w1k ?_ | refine w1e ?_);simp (maxSteps:=400000) (disch:=omega) only [push_cast,↓reduceIte,reduceCtorEq,Nat.reduceAdd,Nat.reduceSub,Nat.reduceEqDiff,Nat.reduceLeDiff,Nat.reduceLT,Nat.reduceBEq,Nat.reduceDiv,Nat.reduceMod,Nat.reducePow,Nat.reduceMul,Int.reduceToNat,Int.reduceLT,Int.reduceLE,x1,v1',v2',v3',v4']) | refine an2 ?_ | fail)
 generalize hq0' : R1 / (Y / 4294967296) = q0' at *
 generalize hr0' : R1 % (Y / 4294967296) = r0' at *
 generalize hQ' : Half.q Y R1 (e % 4294967296) = Q0 at *
 have hQb':=H0.lt
 rw [hQ] at hQb
 rw [hQ'] at hQb'
 refine W_meetB [(18,uw Q0)] [] ?_ ?_
 ·refine W_loopU (fun p : Int × Int=>[(18,uw p.1),(16,uw p.2)]) (fun i=>[]) (fun p=>p.1 * (Y / 4294967296) + p.2 = R1 ∧ Q0 ≤ p.1 ∧ p.1 ≤ 4294967297 ∧ 0 ≤ p.2 ∧ p.2 < 4294967296) (fun p=>p.1.toNat) (q0',r0') ⟨s1',s2',s3',s4',s5'⟩ (by rfl) (by rfl) (fun p hp=>?_)
  obtain ⟨q,r⟩:=p
  obtain ⟨i1,i2,i3,i4,i5⟩:=hp
  simp only at i1 i2 i3 i4 i5
  have m0 : 0 ≤ q * (Y % 4294967296):=Int.mul_nonneg (by omega) (by omega)
  have v5 : IntKind.u64.wrap (4294967296 * r) = 4294967296 * r:=wrapU (by omega)
  have v6 : IntKind.u64.wrap (4294967296 * r + e % 4294967296) = 4294967296 * r + e % 4294967296:=wrapU (by omega)
  have m1 : q < 4294967296 → q * (Y % 4294967296) ≤ 4294967295 * 4294967295:=fun hq=>Int.mul_le_mul (by omega) (by omega) (by omega) (by omega)
  have v7 : q < 4294967296 → IntKind.u64.wrap (q * (Y % 4294967296)) = q * (Y % 4294967296):=fun hq=>wrapU ⟨m0,by have:=m1 hq;omega⟩
  (refine sy1 ?_;try exact tTI)
  (refine gof (ad2 v5 v6) ?_;try exact tTI)
  refine W_cond (by rfl) (fun hb=>?_) (fun hb=>?_)
  ·have hc : 4294967296 ≤ q ∨ 4294967296 * r + e % 4294967296 < q * (Y % 4294967296):=by
    rw [Bool.or_eq_true,decide_eq_true_eq,decide_eq_true_eq] at hb
    by_cases hq : 4294967296 ≤ q
    ·exact .inl hq
    ·rw [v7 (by omega)] at hb
     exact .inr (hb.resolve_left hq)
   obtain ⟨t1,t2⟩:=H0.step i1 (by rw [hQ'];exact i2) hc
   rw [hQ'] at t2
   have v8 : IntKind.u64.wrap (q - 1) = q - 1:=wrapU (by omega)
   have v9 : IntKind.u64.wrap (r + Y / 4294967296) = r + Y / 4294967296:=wrapU (by omega)
   (refine gof (ad2 v8 v9) ?_;try exact tTI)
   refine W_condD (by rfl) (fun hr=>?_) (fun hr=>?_)
   ·have hbr:=H0.break t1 (by rw [hQ'];exact t2) (by omega) hr
    rw [hQ'] at hbr
    (refine go0 ?_;try exact tTI)
    refine ⟨by rfl,?_⟩
    (refine eqf hbr ?_;try exact tTI)
   ·(refine go0 ?_;try exact tTI)
    refine ⟨(q - 1,r + Y / 4294967296),⟨t1,t2,by simp only [];omega,by simp only [];omega,by simp only [];omega⟩,by simp only [];omega,by rfl,?_⟩
    (refine syE ?_;try exact tTI)
  ·rw [Bool.or_eq_false_iff,decide_eq_false_iff_not,decide_eq_false_iff_not] at hb
   have hst:=H0.stop i1 (by rw [hQ'];exact i2) (by rw [v7 (by omega)] at hb;omega)
   rw [hQ'] at hst
   (refine go0 ?_;try exact tTI)
   refine ⟨by rfl,?_⟩
   (refine eqf hst ?_;try exact tTI)
 have hQR:=hld (e / 4294967296) (e % 4294967296) (by omega) H1 (by rw [hR];exact H0)
 rw [hR,hQ,hQ'] at hQR
 have hR0 : R1 * 4294967296 + e % 4294967296 - Q0 * Y = Half.r Y R1 (e % 4294967296):=by rw [← hQ'];rfl
 have hRb0:=H0.r_lt
 have x2:=wrap_rem hR0 (by omega)
 have x3 : IntKind.u64.wrap (Q1 * 4294967296) = Q1 * 4294967296:=wrapU (by omega)
 have x4 : IntKind.u64.wrap (Q1 * 4294967296 + Q0) = Q1 * 4294967296 + Q0:=wrapU (by omega)
 have x5 : (Half.r Y R1 (e % 4294967296)).fdiv (2 ^ (64 - n)) = Half.r Y R1 (e % 4294967296) / 2 ^ (64 - n):=Int.fdiv_eq_ediv_of_nonneg _ (Int.le_of_lt hk)
 (refine sy1 ?_;try exact tTI)
 (refine gof (ad5 x2 x3 x4 w2 x5) ?_;try exact tTI)
 rw [hQR.1,hQR.2]
 exact W_ret ⟨[_,_],⟨rfl,rfl,rfl⟩,rfl⟩
theorem c179 (x y : Int) (hx : 0 ≤ x ∧ x < 18446744073709551616) (hy : 0 ≤ y ∧ y < 18446744073709551616) : Sy.Fn Tryz.prog 179 [uw x,uw y] (.tup [uw (x * y / 18446744073709551616),uw (x * y % 18446744073709551616)]):=by
 obtain ⟨n,rfl⟩ : ∃ n : Nat,x = n:=⟨x.toNat,by omega⟩
 obtain ⟨m,rfl⟩ : ∃ m : Nat,y = m:=⟨y.toNat,by omega⟩
 have h:=fn179 n m (by omega) (by omega)
 have e : (n : Int) * m = ((n * m : Nat) : Int):=(Int.natCast_mul n m).symm
 rw [e]
 exact h
def ab (a : Int) : Int:=max a (0 - a)
theorem ab_mul (a b : Int) : ab a * ab b = if decide (a < 0) != decide (b < 0) then -(a * b) else a * b:=by
 unfold ab
 by_cases ha : a < 0 <;> by_cases hb : b < 0
 ·rw [show max a (0 - a) = -a by omega,show max b (0 - b) = -b by omega,Int.neg_mul_neg];simp [ha,hb]
 ·rw [show max a (0 - a) = -a by omega,show max b (0 - b) = b by omega,Int.neg_mul];simp [ha,hb]
 ·rw [show max a (0 - a) = a by omega,show max b (0 - b) = -b by omega,Int.mul_neg];simp [ha,hb]
 ·rw [show max a (0 - a) = a by omega,show max b (0 - b) = b by omega];simp [ha,hb]
abbrev aFr (a b d : Int) : AV:=.agg [iv a,iv b,iv d]
structure FrOK (a b d : Int) : Prop where
 ha : -9223372036854775807 ≤ a ∧ a ≤ 9223372036854775807
 hb : -9223372036854775807 ≤ b ∧ b ≤ 9223372036854775807
 hd : 0 < d ∧ d ≤ 9223372036854775807
 hq : ab a * ab b < d * 4611686018427387904
theorem fn159 (a b d : Int) (h : FrOK a b d) : Sy.Fn Tryz.prog 159 [aFr a b d] (.tup [iv (ab a * ab b / d),bv (decide (0 < ab a * ab b % d)),bv (decide (a < 0) != decide (b < 0))]):=by
 refine Fn_of_W mixed Xt159 rfl ?_
 have ha:=h.ha;have hb:=h.hb;have hd:=h.hd;have hq:=h.hq
 have hA : 0 ≤ ab a ∧ ab a ≤ 9223372036854775807:=by unfold ab;omega
 have hB : 0 ≤ ab b ∧ ab b ≤ 9223372036854775807:=by unfold ab;omega
 have ea : max a (0 - a) = ab a:=rfl
 have eb : max b (0 - b) = ab b:=rfl
 generalize ab a = A at *
 generalize ab b = B at *
 have hAB : 0 ≤ A * B:=Int.mul_nonneg hA.1 hB.1
 have wa : IntKind.u64.wrap A = A:=wrapU (by omega)
 have wb : IntKind.u64.wrap B = B:=wrapU (by omega)
 have wd : IntKind.u64.wrap d = d:=wrapU (by omega)
 have c1:=c179 A B (by omega) (by omega)
 generalize A * B = M at *
 have c2:=fn180 (M / 18446744073709551616) (M % 18446744073709551616) d ⟨by omega,by omega⟩ (by omega) (by omega)
 rw [show M / 18446744073709551616 * 18446744073709551616 + M % 18446744073709551616 = M by omega] at c2
 have q1 : M / d < 4611686018427387904:=by rw [Int.ediv_lt_iff_lt_mul hd.1,Int.mul_comm];exact hq
 have q0 : 0 ≤ M / d:=Int.ediv_nonneg hAB (by omega)
 have wq : IntKind.i64.wrap (M / d) = M / d:=wrap64 ⟨by omega,by omega⟩
 (refine gofcc (ad6 ea eb wa wb wd wq) c1 c2 ?_;try exact tTI)
 exact W_ret ⟨[_,_,_],⟨rfl,rfl,rfl,rfl⟩,rfl⟩
theorem fn122 (a b d : Int) (h : FrOK a b d) : Sy.Fn Tryz.prog 122 [aFr a b d] (iv (a * b / d)):=by
 refine Fn_of_W mixed Xt122 rfl ?_
 have hd:=h.hd;have hq:=h.hq
 have c1:=fn159 a b d h
 have hm:=ab_mul a b
 have q1 : ab a * ab b / d < 4611686018427387904:=by rw [Int.ediv_lt_iff_lt_mul hd.1];omega
 have q0 : 0 ≤ ab a * ab b / d:=Int.ediv_nonneg (Int.mul_nonneg (by unfold ab;omega) (by unfold ab;omega)) (by omega)
 generalize ab a * ab b = M at *
 have e:=Int.ediv_mul_add_emod M d
 have e1:=Int.emod_nonneg M (Int.ne_of_gt hd.1)
 have e2:=Int.emod_lt_of_pos M hd.1
 (refine go_c c1 ?_;try exact tTI)
 refine W_cond (by rfl) (fun h1=>?_) (fun h1=>?_)
 ·rw [Bool.not_eq_true'] at h1
  rw [h1] at hm
  simp only [Bool.false_eq_true,if_false] at hm
  (refine go0 ?_;try exact tTI)
  exact W_ret ⟨[_],⟨rfl,rfl⟩,by rw [hm];rfl⟩
 ·rw [Bool.not_eq_false'] at h1
  rw [h1,if_pos rfl] at hm
  have hm' : a * b = -M:=by omega
  rw [hm']
  (refine go0 ?_;try exact tTI)
  refine W_condD (by rfl) (fun h2=>?_) (fun h2=>?_)
  ·have e3 : -M / d = -(M / d + 1):=by
    have h1 : -(M / d + 1) ≤ -M / d:=by rw [Int.le_ediv_iff_mul_le hd.1,Int.neg_mul,Int.add_mul];omega
    have h3 : -M / d < -(M / d + 1) + 1:=by
     rw [Int.ediv_lt_iff_lt_mul hd.1,Int.add_mul,Int.neg_mul,Int.add_mul];omega
    omega
   (refine go0 ?_;try exact tTI)
   exact W_ret ⟨[_],⟨rfl,rfl⟩,by rw [e3];simp;rfl⟩
  ·have e3 : -M / d = -(M / d):=by
    have h1 : -(M / d) ≤ -M / d:=by rw [Int.le_ediv_iff_mul_le hd.1,Int.neg_mul];omega
    have h3 : -M / d < -(M / d) + 1:=by
     rw [Int.ediv_lt_iff_lt_mul hd.1,Int.add_mul,Int.neg_mul];omega
    omega
   (refine go0 ?_;try exact tTI)
   exact W_ret ⟨[_],⟨rfl,rfl⟩,by rw [e3];simp;rfl⟩
def cdiv (n d : Int) : Int:=-(-n / d)
theorem fn85 (a b d : Int) (h : FrOK a b d) : Sy.Fn Tryz.prog 85 [aFr a b d] (iv (cdiv (a * b) d)):=by
 refine Fn_of_W mixed Xt85 rfl ?_
 have ha:=h.ha;have hd:=h.hd
 have h' : FrOK (0 - a) b d:=⟨by omega,h.hb,h.hd,by rw [show ab (0 - a) = ab a by unfold ab;omega];exact h.hq⟩
 have c1:=fn122 (0 - a) b d h'
 have e : (0 - a) * b = -(a * b):=by rw [Int.zero_sub,Int.neg_mul]
 rw [e] at c1
 have hq:=h.hq
 have hm:=ab_mul a b
 have hAB : 0 ≤ ab a * ab b:=Int.mul_nonneg (by unfold ab;omega) (by unfold ab;omega)
 have hb : -(d * 4611686018427387904) ≤ -(a * b) ∧ -(a * b) ≤ d * 4611686018427387904:=by
  split at hm <;> omega
 have b1 : -4611686018427387904 ≤ -(a * b) / d:=by rw [Int.le_ediv_iff_mul_le hd.1,Int.neg_mul,Int.mul_comm];exact hb.1
 have b2 : -(a * b) / d < 4611686018427387905:=by rw [Int.ediv_lt_iff_lt_mul hd.1];omega
 (refine go_c c1 ?_;try exact tTI)
 exact W_ret ⟨[_],⟨rfl,rfl⟩,by unfold cdiv;simp;rfl⟩
def inR (x lo hi : Int) : Bool:=decide (lo ≤ x) && decide (x ≤ hi)
theorem inR_iff {x lo hi : Int} : inR x lo hi = true ↔ lo ≤ x ∧ x ≤ hi:=by simp [inR]
theorem fn40 (x lo hi : Int) : Sy.Fn Tryz.prog 40 [iv x,iv lo,iv hi] (bv (inR x lo hi)):=by
 refine Fn_of_W mixed Xt40 rfl ?_
 (refine go0 ?_;try exact tTI)
 exact W_ret ⟨[_],⟨rfl,rfl⟩,rfl⟩
def okMass (m : Int) : Bool:=inR m 1 16777216
theorem fn39 (m : Int) : Sy.Fn Tryz.prog 39 [iv m] (bv (okMass m)):=by
 refine Fn_of_W mixed Xt39 rfl ?_
 (refine go_c (fun x1 x2 x3=>fn40 x1 x2 x3) ?_;try exact tTI)
 exact W_ret ⟨[_],⟨rfl,rfl⟩,rfl⟩
structure Pt where
 x : Int
 y : Int
abbrev cPt (p : Pt) : List AV:=[iv p.x,iv p.y]
def okPlace (x : Int) : Bool:=inR x (-16777216) 16777216
theorem fn84 (x : Int) : Sy.Fn Tryz.prog 84 [iv x] (bv (okPlace x)):=by
 refine Fn_of_W mixed Xt84 rfl ?_
 (refine go_c (fun x1 x2 x3=>fn40 x1 x2 x3) ?_;try exact tTI)
 exact W_ret ⟨[_],⟨rfl,rfl⟩,rfl⟩
def levE (m a b x : Int) : Int:=if (!okMass m || !okPlace a || !okPlace b || !okPlace x) = true then 3 else if b ≤ a then 9 else if inR x a b = false then 19 else 0
def levL (m a b x : Int) : Int:=if levE m a b x = 0 then cdiv (m * (b - x)) (b - a) else 0
def levR (m a b x : Int) : Int:=if levE m a b x = 0 then cdiv (m * (x - a)) (b - a) else 0
theorem levE_ok {m a b x : Int} (h : levE m a b x = 0) : (1 ≤ m ∧ m ≤ 16777216) ∧ (-16777216 ≤ a ∧ a < b ∧ b ≤ 16777216) ∧ a ≤ x ∧ x ≤ b:=by
 unfold levE at h
 split at h
 ·omega
 ·rename_i h1
  split at h
  ·omega
  ·split at h
   ·omega
   ·rename_i h2 h3
    simp only [Bool.or_eq_true,Bool.not_eq_true',okMass,okPlace] at h1
    rw [Bool.not_eq_false,inR_iff] at h3
    simp only [not_or,Bool.not_eq_false,inR_iff] at h1
    omega
theorem ab_pos {a : Int} (h : 0 ≤ a) : ab a = a:=by unfold ab;omega
theorem mulP {a b c d : Int} (h0 : 0 ≤ b) (h1 : a ≤ c) (h2 : b ≤ d) (h3 : 0 ≤ c) : a * b ≤ c * d:=Int.mul_le_mul h1 h2 h0 h3
theorem frac_ok {m p w : Int} (hm : 1 ≤ m ∧ m ≤ 16777216) (hp : 0 ≤ p ∧ p ≤ w) (hw : 0 < w ∧ w ≤ 9223372036854775807) : FrOK m p w:=by
 refine ⟨by omega,by omega,hw,?_⟩
 rw [ab_pos (by omega),ab_pos hp.1]
 have:=mulP (a:=m) (b:=p) (c:=16777216) (d:=w) hp.1 hm.2 hp.2 (by omega)
 omega
theorem fn41 (m a b x : Int) : Sy.Fn Tryz.prog 41 [iv m,iv a,iv b,iv x] (.tup [iv (levL m a b x),iv (levR m a b x),iv (levE m a b x)]):=by
 refine Fn_of_W mixed Xt41 rfl ?_
 (refine go_cg (fun x1=>fn39 x1) (fun x1=>fn84 x1) ?_;try exact tTI)
 refine W_cond (by rfl) (fun h1=>?_) (fun h1=>?_)
 ·have e : levE m a b x = 3:=by unfold levE;rw [if_pos h1]
  unfold levL levR
  rw [if_neg (by omega),if_neg (by omega),e]
  (refine go0 ?_;try exact tTI)
  exact W_ret ⟨[_,_,_],⟨rfl,rfl,rfl,rfl⟩,rfl⟩
 (refine go0 ?_;try exact tTI)
 refine W_condD (by rfl) (fun h2=>?_) (fun h2=>?_)
 ·have e : levE m a b x = 9:=by unfold levE;rw [if_neg (by rw [h1];decide),if_pos h2]
  unfold levL levR
  rw [if_neg (by omega),if_neg (by omega),e]
  (refine go0 ?_;try exact tTI)
  exact W_ret ⟨[_,_,_],⟨rfl,rfl,rfl,rfl⟩,rfl⟩
 (refine go_c (fun x1 x2 x3=>fn40 x1 x2 x3) ?_;try exact tTI)
 refine W_cond (by rfl) (fun h3=>?_) (fun h3=>?_)
 ·have e : levE m a b x = 19:=by unfold levE;rw [if_neg (by rw [h1];decide),if_neg h2,if_pos (by simpa using h3)]
  unfold levL levR
  rw [if_neg (by omega),if_neg (by omega),e]
  (refine go0 ?_;try exact tTI)
  exact W_ret ⟨[_,_,_],⟨rfl,rfl,rfl,rfl⟩,rfl⟩
 have e : levE m a b x = 0:=by unfold levE;rw [if_neg (by rw [h1];decide),if_neg h2,if_neg (by simpa using h3)]
 have ho:=levE_ok e
 have c1:=fn85 m (b - x) (b - a) (frac_ok ho.1 (by omega) (by omega))
 have c2:=fn85 m (x - a) (b - a) (frac_ok ho.1 (by omega) (by omega))
 unfold levL levR
 rw [if_pos e,if_pos e,e]
 (refine go_cc c1 c2 ?_;try exact tTI)
 exact W_ret ⟨[_,_,_],⟨rfl,rfl,rfl,rfl⟩,rfl⟩
def idxF {α : Type} (p : α → Bool) : List α → Int → Int
 |[],_=>-1
 |x :: r,i=>if p x then i else idxF p r (i + 1)
theorem idxF_at {α : Type} (p : α → Bool) (d : α) : ∀ (l : List α) (i : Nat) (k : Int),i < l.length → (∀ j,j < i → p (l.getD j d) = false) → p (l.getD i d) = true → idxF p l k = k + i
 |[],i,k,h,_,_=>by simp at h
 |x :: r,0,k,_,_,h=>by simp at h;simp [idxF,h]
 |x :: r,i + 1,k,h,hj,hp=>by
  have h0 : p x = false:=by simpa using hj 0 (by omega)
  have:=idxF_at p d r i (k + 1) (by simpa using h) (fun j hlt=>by simpa using hj (j + 1) (by omega)) (by simpa using hp)
  simp only [idxF,h0,Bool.false_eq_true,if_false,this]
  omega
theorem idxF_none {α : Type} (p : α → Bool) (d : α) : ∀ (l : List α) (k : Int),(∀ j,j < l.length → p (l.getD j d) = false) → idxF p l k = -1
 |[],k,_=>rfl
 |x :: r,k,h=>by
  have h0 : p x = false:=by simpa using h 0 (by simp)
  have:=idxF_none p d r (k + 1) (fun j hlt=>by simpa using h (j + 1) (by simpa using hlt))
  simp only [idxF,h0,Bool.false_eq_true,if_false,this]
theorem idxF_any {α : Type} (p : α → Bool) : ∀ (l : List α) (k : Int),0 ≤ k → decide (0 ≤ idxF p l k) = l.any p
 |[],k,_=>by simp [idxF]
 |x :: r,k,h=>by
  simp only [idxF,List.any_cons]
  by_cases hp : p x = true
  ·simp [hp,h]
  ·simp only [hp]
   simpa using idxF_any p r (k + 1) (by omega)
theorem up_all {p : Nat → Prop} {i : Nat} (h : ∀ j,j < i → p j) (hi : p i) : ∀ j,j < i + 1 → p j:=fun j hj=>by
 rcases Nat.lt_succ_iff_lt_or_eq.1 hj with hj | rfl
 ·exact h j hj
 ·exact hi
def cI (n : Int) : List AV:=[iv n]
theorem nI (n : Int) : nth (cI n) 0 = iv n:=rfl
theorem lI (n : Int) : (cI n).length = 1:=rfl
attribute [push_cast] nI lI
theorem getD_mem {α : Type} (d : α) (l : List α) (i : Nat) (h : i < l.length) : l.getD i d ∈ l:=by
 simp only [List.getD,List.getElem?_eq_getElem h,Option.getD_some];exact List.getElem_mem h
theorem fn158 (l : List Int) (hl : l.length ≤ 1000000) (g : Nat) (fi ca : List AV) (p : Int → Bool) (hg : ∀ x ∈ l,Sy.Fn Tryz.prog g (fi ++ [iv x] ++ ca) (bv (p x))) : Sy.Fn Tryz.prog 158 [.sl 1 0 cI l,.clo g fi ca] (iv (idxF p l 0)):=by
 refine Fn_of_W mixed Xt158 rfl ?_
 (refine go0 ?_;try exact tTI)
 refine W_loopU (fun i : Nat=>[(8,iv i)]) (fun i=>[]) (fun i=>i ≤ l.length ∧ ∀ j,j < i → p (l.getD j 0) = false) (fun i=>l.length - i) 0 ⟨by omega,fun j hj=>by omega⟩ (by rfl) (by rfl) (fun i hi=>?_)
 obtain ⟨hi,hp⟩:=hi
 (refine sy1 ?_;try exact tTI)
 (refine go0 ?_;try exact tTI)
 refine W_condD (by rfl) (fun h=>?_) (fun h=>?_)
 ·have hlt : i < l.length:=by omega
  have cg:=hg _ (getD_mem 0 l i hlt)
  (refine go_c cg ?_;try exact tTI)
  refine W_cond (by rfl) (fun hb=>?_) (fun hb=>?_)
  ·(refine go0 ?_;try exact tTI)
   exact W_ret ⟨[_],⟨rfl,rfl⟩,by rw [idxF_at p 0 l i 0 hlt hp hb,Int.zero_add];rfl⟩
  ·(refine go0 ?_;try exact tTI)
   refine ⟨i + 1,⟨by omega,up_all hp hb⟩,by omega,by rfl,?_⟩
   (refine syE ?_;try exact tTI)
 ·(refine go0 ?_;try exact tTI)
  exact W_ret ⟨[_],⟨rfl,rfl⟩,by rw [idxF_none p 0 l 0 (fun j hj=>hp j (by omega))];rfl⟩
theorem fn119 (l : List Int) (hl : l.length ≤ 1000000) (g : Nat) (fi ca : List AV) (p : Int → Bool) (hg : ∀ x ∈ l,Sy.Fn Tryz.prog g (fi ++ [iv x] ++ ca) (bv (p x))) : Sy.Fn Tryz.prog 119 [.sl 1 0 cI l,.clo g fi ca] (bv (l.any p)):=by
 refine Fn_of_W mixed Xt119 rfl ?_
 (refine go_c (fn158 l hl g fi ca p hg) ?_;try exact tTI)
 exact W_ret ⟨[_],⟨rfl,rfl⟩,by rw [← idxF_any p l 0 (by omega)];rfl⟩
theorem floor_eq {a b : Int} (hb : 0 < b) : a / b = if a.tmod b < 0 then a.tdiv b - 1 else a.tdiv b:=by
 have e:=Int.tdiv_mul_add_tmod a b
 have l1 : a.tmod b < b:=Int.tmod_lt_of_pos a hb
 have l2 : -b < a.tmod b:=by
  have:=Int.tmod_lt_of_pos (-a) hb
  rw [Int.neg_tmod] at this
  omega
 split
 ·have h1 : a.tdiv b - 1 ≤ a / b:=by rw [Int.le_ediv_iff_mul_le hb,Int.sub_mul];omega
  have h2 : a / b < a.tdiv b:=by rw [Int.ediv_lt_iff_lt_mul hb];omega
  omega
 ·have h1 : a.tdiv b ≤ a / b:=by rw [Int.le_ediv_iff_mul_le hb];omega
  have h2 : a / b < a.tdiv b + 1:=by rw [Int.ediv_lt_iff_lt_mul hb,Int.add_mul];omega
  omega
def rho : Go.Shelf.Ren:=⟨fun f=>if f = 315 then 178 else 0,fun t=>if t = 40 then 248 else t,fun g=>g⟩
theorem lays : Lays.n315 Tryz.prog rho:={
 mixed:=mixed
 f315:=by kernel_rfl
 t0:=by kernel_rfl
 a0:=fun w=>by kernel_rfl
 z0:=fun w=>by kernel_rfl
 v0:=fun w=>by kernel_rfl
 t3:=by kernel_rfl
 a3:=fun w=>by kernel_rfl
 z3:=fun w=>by kernel_rfl
 v3:=fun w=>by kernel_rfl
 t4:=by kernel_rfl
 a4:=fun w=>by kernel_rfl
 z4:=fun w=>by kernel_rfl
 v4:=fun w=>by kernel_rfl
 t9:=by kernel_rfl
 a9:=fun w=>by kernel_rfl
 z9:=fun w=>by kernel_rfl
 v9:=fun w=>by kernel_rfl
 t21:=by kernel_rfl
 a21:=fun w=>by kernel_rfl
 z21:=fun w=>by kernel_rfl
 v21:=fun w=>by kernel_rfl
 t40:=by kernel_rfl
 a40:=fun w=>by kernel_rfl
 z40:=fun w=>by kernel_rfl
 v40:=fun w=>by kernel_rfl }
abbrev stv (s : ByteArray) : AV:=.v (.string s)
theorem fn178 (s : ByteArray) (g : Nat) (p : Nat → Bool) (hg : ∀ x : Nat,x ≤ 1114111 → Sy.Fn Tryz.prog g [.v (.int .i32 x)] (bv (p x))) : Sy.Fn Tryz.prog 178 [stv s,.clo g [] [],bv true] (iv (Lib.idxFunc p true s)):=by
 refine ⟨by kernel_rfl,fun A w vs hA hvs=>?_⟩
 simp only [fsatT,fsat] at hvs
 obtain ⟨x1,r1,rfl,rfl,x2,r2,rfl,⟨fv,cv,rfl,rfl,rfl⟩,x3,r3,rfl,rfl,rfl⟩:=hvs
 have hp : PredGrows Tryz.prog g #[] p w:=fun W x hx _=>by
  refine ((hg x hx).2 (fun _=>False) W [.int .i32 x] (fun b h=>h.elim) (by simp [fsatT,fsat])).mono ?_
  rintro e w' ⟨v,rfl,hb,hv⟩
  simp only [fsat] at hv
  exact ⟨by rw [hv],hb⟩
 have h:=Any.strings_indexFunc_grows lays g #[] (fun args w=>run_callFunc (hg 0 (by omega)).1) p true s w hp
 refine h.mono ?_
 rintro e w' ⟨rfl,hb⟩
 exact ⟨_,rfl,hb,by simp only [fsat]⟩
theorem fn157 (s : ByteArray) (g : Nat) (p : Nat → Bool) (hg : ∀ x : Nat,x ≤ 1114111 → Sy.Fn Tryz.prog g [.v (.int .i32 x)] (bv (p x))) : Sy.Fn Tryz.prog 157 [stv s,.clo g [] []] (iv (Lib.idxFunc p true s)):=by
 refine Fn_of_W mixed Xt157 rfl ?_
 (refine go_c (fn178 s g p hg) ?_;try exact tTI)
 exact W_ret ⟨[_],⟨rfl,rfl⟩,rfl⟩
theorem fn117 (s : ByteArray) (g : Nat) (p : Nat → Bool) (hg : ∀ x : Nat,x ≤ 1114111 → Sy.Fn Tryz.prog g [.v (.int .i32 x)] (bv (p x))) : Sy.Fn Tryz.prog 117 [stv s,.clo g [] []] (bv (decide (0 ≤ Lib.idxFunc p true s))):=by
 refine Fn_of_W mixed Xt117 rfl ?_
 (refine go_c (fn157 s g p hg) ?_;try exact tTI)
 exact W_ret ⟨[_],⟨rfl,rfl⟩,rfl⟩
def okCh (b : Int) : Bool:=(decide (97 ≤ b) && decide (b ≤ 122)) || (decide (48 ≤ b) && decide (b ≤ 57))
theorem fn118 (x : Int) : Sy.Fn Tryz.prog 118 [.v (.int .i32 x)] (bv (!okCh x)):=by
 refine Fn_of_W mixed Xt118 rfl ?_
 (refine go0 ?_;try exact tTI)
 have e : ((decide (x < 97) || decide (122 < x)) && (decide (x < 48) || decide (57 < x))) = !okCh x:=by
  unfold okCh
  rw [Bool.eq_iff_iff]
  simp only [Bool.and_eq_true,Bool.or_eq_true,decide_eq_true_eq,Bool.not_eq_true',Bool.or_eq_false_iff,Bool.and_eq_false_iff,decide_eq_false_iff_not]
  omega
 rw [e]
 exact W_ret ⟨[_],⟨rfl,rfl⟩,rfl⟩
theorem get_at (s : ByteArray) (i : Nat) (h : i < s.size) : s.get! i = s[i]:=by
 cases s with | mk d=>
 show d[i]! = d[i]
 exact getElem!_pos d i h
theorem byteAt_get (s : ByteArray) (i : Nat) (h : i < s.size) : byteAt s i = (s.get! i).toNat:=by
 unfold byteAt
 have h4 : s[i]? = some s[i]:=by simp [h]
 rw [h4,get_at s i h]
def chars (s : ByteArray) : Bool:=(List.range s.size).all (fun i=>okCh (byteAt s i))
theorem idx_ok (s : ByteArray) : ∀ (f pos : Nat),s.size ≤ pos + f → (0 ≤ Lib.idxFuncFrom (fun x=>!okCh x) true s f pos ↔ ∃ i,pos ≤ i ∧ i < s.size ∧ okCh (byteAt s i) = false)
 |0,pos,h=>by
  simp only [Lib.idxFuncFrom]
  constructor
  ·intro h;omega
  ·rintro ⟨i,a,b,_⟩;omega
 |f + 1,pos,h=>by
  unfold Lib.idxFuncFrom
  by_cases hp : pos < s.size
  case neg=>
   rw [if_neg hp]
   constructor
   ·intro h;omega
   ·rintro ⟨i,a,b,_⟩;omega
  rw [if_pos hp]
  have hd:=Lib.decode_at s pos
  have hb:=byteAt_get s pos hp
  rw [← hb] at hd
  by_cases hc : okCh (byteAt s pos) = true
  ·have hlt : byteAt s pos < 128:=by
    unfold okCh at hc
    simp only [Bool.or_eq_true,Bool.and_eq_true,decide_eq_true_eq] at hc
    omega
   have e : Utf8.decode s pos = (byteAt s pos,1):=by rw [hd];unfold Lib.decodeN;rw [if_pos hlt]
   rw [e]
   simp only []
   rw [hc,if_neg (by decide),idx_ok s f (pos + 1) (by omega)]
   constructor
   ·rintro ⟨i,a,b,d⟩;exact ⟨i,by omega,b,d⟩
   ·rintro ⟨i,a,b,d⟩
    refine ⟨i,?_,b,d⟩
    by_cases q : i = pos
    ·subst q;rw [hc] at d;cases d
    ·omega
  ·have hbad : okCh ((Utf8.decode s pos).1 : Nat) = false:=by
    by_cases hlt : byteAt s pos < 128
    ·have e : Utf8.decode s pos = (byteAt s pos,1):=by rw [hd];unfold Lib.decodeN;rw [if_pos hlt]
     rw [e];simpa using hc
    ·have : 128 ≤ (Utf8.decode s pos).1:=by
      rw [hd];unfold Lib.decodeN;rw [if_neg hlt]
      repeat' split
      all_goals (simp only [];omega)
     unfold okCh
     rw [Bool.or_eq_false_iff,Bool.and_eq_false_iff,Bool.and_eq_false_iff]
     simp only [decide_eq_false_iff_not]
     omega
   rw [hbad,if_pos (by decide)]
   exact ⟨fun _=>⟨pos,Nat.le_refl _,hp,by simpa using hc⟩,fun _=>by omega⟩
theorem idx_chars (s : ByteArray) : decide (0 ≤ Lib.idxFunc (fun x=>!okCh x) true s) = !chars s:=by
 have h:=idx_ok s s.size 0 (by omega)
 rw [Bool.eq_iff_iff,decide_eq_true_eq,Bool.not_eq_true']
 unfold Lib.idxFunc chars
 rw [h]
 constructor
 ·rintro ⟨i,_,a,b⟩
  rw [← Bool.not_eq_true,List.all_eq_true]
  intro q
  rw [q i (by simpa using a)] at b;cases b
 ·intro q
  rw [← Bool.not_eq_true,List.all_eq_true] at q
  apply Classical.byContradiction
  intro hn
  apply q
  intro i hi
  rw [← Bool.not_eq_false]
  intro hb
  exact hn ⟨i,by omega,by simpa using hi,hb⟩
def nameB (s : ByteArray) : Bool:=!decide (s.size = 0) && decide (s.size ≤ 20) && chars s
theorem fn81 (s : ByteArray) : Sy.Fn Tryz.prog 81 [stv s] (bv (nameB s)):=by
 refine Fn_of_W mixed Xt81 rfl ?_
 have c117:=fn117 s 118 (fun x=>!okCh x) (fun x _=>fn118 x)
 rw [idx_chars] at c117
 unfold nameB
 (refine go0 ?_;try exact tTI)
 refine W_cond (by rfl) (fun h=>?_) (fun h=>?_)
 ·have e : (!decide (s.size = 0) && decide (s.size ≤ 20)) = false:=by
   rw [Bool.or_eq_true,beq_iff_eq,decide_eq_true_eq] at h
   rw [Bool.and_eq_false_iff,Bool.not_eq_false',decide_eq_true_eq,decide_eq_false_iff_not]
   omega
  rw [e,Bool.false_and]
  (refine go0 ?_;try exact tTI)
  exact W_ret ⟨[_],⟨rfl,rfl⟩,rfl⟩
 ·have e : (!decide (s.size = 0) && decide (s.size ≤ 20)) = true:=by
   rw [Bool.or_eq_false_iff,beq_eq_false_iff_ne,decide_eq_false_iff_not] at h
   rw [Bool.and_eq_true,Bool.not_eq_true',decide_eq_false_iff_not,decide_eq_true_eq]
   omega
  rw [e,Bool.true_and]
  (refine go_c c117 ?_;try exact tTI)
  rw [Bool.not_not]
  exact W_ret ⟨[_],⟨rfl,rfl⟩,rfl⟩
end Go.Proofs.YtolnclkcokckeaaGreat
