/- Part 6 of the proof of: For every input the law TopOnGuide returns true: a point of a guide at a length is hardly off it, a track of such points is right, and one that is moved too far is refused. -/
import Derived.Test.YtgiedelaebdooaaGreatP5
import Derived.Lib.Mul64
import Derived.Laws.Bits64b
import Derived.Shelf.Strings.FuncGrows
namespace Go.Proofs.YtgiedelaebdooaaGreat
open Go Sy
set_option maxRecDepth 100000
set_option maxHeartbeats 4000000
set_option linter.unusedVariables false
set_option linter.unusedSimpArgs false
theorem mixed : Tryz.prog.follows .mixedOrders = true:=by kernel_rfl
abbrev iv (n : Int) : AV:=.v (.int .i64 n)
abbrev bv (b : Bool) : AV:=.v (.bool b)
abbrev uv (n : Nat) : AV:=.v (.int .u64 n)
theorem maskN (a : Nat) (ha : a < 18446744073709551616) : bits .and .u64 (a : Int) 4294967295 = ((a % 4294967296 : Nat) : Int):=by
 have h:=bits_and_u64_nat a 4294967295 ha (by omega)
 have e : a &&& 4294967295 = a % 4294967296:=Nat.and_two_pow_sub_one_eq_mod a 32
 rw [e] at h
 exact h
theorem shrC (a : Int) (s : Nat) (b : Int) (h : (2 : Int) ^ min s IntKind.u64.bits = b) (hb : 0 ≤ b) : a.fdiv (2 ^ min s IntKind.u64.bits) = a / b:=by
 rw [h,Int.fdiv_eq_ediv_of_nonneg _ hb]
theorem shr32 (a : Int) : a.fdiv (2 ^ min 32 IntKind.u64.bits) = a / 4294967296:=shrC a 32 _ (by decide) (by decide)
theorem shr16 (a : Int) : a.fdiv (2 ^ min 16 IntKind.u64.bits) = a / 65536:=shrC a 16 _ (by decide) (by decide)
theorem shr8 (a : Int) : a.fdiv (2 ^ min 8 IntKind.u64.bits) = a / 256:=shrC a 8 _ (by decide) (by decide)
theorem divN (a : Nat) : (a : Int) / 4294967296 = ((a / 4294967296 : Nat) : Int):=by omega
theorem mulN (a b : Nat) : (a : Int) * (b : Int) = ((a * b : Nat) : Int):=(Int.natCast_mul a b).symm
theorem addN (a b : Nat) : (a : Int) + (b : Int) = ((a + b : Nat) : Int):=(Int.natCast_add a b).symm
theorem wrapN (a : Nat) (ha : a < 18446744073709551616) : IntKind.u64.wrap (a : Int) = (a : Int):=by rw [IntKind.wrap_u64];omega
theorem wrapM (a : Nat) : IntKind.u64.wrap (a : Int) = ((a % 18446744073709551616 : Nat) : Int):=by rw [IntKind.wrap_u64];omega
theorem fn257 (x y : Nat) (hx : x < 18446744073709551616) (hy : y < 18446744073709551616) : Sy.Fn Tryz.prog 257 [uv x,uv y] (.tup [uv (x * y / 18446744073709551616),uv (x * y % 18446744073709551616)]):=by
 refine Fn_of_W mixed Xt257 rfl ?_
 obtain ⟨bd,bt,bw,hhi⟩:=Lib.mul64_hi x y hx hy
 have ba:=Lib.half_mul_le (a:=x / 4294967296) (b:=y / 4294967296) (by omega) (by omega)
 have bb:=Lib.half_mul_le (a:=x / 4294967296) (b:=y % 4294967296) (by omega) (by omega)
 have bc:=Lib.half_mul_le (a:=x % 4294967296) (b:=y / 4294967296) (by omega) (by omega)
 have ba' : x / 4294967296 * (y / 4294967296) < 18446744073709551616:=by omega
 have bb' : x / 4294967296 * (y % 4294967296) < 18446744073709551616:=by omega
 have bc' : x % 4294967296 * (y / 4294967296) < 18446744073709551616:=by omega
 have bh1 : x / 4294967296 * (y / 4294967296) + (x / 4294967296 * (y % 4294967296) + x % 4294967296 * (y % 4294967296) / 4294967296) / 4294967296 < 18446744073709551616:=by omega
 have bh : x / 4294967296 * (y / 4294967296) + (x / 4294967296 * (y % 4294967296) + x % 4294967296 * (y % 4294967296) / 4294967296) / 4294967296 + ((x / 4294967296 * (y % 4294967296) + x % 4294967296 * (y % 4294967296) / 4294967296) % 4294967296 + x % 4294967296 * (y / 4294967296)) / 4294967296 < 18446744073709551616:=by omega
 (refine go0 ?_;try exact tTI)
 simp only [maskN x hx,maskN y hy,shr32,divN,mulN,addN,wrapN _ bd,wrapN _ bb',wrapN _ bt,maskN _ bt,wrapN _ bc',wrapN _ bw,wrapN _ ba',wrapN _ bh1,wrapN _ bh,wrapM (x * y)]
 rw [hhi]
 exact W_ret ⟨[_,_],⟨rfl,rfl,rfl⟩,rfl⟩
abbrev uw (n : Int) : AV:=.v (.int .u64 n)
def Bits (x : Int) (n : Nat) : Prop:=2 ^ n ≤ 2 * x ∧ x < 2 ^ n
theorem Bits.up {x : Int} {n : Nat} (k : Nat) (h : Bits (x / 2 ^ k) n) : Bits x (n + k):=by
 obtain ⟨h1,h2⟩:=h
 have hk : (0 : Int) < 2 ^ k:=Int.pow_pos (by omega)
 have hm:=Int.mul_ediv_add_emod x (2 ^ k)
 have hr:=Int.emod_lt_of_pos x hk
 have hr0:=Int.emod_nonneg x (Int.ne_of_gt hk)
 have e : (2 : Int) ^ (n + k) = 2 ^ n * 2 ^ k:=Int.pow_add ..
 have m1:=Int.mul_le_mul_of_nonneg_right h1 (Int.le_of_lt hk)
 have m2:=Int.mul_le_mul_of_nonneg_right (show x / 2 ^ k + 1 ≤ 2 ^ n by omega) (Int.le_of_lt hk)
 unfold Bits
 rw [e]
 rw [Int.add_mul] at m2
 rw [Int.mul_assoc,Int.mul_comm (x / 2 ^ k)] at m1
 rw [Int.mul_comm (x / 2 ^ k)] at m2
 constructor <;> omega
def lo (b x : Int) : Int:=if b ≤ x then x / b else x
def nb (b : Int) (k : Nat) (x : Int) : Nat:=if b ≤ x then k else 0
theorem Bits.lo {b x : Int} {n : Nat} (k : Nat) (hb : (2 : Int) ^ k = b) (h : Bits (lo b x) n) : Bits x (n + nb b k x):=by
 unfold Go.Proofs.YtgiedelaebdooaaGreat.lo at h
 unfold nb
 subst hb
 split
 ·rename_i h1;rw [if_pos h1] at h;exact h.up k
 ·rename_i h1;rw [if_neg h1] at h;exact h
def tab : ByteArray:=⟨#[0,1,2,2,3,3,3,3,4,4,4,4,4,4,4,4,5,5,5,5,5,5,5,5,5,5,5,5,5,5,5,5,6,6,6,6,6,6,6,6,6,6,6,6,6,6,6,6,6,6,6,6,6,6,6,6,6,6,6,6,6,6,6,6,7,7,7,7,7,7,7,7,7,7,7,7,7,7,7,7,7,7,7,7,7,7,7,7,7,7,7,7,7,7,7,7,7,7,7,7,7,7,7,7,7,7,7,7,7,7,7,7,7,7,7,7,7,7,7,7,7,7,7,7,7,7,7,7,8,8,8,8,8,8,8,8,8,8,8,8,8,8,8,8,8,8,8,8,8,8,8,8,8,8,8,8,8,8,8,8,8,8,8,8,8,8,8,8,8,8,8,8,8,8,8,8,8,8,8,8,8,8,8,8,8,8,8,8,8,8,8,8,8,8,8,8,8,8,8,8,8,8,8,8,8,8,8,8,8,8,8,8,8,8,8,8,8,8,8,8,8,8,8,8,8,8,8,8,8,8,8,8,8,8,8,8,8,8,8,8,8,8,8,8,8,8,8,8,8,8,8,8,8,8,8,8]⟩
def tabOK (i : Nat) : Bool:=decide (byteAt tab i ≤ 8) && (decide (i = 0) || (decide (2 ^ byteAt tab i ≤ 2 * i) && decide (i < 2 ^ byteAt tab i)))
theorem tab_all : (List.range 256).all tabOK = true:=by decide +kernel
theorem tab_size : tab.size = 256:=by decide +kernel
theorem tab_bits {u : Int} (h0 : 0 ≤ u) (h : u < 256) : byteAt tab u.toNat ≤ 8 ∧ (0 < u → Bits u (byteAt tab u.toNat)):=by
 have h1:=List.all_eq_true.1 tab_all u.toNat (by simp;omega)
 unfold tabOK at h1
 simp only [Bool.and_eq_true,Bool.or_eq_true,decide_eq_true_eq] at h1
 refine ⟨h1.1,fun h2=>?_⟩
 have h3:=h1.2.resolve_left (by omega)
 unfold Bits
 have e : ((u.toNat : Nat) : Int) = u:=by omega
 generalize byteAt tab u.toNat = n at *
 have e2 : ((2 ^ n : Nat) : Int) = (2 : Int) ^ n:=Int.natCast_pow 2 n
 omega
theorem fn285 (x : Int) (h0 : 0 ≤ x) (hx : x < 18446744073709551616) : ∃ n : Nat,n ≤ 64 ∧ (0 < x → Bits x n) ∧ Sy.Fn Tryz.prog 285 [uw x] (iv n):=by
 generalize hy : lo 4294967296 x = y
 have hyb : 0 ≤ y ∧ y < 4294967296:=by subst hy;unfold lo;split <;> omega
 generalize hm : nb 4294967296 32 x = m
 have hmb : m ≤ 32:=by subst hm;unfold nb;split <;> omega
 generalize hz : lo 65536 y = z
 have hzb : 0 ≤ z ∧ z < 65536:=by subst hz;unfold lo;split <;> omega
 generalize hk : m + nb 65536 16 y = k
 have hkb : k ≤ 48:=by subst hk;unfold nb;split <;> omega
 generalize hu : lo 256 z = u
 have hub : 0 ≤ u ∧ u < 256:=by subst hu;unfold lo;split <;> omega
 generalize hj : k + nb 256 8 z = j
 have hjb : j ≤ 56:=by subst hj;unfold nb;split <;> omega
 have ht:=tab_bits hub.1 hub.2
 have hpos : 0 < x → 0 < u:=fun h=>by
  have h1 : 0 < y:=by subst hy;unfold lo;split <;> omega
  have h2 : 0 < z:=by subst hz;unfold lo;split <;> omega
  subst hu;unfold lo;split <;> omega
 refine ⟨j + byteAt tab u.toNat,by omega,fun h=>?_,?_⟩
 ·have h1:=ht.2 (hpos h)
  rw [← hu] at h1
  have h2:=h1.lo 8 (by decide)
  rw [hu,← hz] at h2
  have h3:=h2.lo 16 (by decide)
  rw [hz,← hy] at h3
  have h4:=h3.lo 32 (by decide)
  rw [hy] at h4
  rw [← hj,← hk,← hm]
  rw [show nb 4294967296 32 x + nb 65536 16 y + nb 256 8 z + byteAt tab u.toNat = byteAt tab u.toNat + nb 256 8 z + nb 65536 16 y + nb 4294967296 32 x by omega]
  exact h4
 refine Fn_of_W mixed Xt285 rfl ?_
 (refine go0 ?_;try exact tTI)
 refine W_meet [(0,uw y),(2,iv m)] [] ?_ ?_
 ·subst hy hm
  unfold lo nb
  refine W_condD (by rfl) (fun h=>?_) (fun h=>?_)
  ·rw [if_pos h,if_pos h]
   repeat' (first | refine w1g ?_ | refine w1l ?_ | refine w1q ?_ | refine w1b ?_ | refine w1p ?_ | ((first | refine w1r ?_ | refine w1k ?_ | refine w1e ?_);simp (maxSteps:=400000) (disch:=omega) only [push_cast,↓reduceIte,reduceCtorEq,Nat.reduceAdd,Nat.reduceSub,Nat.reduceEqDiff,Nat.reduceLeDiff,Nat.reduceLT,Nat.reduceBEq,Nat.reduceDiv,Nat.reduceMod,Nat.reducePow,Nat.reduceMul,Int.reduceToNat,Int.reduceLT,Int.reduceLE,shr32]) | refine an2 ?_ | fail)
   refine ⟨by rfl,?_⟩
   (refine syE ?_;try exact tTI)
   all_goals omega
  ·rw [if_neg h,if_neg h]
   (refine go0 ?_;try exact tTI)
   rfl
 (refine sy1 ?_;try exact tTI)
 (refine go0 ?_;try exact tTI)
 refine W_meet [(0,uw z),(2,iv k)] [] ?_ ?_
 ·subst hz hk
  unfold lo nb
  refine W_condD (by rfl) (fun h=>?_) (fun h=>?_)
  ·rw [if_pos h,if_pos h]
   repeat' (first | refine w1g ?_ | refine w1l ?_ | refine w1q ?_ | refine w1b ?_ | refine w1p ?_ | ((first | refine w1r ?_ | refine w1k ?_ | refine w1e ?_);simp (maxSteps:=400000) (disch:=omega) only [push_cast,↓reduceIte,reduceCtorEq,Nat.reduceAdd,Nat.reduceSub,Nat.reduceEqDiff,Nat.reduceLeDiff,Nat.reduceLT,Nat.reduceBEq,Nat.reduceDiv,Nat.reduceMod,Nat.reducePow,Nat.reduceMul,Int.reduceToNat,Int.reduceLT,Int.reduceLE,shr16]) | refine an2 ?_ | fail)
   refine ⟨by rfl,?_⟩
   (refine syE ?_;try exact tTI)
   all_goals omega
  ·rw [if_neg h,if_neg h]
   (refine go0 ?_;try exact tTI)
   rfl
 (refine sy1 ?_;try exact tTI)
 (refine go0 ?_;try exact tTI)
 refine W_meet [(0,uw u),(2,iv j)] [] ?_ ?_
 ·subst hu hj
  unfold lo nb
  refine W_condD (by rfl) (fun h=>?_) (fun h=>?_)
  ·rw [if_pos h,if_pos h]
   repeat' (first | refine w1g ?_ | refine w1l ?_ | refine w1q ?_ | refine w1b ?_ | refine w1p ?_ | ((first | refine w1r ?_ | refine w1k ?_ | refine w1e ?_);simp (maxSteps:=400000) (disch:=omega) only [push_cast,↓reduceIte,reduceCtorEq,Nat.reduceAdd,Nat.reduceSub,Nat.reduceEqDiff,Nat.reduceLeDiff,Nat.reduceLT,Nat.reduceBEq,Nat.reduceDiv,Nat.reduceMod,Nat.reducePow,Nat.reduceMul,Int.reduceToNat,Int.reduceLT,Int.reduceLE,shr8]) | refine an2 ?_ | fail)
   refine ⟨by rfl,?_⟩
   (refine syE ?_;try exact tTI)
   all_goals omega
  ·rw [if_neg h,if_neg h]
   (refine go0 ?_;try exact tTI)
   rfl
 (refine sy1 ?_;try exact tTI)
 have hw : IntKind.u8.wrap u = u:=by rw [IntKind.wrap_u8];omega
 refine W_seq (W_regL ?_)
 rw [show ({ data:=_ } : ByteArray) = tab from rfl]
 simp (maxSteps:=400000) (disch:=omega) only [push_cast,↓reduceIte,reduceCtorEq,Nat.reduceAdd,Nat.reduceSub,Nat.reduceEqDiff,Nat.reduceLeDiff,Nat.reduceLT,Nat.reduceBEq,Nat.reduceDiv,Nat.reduceMod,Nat.reducePow,Nat.reduceMul,Int.reduceToNat,Int.reduceLT,Int.reduceLE,hw,tab_size]
 refine ⟨⟨hub.1,hub.2⟩,?_⟩
 exact W_ret ⟨[_],⟨rfl,rfl⟩,rfl⟩
theorem fn296 (x : Int) (h0 : 0 < x) (hx : x < 18446744073709551616) : ∃ n : Nat,n ≤ 64 ∧ Bits x n ∧ Sy.Fn Tryz.prog 296 [uw x] (iv (64 - n)):=by
 obtain ⟨n,hn,hb,c⟩:=fn285 x (by omega) hx
 refine ⟨n,hn,hb h0,?_⟩
 refine Fn_of_W mixed Xt296 rfl ?_
 (refine go_c c ?_;try exact tTI)
 exact W_ret ⟨[_],⟨rfl,rfl⟩,rfl⟩
structure Half (Y u d : Int) : Prop where
 y : 9223372036854775808 ≤ Y ∧ Y < 18446744073709551616
 u : 0 ≤ u ∧ u < Y
 d : 0 ≤ d ∧ d < 4294967296
def Half.q (Y u d : Int) : Int:=(u * 4294967296 + d) / Y
theorem split_Y (Y q : Int) : q * Y = (q * (Y / 4294967296)) * 4294967296 + q * (Y % 4294967296):=by
 have h : Y = Y / 4294967296 * 4294967296 + Y % 4294967296:=by omega
 rw [Int.mul_assoc,← Int.mul_add,← h]
theorem Half.no {Y u d q r : Int} (h : Half Y u d) (e : q * (Y / 4294967296) + r = u) (hc : q * (Y % 4294967296) ≤ 4294967296 * r + d) : q ≤ Half.q Y u d:=by
 unfold Half.q
 have:=h.y
 rw [Int.le_ediv_iff_mul_le (by omega),split_Y Y q]
 omega
theorem Half.yes {Y u d q r : Int} (h : Half Y u d) (e : q * (Y / 4294967296) + r = u) (hc : 4294967296 * r + d < q * (Y % 4294967296)) : Half.q Y u d < q:=by
 unfold Half.q
 have:=h.y
 rw [Int.ediv_lt_iff_lt_mul (by omega),split_Y Y q]
 omega
theorem Half.lt {Y u d : Int} (h : Half Y u d) : 0 ≤ Half.q Y u d ∧ Half.q Y u d < 4294967296:=by
 have h1:=h.y;have h2:=h.u;have h3:=h.d
 unfold Half.q
 constructor
 ·exact Int.ediv_nonneg (by omega) (by omega)
 ·rw [Int.ediv_lt_iff_lt_mul (by omega)]
  omega
theorem Half.start {Y u d : Int} (h : Half Y u d) : u / (Y / 4294967296) * (Y / 4294967296) + u % (Y / 4294967296) = u ∧ Half.q Y u d ≤ u / (Y / 4294967296) ∧ u / (Y / 4294967296) ≤ 4294967297 ∧ 0 ≤ u % (Y / 4294967296) ∧ u % (Y / 4294967296) < 4294967296:=by
 have h1:=h.y;have h2:=h.u;have h3:=h.d
 have hlt:=h.lt
 have hp : 0 < Y / 4294967296:=by omega
 have e:=Int.ediv_mul_add_emod u (Y / 4294967296)
 have e1:=Int.emod_nonneg u (Int.ne_of_gt hp)
 have e2:=Int.emod_lt_of_pos u hp
 refine ⟨e,?_,?_,e1,by omega⟩
 ·rw [Int.le_ediv_iff_mul_le hp]
  have h4 : Half.q Y u d * Y ≤ u * 4294967296 + d:=Int.ediv_mul_le _ (by omega)
  rw [split_Y Y (Half.q Y u d)] at h4
  have h5 : 0 ≤ Half.q Y u d * (Y % 4294967296):=Int.mul_nonneg hlt.1 (by omega)
  omega
 ·have h4 : u / (Y / 4294967296) < 4294967298:=by
   rw [Int.ediv_lt_iff_lt_mul hp]
   omega
  omega
theorem Half.step {Y u d q r : Int} (h : Half Y u d) (e : q * (Y / 4294967296) + r = u) (hq : Half.q Y u d ≤ q) (hc : 4294967296 ≤ q ∨ 4294967296 * r + d < q * (Y % 4294967296)) : (q - 1) * (Y / 4294967296) + (r + Y / 4294967296) = u ∧ Half.q Y u d ≤ q - 1:=by
 have hlt:=h.lt
 refine ⟨by rw [Int.sub_mul,Int.one_mul];omega,?_⟩
 rcases hc with hc | hc
 ·omega
 ·have:=h.yes e hc;omega
theorem Half.break {Y u d q r : Int} (h : Half Y u d) (e : q * (Y / 4294967296) + r = u) (hq : Half.q Y u d ≤ q) (hb : q ≤ 4294967296) (hr : 4294967296 ≤ r) : q = Half.q Y u d:=by
 have h1:=h.y;have h2:=h.u;have h3:=h.d
 have hlt:=h.lt
 have m : q * (Y % 4294967296) ≤ 4294967296 * 4294967295:=Int.mul_le_mul hb (by omega) (by omega) (by omega)
 have:=h.no e (by omega)
 omega
theorem Half.stop {Y u d q r : Int} (h : Half Y u d) (e : q * (Y / 4294967296) + r = u) (hq : Half.q Y u d ≤ q) (hc : q * (Y % 4294967296) ≤ 4294967296 * r + d) : q = Half.q Y u d:=by
 have:=h.no e hc
 omega
def Half.r (Y u d : Int) : Int:=u * 4294967296 + d - Half.q Y u d * Y
theorem Half.r_lt {Y u d : Int} (h : Half Y u d) : 0 ≤ Half.r Y u d ∧ Half.r Y u d < Y:=by
 have h1:=h.y
 have e:=Int.ediv_mul_add_emod (u * 4294967296 + d) Y
 have e1:=Int.emod_nonneg (u * 4294967296 + d) (show Y ≠ 0 by omega)
 have e2:=Int.emod_lt_of_pos (u * 4294967296 + d) (show 0 < Y by omega)
 unfold Half.r Half.q
 omega
theorem long_div {y P N u d1 d0 : Int} (hy : 0 < y) (hP : 0 < P) (e : N * P = u * 18446744073709551616 + d1 * 4294967296 + d0) (h : Half (y * P) u d1) (h0 : Half (y * P) (Half.r (y * P) u d1) d0) :
  Half.q (y * P) u d1 * 4294967296 + Half.q (y * P) (Half.r (y * P) u d1) d0 = N / y ∧ Half.r (y * P) (Half.r (y * P) u d1) d0 / P = N % y:=by
 have hr:=h0.r_lt
 have e1 : Half.r (y * P) u d1 = u * 4294967296 + d1 - Half.q (y * P) u d1 * (y * P):=rfl
 have e2 : Half.r (y * P) (Half.r (y * P) u d1) d0 = Half.r (y * P) u d1 * 4294967296 + d0 - Half.q (y * P) (Half.r (y * P) u d1) d0 * (y * P):=rfl
 generalize hR0 : Half.r (y * P) (Half.r (y * P) u d1) d0 = R0 at *
 generalize hR1 : Half.r (y * P) u d1 = R1 at *
 generalize hq1 : Half.q (y * P) u d1 = q1 at *
 generalize hq0 : Half.q (y * P) R1 d0 = q0 at *
 have e3 : (q1 * 4294967296 + q0) * (y * P) = q1 * (y * P) * 4294967296 + q0 * (y * P):=by
  rw [Int.add_mul,Int.mul_assoc,Int.mul_comm 4294967296,← Int.mul_assoc]
 have e4 : R0 = (N - (q1 * 4294967296 + q0) * y) * P:=by
  rw [Int.sub_mul,Int.mul_assoc,e3]
  omega
 have e5 : R0 / P = N - (q1 * 4294967296 + q0) * y:=by
  rw [e4,Int.mul_ediv_cancel _ (Int.ne_of_gt hP)]
 have e6 : 0 ≤ N - (q1 * 4294967296 + q0) * y:=by
  rw [e4] at hr
  exact Int.nonneg_of_mul_nonneg_left hr.1 hP
 have e7 : N - (q1 * 4294967296 + q0) * y < y:=by
  rw [e4] at hr
  exact Int.lt_of_mul_lt_mul_right hr.2 (Int.le_of_lt hP)
 have e8 : N / y = q1 * 4294967296 + q0:=by
  have h1 : q1 * 4294967296 + q0 ≤ N / y:=by rw [Int.le_ediv_iff_mul_le hy];omega
  have h2 : N / y < q1 * 4294967296 + q0 + 1:=by rw [Int.ediv_lt_iff_lt_mul hy,Int.add_mul];omega
  omega
 refine ⟨e8.symm,?_⟩
 rw [e5,Int.emod_def,e8,Int.mul_comm]
theorem shift_up {y : Int} {n : Nat} (h : Bits y n) (hn : n ≤ 64) : 9223372036854775808 ≤ y * 2 ^ (64 - n) ∧ y * 2 ^ (64 - n) < 18446744073709551616:=by
 obtain ⟨h1,h2⟩:=h
 have hk : (0 : Int) < 2 ^ (64 - n):=Int.pow_pos (by omega)
 have e : (2 : Int) ^ n * 2 ^ (64 - n) = 18446744073709551616:=by
  rw [← Int.pow_add,show n + (64 - n) = 64 by omega];rfl
 have m1:=Int.mul_le_mul_of_nonneg_right h1 (Int.le_of_lt hk)
 have m2:=Int.mul_lt_mul_of_pos_right h2 hk
 rw [Int.mul_assoc] at m1
 omega
theorem shift_parts {hi lo y : Int} {n : Nat} (hn : n ≤ 64) (h : 0 ≤ hi ∧ hi < y) (hl : 0 ≤ lo ∧ lo < 18446744073709551616) :
  (hi * 18446744073709551616 + lo) * 2 ^ (64 - n) = (hi * 2 ^ (64 - n) + lo / 2 ^ n) * 18446744073709551616 + lo * 2 ^ (64 - n) % 18446744073709551616 ∧
  0 ≤ hi * 2 ^ (64 - n) + lo / 2 ^ n ∧ hi * 2 ^ (64 - n) + lo / 2 ^ n < y * 2 ^ (64 - n) ∧ 0 ≤ lo / 2 ^ n ∧ lo / 2 ^ n < 2 ^ (64 - n):=by
 have hk : (0 : Int) < 2 ^ (64 - n):=Int.pow_pos (by omega)
 have hk2 : (0 : Int) < 2 ^ n:=Int.pow_pos (by omega)
 have e : (2 : Int) ^ n * 2 ^ (64 - n) = 18446744073709551616:=by
  rw [← Int.pow_add,show n + (64 - n) = 64 by omega];rfl
 have e2 : lo * 2 ^ (64 - n) / 18446744073709551616 = lo / 2 ^ n:=by
  rw [← e];exact Int.mul_ediv_mul_of_pos_left _ _ hk
 have h1 : 0 ≤ lo / 2 ^ n:=Int.ediv_nonneg hl.1 (Int.le_of_lt hk2)
 have h2 : lo / 2 ^ n < 2 ^ (64 - n):=by
  rw [Int.ediv_lt_iff_lt_mul hk2,Int.mul_comm,e];exact hl.2
 have h3 : 0 ≤ hi * 2 ^ (64 - n):=Int.mul_nonneg h.1 (Int.le_of_lt hk)
 have h4:=Int.mul_le_mul_of_nonneg_right (show hi + 1 ≤ y by omega) (Int.le_of_lt hk)
 rw [Int.add_mul,Int.one_mul] at h4
 refine ⟨?_,by omega,by omega,h1,h2⟩
 rw [Int.add_mul,Int.mul_assoc,Int.mul_comm 18446744073709551616,← Int.mul_assoc]
 omega
theorem or_add {a b : Int} {k : Nat} (ha : 0 ≤ a) (hb : 0 ≤ b) (hlt : b < 2 ^ k) (h : a * 2 ^ k + b < 18446744073709551616) : bits .or .u64 (a * 2 ^ k) b = a * 2 ^ k + b:=by
 obtain ⟨x,rfl⟩ : ∃ x : Nat,a = x:=⟨a.toNat,by omega⟩
 obtain ⟨y,rfl⟩ : ∃ y : Nat,b = y:=⟨b.toNat,by omega⟩
 have e : (x : Int) * 2 ^ k = ((x * 2 ^ k : Nat) : Int):=by rw [Int.natCast_mul,Int.natCast_pow];rfl
 have hl : y < 2 ^ k:=by
  have : ((2 ^ k : Nat) : Int) = (2 : Int) ^ k:=Int.natCast_pow 2 k
  omega
 rw [e] at h ⊢
 rw [bits_or_u64_nat _ _ (by omega) (by omega),← Nat.shiftLeft_eq,← Nat.shiftLeft_add_eq_or_of_lt hl]
 omega
theorem wrapU {x : Int} (h : 0 ≤ x ∧ x < 18446744073709551616) : IntKind.u64.wrap x = x:=by rw [IntKind.wrap_u64];omega
theorem maskI {a : Int} (h : 0 ≤ a ∧ a < 18446744073709551616) : bits .and .u64 a 4294967295 = a % 4294967296:=by
 obtain ⟨n,rfl⟩ : ∃ n : Nat,a = n:=⟨a.toNat,by omega⟩
 rw [maskN n (by omega)];omega
theorem wrap_rem {a b c r : Int} (h : a + b - c = r) (hr : 0 ≤ r ∧ r < 18446744073709551616) : IntKind.u64.wrap (IntKind.u64.wrap (IntKind.u64.wrap a + b) - IntKind.u64.wrap c) = r:=by
 simp only [IntKind.wrap_u64];omega
theorem fn258 (hi lo y : Int) (h : 0 ≤ hi ∧ hi < y) (hl : 0 ≤ lo ∧ lo < 18446744073709551616) (hy : y < 18446744073709551616) : Sy.Fn Tryz.prog 258 [uw hi,uw lo,uw y] (.tup [uw ((hi * 18446744073709551616 + lo) / y),uw ((hi * 18446744073709551616 + lo) % y)]):=by
 refine Fn_of_W mixed Xt258 rfl ?_
 obtain ⟨n,hn,hb,c⟩:=fn296 y (by omega) hy
 have hsu:=shift_up hb hn
 obtain ⟨hp1,hp2,hp3,hp4,hp5⟩:=shift_parts hn h hl
 (refine go0 ?_;try exact tTI)
 refine W_cond (by rfl) (fun h1=>by rw [beq_iff_eq] at h1;omega) (fun _=>?_)
 (refine go0 ?_;try exact tTI)
 refine W_condD (by rfl) (fun h1=>by omega) (fun _=>?_)
 (refine go0 ?_;try exact tTI)
 refine W_cond (by rfl) (fun h1=>?_) (fun h1=>?_)
 ·rw [beq_iff_eq] at h1
  subst h1
  have e1:=Int.ediv_nonneg hl.1 (show 0 ≤ y by omega)
  have e2 : lo / y ≤ lo:=Int.ediv_le_self _ hl.1
  repeat' (first | refine w1g ?_ | refine w1l ?_ | refine w1q ?_ | refine w1b ?_ | refine w1p ?_ | ((first | refine w1r ?_ | refine w1k ?_ | refine w1e ?_);simp (maxSteps:=400000) (disch:=omega) only [push_cast,↓reduceIte,reduceCtorEq,Nat.reduceAdd,Nat.reduceSub,Nat.reduceEqDiff,Nat.reduceLeDiff,Nat.reduceLT,Nat.reduceBEq,Nat.reduceDiv,Nat.reduceMod,Nat.reducePow,Nat.reduceMul,Int.reduceToNat,Int.reduceLT,Int.reduceLE,Int.tdiv_eq_ediv_of_nonneg,Int.tmod_eq_emod_of_nonneg,wrapU]) | refine an2 ?_ | fail)
  exact W_ret ⟨[_,_],⟨rfl,rfl,rfl⟩,by simp;rfl⟩
 have w1 : IntKind.u64.wrap (64 - (n : Int)) = 64 - n:=wrapU ⟨by omega,by omega⟩
 have w2 : min (64 - (n : Int)).toNat IntKind.u64.bits = 64 - n:=by show min _ 64 = _;omega
 have w3 : min n IntKind.u64.bits = n:=by show min _ 64 = _;omega
 have w4 : IntKind.u64.wrap (n : Int) = n:=wrapU ⟨by omega,by omega⟩
 have hk : (0 : Int) < 2 ^ (64 - n):=Int.pow_pos (by omega)
 have hh : 0 ≤ hi * 2 ^ (64 - n):=Int.mul_nonneg h.1 (Int.le_of_lt hk)
 have w5 : IntKind.u64.wrap (64 - (64 - (n : Int))) = n:=by rw [show 64 - (64 - (n : Int)) = n by omega];exact w4
 have w6 : IntKind.u64.wrap (y * 2 ^ (64 - n)) = y * 2 ^ (64 - n):=wrapU (by omega)
 have w7 : IntKind.u64.wrap (hi * 2 ^ (64 - n)) = hi * 2 ^ (64 - n):=wrapU (by omega)
 have w8 : lo.fdiv (2 ^ n) = lo / 2 ^ n:=Int.fdiv_eq_ediv_of_nonneg _ (Int.le_of_lt (Int.pow_pos (by omega)))
 have w9:=or_add (a:=hi) (b:=lo / 2 ^ n) (k:=64 - n) h.1 hp4 hp5 (by omega)
 have w10 : IntKind.u64.wrap (lo * 2 ^ (64 - n)) = lo * 2 ^ (64 - n) % 18446744073709551616:=IntKind.wrap_u64 _
 have wm:=maskI (a:=y * 2 ^ (64 - n)) (by omega)
 have wm2:=maskI (a:=lo * 2 ^ (64 - n) % 18446744073709551616) (by omega)
 have hld:=fun d1 d0=>long_div (y:=y) (P:=2 ^ (64 - n)) (N:=hi * 18446744073709551616 + lo) (u:=hi * 2 ^ (64 - n) + lo / 2 ^ n) (d1:=d1) (d0:=d0) (by omega) hk
 repeat' (first | refine w1g ?_ | refine w1l ?_ | refine w1q ?_ | refine w1b ?_ | refine w1p ?_ | ((first | refine w1r ?_ | refine w1k ?_ | refine w1e ?_ | refine CallC.now (c) ?_);simp (maxSteps:=400000) (disch:=omega) only [push_cast,↓reduceIte,reduceCtorEq,Nat.reduceAdd,Nat.reduceSub,Nat.reduceEqDiff,Nat.reduceLeDiff,Nat.reduceLT,Nat.reduceBEq,Nat.reduceDiv,Nat.reduceMod,Nat.reducePow,Nat.reduceMul,Int.reduceToNat,Int.reduceLT,Int.reduceLE,w1,w2,w3,w4,w5,w6,w7,w8,w9,w10,wm,wm2,shr32]) | refine an2 ?_ | fail)
 generalize hD : y * 2 ^ (64 - n) = Y at *
 generalize hU : hi * 2 ^ (64 - n) + lo / 2 ^ n = u at *
 generalize hE : lo * 2 ^ (64 - n) % 18446744073709551616 = e at *
 have heb : 0 ≤ e ∧ e < 18446744073709551616:=by subst hE;omega
 have H1 : Half Y u (e / 4294967296):=⟨hsu,⟨hp2,hp3⟩,by omega⟩
 obtain ⟨s1,s2,s3,s4,s5⟩:=H1.start
 have v1 : u.tdiv (Y / 4294967296) = u / (Y / 4294967296):=Int.tdiv_eq_ediv_of_nonneg hp2
 have s0 : 0 ≤ u / (Y / 4294967296):=Int.ediv_nonneg hp2 (by omega)
 have v2 : IntKind.u64.wrap (u / (Y / 4294967296)) = u / (Y / 4294967296):=wrapU (by omega)
 have s00 : 0 ≤ u / (Y / 4294967296) * (Y / 4294967296):=Int.mul_nonneg s0 (by omega)
 have v3 : IntKind.u64.wrap (u / (Y / 4294967296) * (Y / 4294967296)) = u / (Y / 4294967296) * (Y / 4294967296):=wrapU (by omega)
 have v4 : IntKind.u64.wrap (u - u / (Y / 4294967296) * (Y / 4294967296)) = u % (Y / 4294967296):=by
  rw [show u - u / (Y / 4294967296) * (Y / 4294967296) = u % (Y / 4294967296) by omega];exact wrapU (by omega)
 rw [v1,v2,v3,v4]
 generalize hq0 : u / (Y / 4294967296) = q0 at *
 generalize hr0 : u % (Y / 4294967296) = r0 at *
 generalize hQ : Half.q Y u (e / 4294967296) = Q1 at *
 have wd : 0 ≤ e / 4294967296 ∧ e / 4294967296 < 4294967296:=by omega
 have we : 0 ≤ e % 4294967296 ∧ e % 4294967296 < 4294967296:=by omega
 have hQb:=H1.lt
 refine W_meetB [(15,uw Q1)] [] ?_ ?_
 ·refine W_loopU (fun p : Int × Int=>[(15,uw p.1),(16,uw p.2)]) (fun i=>[]) (fun p=>p.1 * (Y / 4294967296) + p.2 = u ∧ Q1 ≤ p.1 ∧ p.1 ≤ 4294967297 ∧ 0 ≤ p.2 ∧ p.2 < 4294967296) (fun p=>p.1.toNat) (q0,r0) ⟨s1,s2,s3,s4,s5⟩ (by rfl) (by rfl) (fun p hp=>?_)
  obtain ⟨q,r⟩:=p
  obtain ⟨i1,i2,i3,i4,i5⟩:=hp
  simp only at i1 i2 i3 i4 i5
  have m0 : 0 ≤ q * (Y % 4294967296):=Int.mul_nonneg (by omega) (by omega)
  have v5 : IntKind.u64.wrap (4294967296 * r) = 4294967296 * r:=wrapU (by omega)
  have v6 : IntKind.u64.wrap (4294967296 * r + e / 4294967296) = 4294967296 * r + e / 4294967296:=wrapU (by omega)
  have m1 : q < 4294967296 → q * (Y % 4294967296) ≤ 4294967295 * 4294967295:=fun hq=>Int.mul_le_mul (by omega) (by omega) (by omega) (by omega)
  have v7 : q < 4294967296 → IntKind.u64.wrap (q * (Y % 4294967296)) = q * (Y % 4294967296):=fun hq=>wrapU ⟨m0,by have:=m1 hq;omega⟩
  (refine sy1 ?_;try exact tTI)
  (refine gof (ad2 v5 v6) ?_;try exact tTI)
  refine W_cond (by rfl) (fun hb=>?_) (fun hb=>?_)
  ·have hc : 4294967296 ≤ q ∨ 4294967296 * r + e / 4294967296 < q * (Y % 4294967296):=by
    rw [Bool.or_eq_true,decide_eq_true_eq,decide_eq_true_eq] at hb
    by_cases hq : 4294967296 ≤ q
    ·exact .inl hq
    ·rw [v7 (by omega)] at hb
     exact .inr (hb.resolve_left hq)
   obtain ⟨t1,t2⟩:=H1.step i1 (by rw [hQ];exact i2) hc
   rw [hQ] at t2
   have v8 : IntKind.u64.wrap (q - 1) = q - 1:=wrapU (by omega)
   have v9 : IntKind.u64.wrap (r + Y / 4294967296) = r + Y / 4294967296:=wrapU (by omega)
   (refine gof (ad2 v8 v9) ?_;try exact tTI)
   refine W_condD (by rfl) (fun hr=>?_) (fun hr=>?_)
   ·have hbr:=H1.break t1 (by rw [hQ];exact t2) (by omega) hr
    rw [hQ] at hbr
    (refine go0 ?_;try exact tTI)
    refine ⟨by rfl,?_⟩
    (refine eqf hbr ?_;try exact tTI)
   ·(refine go0 ?_;try exact tTI)
    refine ⟨(q - 1,r + Y / 4294967296),⟨t1,t2,by simp only [];omega,by simp only [];omega,by simp only [];omega⟩,by simp only [];omega,by rfl,?_⟩
    (refine syE ?_;try exact tTI)
  ·rw [Bool.or_eq_false_iff,decide_eq_false_iff_not,decide_eq_false_iff_not] at hb
   have hst:=H1.stop i1 (by rw [hQ];exact i2) (by rw [v7 (by omega)] at hb;omega)
   rw [hQ] at hst
   (refine go0 ?_;try exact tTI)
   refine ⟨by rfl,?_⟩
   (refine eqf hst ?_;try exact tTI)
 generalize hR : Half.r Y u (e / 4294967296) = R1 at *
 have hRb:=H1.r_lt
 rw [hR] at hRb
 have H0 : Half Y R1 (e % 4294967296):=⟨hsu,hRb,we⟩
 have hR' : u * 4294967296 + e / 4294967296 - Q1 * Y = R1:=by rw [← hR,← hQ];rfl
 have x1 : IntKind.u64.wrap (IntKind.u64.wrap (IntKind.u64.wrap (u * 4294967296) + e / 4294967296) - IntKind.u64.wrap (Q1 * Y)) = R1:=wrap_rem hR' (by omega)
 obtain ⟨s1',s2',s3',s4',s5'⟩:=H0.start
 have v1' : R1.tdiv (Y / 4294967296) = R1 / (Y / 4294967296):=Int.tdiv_eq_ediv_of_nonneg hRb.1
 have s0' : 0 ≤ R1 / (Y / 4294967296):=Int.ediv_nonneg hRb.1 (by omega)
 have v2' : IntKind.u64.wrap (R1 / (Y / 4294967296)) = R1 / (Y / 4294967296):=wrapU (by omega)
 have s00' : 0 ≤ R1 / (Y / 4294967296) * (Y / 4294967296):=Int.mul_nonneg s0' (by omega)
 have v3' : IntKind.u64.wrap (R1 / (Y / 4294967296) * (Y / 4294967296)) = R1 / (Y / 4294967296) * (Y / 4294967296):=wrapU (by omega)
 have v4' : IntKind.u64.wrap (R1 - R1 / (Y / 4294967296) * (Y / 4294967296)) = R1 % (Y / 4294967296):=by
  rw [show R1 - R1 / (Y / 4294967296) * (Y / 4294967296) = R1 % (Y / 4294967296) by omega];exact wrapU (by omega)
 (refine sy1 ?_;try exact tTI)
 repeat' (first | refine w1g ?_ | refine w1l ?_ | refine w1q ?_ | refine w1b ?_ | refine w1p ?_ | ((first | refine w1r ?_ | refine w1k ?_ | refine w1e ?_);simp (maxSteps:=400000) (disch:=omega) only [push_cast,↓reduceIte,reduceCtorEq,Nat.reduceAdd,Nat.reduceSub,Nat.reduceEqDiff,Nat.reduceLeDiff,Nat.reduceLT,Nat.reduceBEq,Nat.reduceDiv,Nat.reduceMod,Nat.reducePow,Nat.reduceMul,Int.reduceToNat,Int.reduceLT,Int.reduceLE,x1,v1',v2',v3',v4']) | refine an2 ?_ | fail)
 generalize hq0' : R1 / (Y / 4294967296) = q0' at *
 generalize hr0' : R1 % (Y / 4294967296) = r0' at *
 generalize hQ' : Half.q Y R1 (e % 4294967296) = Q0 at *
 have hQb':=H0.lt
 rw [hQ] at hQb
 rw [hQ'] at hQb'
 refine W_meetB [(18,uw Q0)] [] ?_ ?_
 ·refine W_loopU (fun p : Int × Int=>[(18,uw p.1),(16,uw p.2)]) (fun i=>[]) (fun p=>p.1 * (Y / 4294967296) + p.2 = R1 ∧ Q0 ≤ p.1 ∧ p.1 ≤ 4294967297 ∧ 0 ≤ p.2 ∧ p.2 < 4294967296) (fun p=>p.1.toNat) (q0',r0') ⟨s1',s2',s3',s4',s5'⟩ (by rfl) (by rfl) (fun p hp=>?_)
  obtain ⟨q,r⟩:=p
  obtain ⟨i1,i2,i3,i4,i5⟩:=hp
  simp only at i1 i2 i3 i4 i5
  have m0 : 0 ≤ q * (Y % 4294967296):=Int.mul_nonneg (by omega) (by omega)
  have v5 : IntKind.u64.wrap (4294967296 * r) = 4294967296 * r:=wrapU (by omega)
  have v6 : IntKind.u64.wrap (4294967296 * r + e % 4294967296) = 4294967296 * r + e % 4294967296:=wrapU (by omega)
  have m1 : q < 4294967296 → q * (Y % 4294967296) ≤ 4294967295 * 4294967295:=fun hq=>Int.mul_le_mul (by omega) (by omega) (by omega) (by omega)
  have v7 : q < 4294967296 → IntKind.u64.wrap (q * (Y % 4294967296)) = q * (Y % 4294967296):=fun hq=>wrapU ⟨m0,by have:=m1 hq;omega⟩
  (refine sy1 ?_;try exact tTI)
  (refine gof (ad2 v5 v6) ?_;try exact tTI)
  refine W_cond (by rfl) (fun hb=>?_) (fun hb=>?_)
  ·have hc : 4294967296 ≤ q ∨ 4294967296 * r + e % 4294967296 < q * (Y % 4294967296):=by
    rw [Bool.or_eq_true,decide_eq_true_eq,decide_eq_true_eq] at hb
    by_cases hq : 4294967296 ≤ q
    ·exact .inl hq
    ·rw [v7 (by omega)] at hb
     exact .inr (hb.resolve_left hq)
   obtain ⟨t1,t2⟩:=H0.step i1 (by rw [hQ'];exact i2) hc
   rw [hQ'] at t2
   have v8 : IntKind.u64.wrap (q - 1) = q - 1:=wrapU (by omega)
   have v9 : IntKind.u64.wrap (r + Y / 4294967296) = r + Y / 4294967296:=wrapU (by omega)
   (refine gof (ad2 v8 v9) ?_;try exact tTI)
   refine W_condD (by rfl) (fun hr=>?_) (fun hr=>?_)
   ·have hbr:=H0.break t1 (by rw [hQ'];exact t2) (by omega) hr
    rw [hQ'] at hbr
    (refine go0 ?_;try exact tTI)
    refine ⟨by rfl,?_⟩
    (refine eqf hbr ?_;try exact tTI)
   ·(refine go0 ?_;try exact tTI)
    refine ⟨(q - 1,r + Y / 4294967296),⟨t1,t2,by simp only [];omega,by simp only [];omega,by simp only [];omega⟩,by simp only [];omega,by rfl,?_⟩
    (refine syE ?_;try exact tTI)
  ·rw [Bool.or_eq_false_iff,decide_eq_false_iff_not,decide_eq_false_iff_not] at hb
   have hst:=H0.stop i1 (by rw [hQ'];exact i2) (by rw [v7 (by omega)] at hb;omega)
   rw [hQ'] at hst
   (refine go0 ?_;try exact tTI)
   refine ⟨by rfl,?_⟩
   (refine eqf hst ?_;try exact tTI)
 have hQR:=hld (e / 4294967296) (e % 4294967296) (by omega) H1 (by rw [hR];exact H0)
 rw [hR,hQ,hQ'] at hQR
 have hR0 : R1 * 4294967296 + e % 4294967296 - Q0 * Y = Half.r Y R1 (e % 4294967296):=by rw [← hQ'];rfl
 have hRb0:=H0.r_lt
 have x2:=wrap_rem hR0 (by omega)
 have x3 : IntKind.u64.wrap (Q1 * 4294967296) = Q1 * 4294967296:=wrapU (by omega)
 have x4 : IntKind.u64.wrap (Q1 * 4294967296 + Q0) = Q1 * 4294967296 + Q0:=wrapU (by omega)
 have x5 : (Half.r Y R1 (e % 4294967296)).fdiv (2 ^ (64 - n)) = Half.r Y R1 (e % 4294967296) / 2 ^ (64 - n):=Int.fdiv_eq_ediv_of_nonneg _ (Int.le_of_lt hk)
 (refine sy1 ?_;try exact tTI)
 (refine gof (ad5 x2 x3 x4 w2 x5) ?_;try exact tTI)
 rw [hQR.1,hQR.2]
 exact W_ret ⟨[_,_],⟨rfl,rfl,rfl⟩,rfl⟩
theorem c257 (x y : Int) (hx : 0 ≤ x ∧ x < 18446744073709551616) (hy : 0 ≤ y ∧ y < 18446744073709551616) : Sy.Fn Tryz.prog 257 [uw x,uw y] (.tup [uw (x * y / 18446744073709551616),uw (x * y % 18446744073709551616)]):=by
 obtain ⟨n,rfl⟩ : ∃ n : Nat,x = n:=⟨x.toNat,by omega⟩
 obtain ⟨m,rfl⟩ : ∃ m : Nat,y = m:=⟨y.toNat,by omega⟩
 have h:=fn257 n m (by omega) (by omega)
 have e : (n : Int) * m = ((n * m : Nat) : Int):=(Int.natCast_mul n m).symm
 rw [e]
 exact h
def ab (a : Int) : Int:=max a (0 - a)
theorem ab_mul (a b : Int) : ab a * ab b = if decide (a < 0) != decide (b < 0) then -(a * b) else a * b:=by
 unfold ab
 by_cases ha : a < 0 <;> by_cases hb : b < 0
 ·rw [show max a (0 - a) = -a by omega,show max b (0 - b) = -b by omega,Int.neg_mul_neg];simp [ha,hb]
 ·rw [show max a (0 - a) = -a by omega,show max b (0 - b) = b by omega,Int.neg_mul];simp [ha,hb]
 ·rw [show max a (0 - a) = a by omega,show max b (0 - b) = -b by omega,Int.mul_neg];simp [ha,hb]
 ·rw [show max a (0 - a) = a by omega,show max b (0 - b) = b by omega];simp [ha,hb]
abbrev aFr (a b d : Int) : AV:=.agg [iv a,iv b,iv d]
structure FrOK (a b d : Int) : Prop where
 ha : -9223372036854775807 ≤ a ∧ a ≤ 9223372036854775807
 hb : -9223372036854775807 ≤ b ∧ b ≤ 9223372036854775807
 hd : 0 < d ∧ d ≤ 9223372036854775807
 hq : ab a * ab b < d * 4611686018427387904
theorem fn230 (a b d : Int) (h : FrOK a b d) : Sy.Fn Tryz.prog 230 [aFr a b d] (.tup [iv (ab a * ab b / d),bv (decide (0 < ab a * ab b % d)),bv (decide (a < 0) != decide (b < 0))]):=by
 refine Fn_of_W mixed Xt230 rfl ?_
 have ha:=h.ha;have hb:=h.hb;have hd:=h.hd;have hq:=h.hq
 have hA : 0 ≤ ab a ∧ ab a ≤ 9223372036854775807:=by unfold ab;omega
 have hB : 0 ≤ ab b ∧ ab b ≤ 9223372036854775807:=by unfold ab;omega
 have ea : max a (0 - a) = ab a:=rfl
 have eb : max b (0 - b) = ab b:=rfl
 generalize ab a = A at *
 generalize ab b = B at *
 have hAB : 0 ≤ A * B:=Int.mul_nonneg hA.1 hB.1
 have wa : IntKind.u64.wrap A = A:=wrapU (by omega)
 have wb : IntKind.u64.wrap B = B:=wrapU (by omega)
 have wd : IntKind.u64.wrap d = d:=wrapU (by omega)
 have c1:=c257 A B (by omega) (by omega)
 generalize A * B = M at *
 have c2:=fn258 (M / 18446744073709551616) (M % 18446744073709551616) d ⟨by omega,by omega⟩ (by omega) (by omega)
 rw [show M / 18446744073709551616 * 18446744073709551616 + M % 18446744073709551616 = M by omega] at c2
 have q1 : M / d < 4611686018427387904:=by rw [Int.ediv_lt_iff_lt_mul hd.1,Int.mul_comm];exact hq
 have q0 : 0 ≤ M / d:=Int.ediv_nonneg hAB (by omega)
 have wq : IntKind.i64.wrap (M / d) = M / d:=wrap64 ⟨by omega,by omega⟩
 (refine gofcc (ad6 ea eb wa wb wd wq) c1 c2 ?_;try exact tTI)
 exact W_ret ⟨[_,_,_],⟨rfl,rfl,rfl,rfl⟩,rfl⟩
theorem fn169 (a b d : Int) (h : FrOK a b d) : Sy.Fn Tryz.prog 169 [aFr a b d] (iv (a * b / d)):=by
 refine Fn_of_W mixed Xt169 rfl ?_
 have hd:=h.hd;have hq:=h.hq
 have c1:=fn230 a b d h
 have hm:=ab_mul a b
 have q1 : ab a * ab b / d < 4611686018427387904:=by rw [Int.ediv_lt_iff_lt_mul hd.1];omega
 have q0 : 0 ≤ ab a * ab b / d:=Int.ediv_nonneg (Int.mul_nonneg (by unfold ab;omega) (by unfold ab;omega)) (by omega)
 generalize ab a * ab b = M at *
 have e:=Int.ediv_mul_add_emod M d
 have e1:=Int.emod_nonneg M (Int.ne_of_gt hd.1)
 have e2:=Int.emod_lt_of_pos M hd.1
 (refine go_c c1 ?_;try exact tTI)
 refine W_cond (by rfl) (fun h1=>?_) (fun h1=>?_)
 ·rw [Bool.not_eq_true'] at h1
  rw [h1] at hm
  simp only [Bool.false_eq_true,if_false] at hm
  (refine go0 ?_;try exact tTI)
  exact W_ret ⟨[_],⟨rfl,rfl⟩,by rw [hm];rfl⟩
 ·rw [Bool.not_eq_false'] at h1
  rw [h1,if_pos rfl] at hm
  have hm' : a * b = -M:=by omega
  rw [hm']
  (refine go0 ?_;try exact tTI)
  refine W_condD (by rfl) (fun h2=>?_) (fun h2=>?_)
  ·have e3 : -M / d = -(M / d + 1):=by
    have h1 : -(M / d + 1) ≤ -M / d:=by rw [Int.le_ediv_iff_mul_le hd.1,Int.neg_mul,Int.add_mul];omega
    have h3 : -M / d < -(M / d + 1) + 1:=by
     rw [Int.ediv_lt_iff_lt_mul hd.1,Int.add_mul,Int.neg_mul,Int.add_mul];omega
    omega
   (refine go0 ?_;try exact tTI)
   exact W_ret ⟨[_],⟨rfl,rfl⟩,by rw [e3];simp;rfl⟩
  ·have e3 : -M / d = -(M / d):=by
    have h1 : -(M / d) ≤ -M / d:=by rw [Int.le_ediv_iff_mul_le hd.1,Int.neg_mul];omega
    have h3 : -M / d < -(M / d) + 1:=by
     rw [Int.ediv_lt_iff_lt_mul hd.1,Int.add_mul,Int.neg_mul];omega
    omega
   (refine go0 ?_;try exact tTI)
   exact W_ret ⟨[_],⟨rfl,rfl⟩,by rw [e3];simp;rfl⟩
def cdiv (n d : Int) : Int:=-(-n / d)
theorem fn109 (a b d : Int) (h : FrOK a b d) : Sy.Fn Tryz.prog 109 [aFr a b d] (iv (cdiv (a * b) d)):=by
 refine Fn_of_W mixed Xt109 rfl ?_
 have ha:=h.ha;have hd:=h.hd
 have h' : FrOK (0 - a) b d:=⟨by omega,h.hb,h.hd,by rw [show ab (0 - a) = ab a by unfold ab;omega];exact h.hq⟩
 have c1:=fn169 (0 - a) b d h'
 have e : (0 - a) * b = -(a * b):=by rw [Int.zero_sub,Int.neg_mul]
 rw [e] at c1
 have hq:=h.hq
 have hm:=ab_mul a b
 have hAB : 0 ≤ ab a * ab b:=Int.mul_nonneg (by unfold ab;omega) (by unfold ab;omega)
 have hb : -(d * 4611686018427387904) ≤ -(a * b) ∧ -(a * b) ≤ d * 4611686018427387904:=by
  split at hm <;> omega
 have b1 : -4611686018427387904 ≤ -(a * b) / d:=by rw [Int.le_ediv_iff_mul_le hd.1,Int.neg_mul,Int.mul_comm];exact hb.1
 have b2 : -(a * b) / d < 4611686018427387905:=by rw [Int.ediv_lt_iff_lt_mul hd.1];omega
 (refine go_c c1 ?_;try exact tTI)
 exact W_ret ⟨[_],⟨rfl,rfl⟩,by unfold cdiv;simp;rfl⟩
def inR (x lo hi : Int) : Bool:=decide (lo ≤ x) && decide (x ≤ hi)
theorem inR_iff {x lo hi : Int} : inR x lo hi = true ↔ lo ≤ x ∧ x ≤ hi:=by simp [inR]
theorem fn48 (x lo hi : Int) : Sy.Fn Tryz.prog 48 [iv x,iv lo,iv hi] (bv (inR x lo hi)):=by
 refine Fn_of_W mixed Xt48 rfl ?_
 (refine go0 ?_;try exact tTI)
 exact W_ret ⟨[_],⟨rfl,rfl⟩,rfl⟩
def okMass (m : Int) : Bool:=inR m 1 16777216
theorem fn47 (m : Int) : Sy.Fn Tryz.prog 47 [iv m] (bv (okMass m)):=by
 refine Fn_of_W mixed Xt47 rfl ?_
 (refine go_c (fun x1 x2 x3=>fn48 x1 x2 x3) ?_;try exact tTI)
 exact W_ret ⟨[_],⟨rfl,rfl⟩,rfl⟩
structure Pt where
 x : Int
 y : Int
abbrev cPt (p : Pt) : List AV:=[iv p.x,iv p.y]
def okPlace (x : Int) : Bool:=inR x (-16777216) 16777216
theorem fn108 (x : Int) : Sy.Fn Tryz.prog 108 [iv x] (bv (okPlace x)):=by
 refine Fn_of_W mixed Xt108 rfl ?_
 (refine go_c (fun x1 x2 x3=>fn48 x1 x2 x3) ?_;try exact tTI)
 exact W_ret ⟨[_],⟨rfl,rfl⟩,rfl⟩
def levE (m a b x : Int) : Int:=if (!okMass m || !okPlace a || !okPlace b || !okPlace x) = true then 3 else if b ≤ a then 9 else if inR x a b = false then 19 else 0
def levL (m a b x : Int) : Int:=if levE m a b x = 0 then cdiv (m * (b - x)) (b - a) else 0
def levR (m a b x : Int) : Int:=if levE m a b x = 0 then cdiv (m * (x - a)) (b - a) else 0
theorem levE_ok {m a b x : Int} (h : levE m a b x = 0) : (1 ≤ m ∧ m ≤ 16777216) ∧ (-16777216 ≤ a ∧ a < b ∧ b ≤ 16777216) ∧ a ≤ x ∧ x ≤ b:=by
 unfold levE at h
 split at h
 ·omega
 ·rename_i h1
  split at h
  ·omega
  ·split at h
   ·omega
   ·rename_i h2 h3
    simp only [Bool.or_eq_true,Bool.not_eq_true',okMass,okPlace] at h1
    rw [Bool.not_eq_false,inR_iff] at h3
    simp only [not_or,Bool.not_eq_false,inR_iff] at h1
    omega
theorem ab_pos {a : Int} (h : 0 ≤ a) : ab a = a:=by unfold ab;omega
theorem mulP {a b c d : Int} (h0 : 0 ≤ b) (h1 : a ≤ c) (h2 : b ≤ d) (h3 : 0 ≤ c) : a * b ≤ c * d:=Int.mul_le_mul h1 h2 h0 h3
theorem frac_ok {m p w : Int} (hm : 1 ≤ m ∧ m ≤ 16777216) (hp : 0 ≤ p ∧ p ≤ w) (hw : 0 < w ∧ w ≤ 9223372036854775807) : FrOK m p w:=by
 refine ⟨by omega,by omega,hw,?_⟩
 rw [ab_pos (by omega),ab_pos hp.1]
 have:=mulP (a:=m) (b:=p) (c:=16777216) (d:=w) hp.1 hm.2 hp.2 (by omega)
 omega
theorem fn49 (m a b x : Int) : Sy.Fn Tryz.prog 49 [iv m,iv a,iv b,iv x] (.tup [iv (levL m a b x),iv (levR m a b x),iv (levE m a b x)]):=by
 refine Fn_of_W mixed Xt49 rfl ?_
 (refine go_cg (fun x1=>fn47 x1) (fun x1=>fn108 x1) ?_;try exact tTI)
 refine W_cond (by rfl) (fun h1=>?_) (fun h1=>?_)
 ·have e : levE m a b x = 3:=by unfold levE;rw [if_pos h1]
  unfold levL levR
  rw [if_neg (by omega),if_neg (by omega),e]
  (refine go0 ?_;try exact tTI)
  exact W_ret ⟨[_,_,_],⟨rfl,rfl,rfl,rfl⟩,rfl⟩
 (refine go0 ?_;try exact tTI)
 refine W_condD (by rfl) (fun h2=>?_) (fun h2=>?_)
 ·have e : levE m a b x = 9:=by unfold levE;rw [if_neg (by rw [h1];decide),if_pos h2]
  unfold levL levR
  rw [if_neg (by omega),if_neg (by omega),e]
  (refine go0 ?_;try exact tTI)
  exact W_ret ⟨[_,_,_],⟨rfl,rfl,rfl,rfl⟩,rfl⟩
 (refine go_c (fun x1 x2 x3=>fn48 x1 x2 x3) ?_;try exact tTI)
 refine W_cond (by rfl) (fun h3=>?_) (fun h3=>?_)
 ·have e : levE m a b x = 19:=by unfold levE;rw [if_neg (by rw [h1];decide),if_neg h2,if_pos (by simpa using h3)]
  unfold levL levR
  rw [if_neg (by omega),if_neg (by omega),e]
  (refine go0 ?_;try exact tTI)
  exact W_ret ⟨[_,_,_],⟨rfl,rfl,rfl,rfl⟩,rfl⟩
 have e : levE m a b x = 0:=by unfold levE;rw [if_neg (by rw [h1];decide),if_neg h2,if_neg (by simpa using h3)]
 have ho:=levE_ok e
 have c1:=fn109 m (b - x) (b - a) (frac_ok ho.1 (by omega) (by omega))
 have c2:=fn109 m (x - a) (b - a) (frac_ok ho.1 (by omega) (by omega))
 unfold levL levR
 rw [if_pos e,if_pos e,e]
 (refine go_cc c1 c2 ?_;try exact tTI)
 exact W_ret ⟨[_,_,_],⟨rfl,rfl,rfl,rfl⟩,rfl⟩
def idxF {α : Type} (p : α → Bool) : List α → Int → Int
 |[],_=>-1
 |x :: r,i=>if p x then i else idxF p r (i + 1)
theorem idxF_at {α : Type} (p : α → Bool) (d : α) : ∀ (l : List α) (i : Nat) (k : Int),i < l.length → (∀ j,j < i → p (l.getD j d) = false) → p (l.getD i d) = true → idxF p l k = k + i
 |[],i,k,h,_,_=>by simp at h
 |x :: r,0,k,_,_,h=>by simp at h;simp [idxF,h]
 |x :: r,i + 1,k,h,hj,hp=>by
  have h0 : p x = false:=by simpa using hj 0 (by omega)
  have:=idxF_at p d r i (k + 1) (by simpa using h) (fun j hlt=>by simpa using hj (j + 1) (by omega)) (by simpa using hp)
  simp only [idxF,h0,Bool.false_eq_true,if_false,this]
  omega
theorem idxF_none {α : Type} (p : α → Bool) (d : α) : ∀ (l : List α) (k : Int),(∀ j,j < l.length → p (l.getD j d) = false) → idxF p l k = -1
 |[],k,_=>rfl
 |x :: r,k,h=>by
  have h0 : p x = false:=by simpa using h 0 (by simp)
  have:=idxF_none p d r (k + 1) (fun j hlt=>by simpa using h (j + 1) (by simpa using hlt))
  simp only [idxF,h0,Bool.false_eq_true,if_false,this]
theorem idxF_any {α : Type} (p : α → Bool) : ∀ (l : List α) (k : Int),0 ≤ k → decide (0 ≤ idxF p l k) = l.any p
 |[],k,_=>by simp [idxF]
 |x :: r,k,h=>by
  simp only [idxF,List.any_cons]
  by_cases hp : p x = true
  ·simp [hp,h]
  ·simp only [hp]
   simpa using idxF_any p r (k + 1) (by omega)
theorem up_all {p : Nat → Prop} {i : Nat} (h : ∀ j,j < i → p j) (hi : p i) : ∀ j,j < i + 1 → p j:=fun j hj=>by
 rcases Nat.lt_succ_iff_lt_or_eq.1 hj with hj | rfl
 ·exact h j hj
 ·exact hi
def cI (n : Int) : List AV:=[iv n]
theorem nI (n : Int) : nth (cI n) 0 = iv n:=rfl
theorem lI (n : Int) : (cI n).length = 1:=rfl
attribute [push_cast] nI lI
theorem getD_mem {α : Type} (d : α) (l : List α) (i : Nat) (h : i < l.length) : l.getD i d ∈ l:=by
 simp only [List.getD,List.getElem?_eq_getElem h,Option.getD_some];exact List.getElem_mem h
theorem fn170 (l : List Int) (hl : l.length ≤ 1000000) (g : Nat) (fi ca : List AV) (p : Int → Bool) (hg : ∀ x ∈ l,Sy.Fn Tryz.prog g (fi ++ [iv x] ++ ca) (bv (p x))) : Sy.Fn Tryz.prog 170 [.sl 1 0 cI l,.clo g fi ca] (iv (idxF p l 0)):=by
 refine Fn_of_W mixed Xt170 rfl ?_
 (refine go0 ?_;try exact tTI)
 refine W_loopU (fun i : Nat=>[(8,iv i)]) (fun i=>[]) (fun i=>i ≤ l.length ∧ ∀ j,j < i → p (l.getD j 0) = false) (fun i=>l.length - i) 0 ⟨by omega,fun j hj=>by omega⟩ (by rfl) (by rfl) (fun i hi=>?_)
 obtain ⟨hi,hp⟩:=hi
 (refine sy1 ?_;try exact tTI)
 (refine go0 ?_;try exact tTI)
 refine W_condD (by rfl) (fun h=>?_) (fun h=>?_)
 ·have hlt : i < l.length:=by omega
  have cg:=hg _ (getD_mem 0 l i hlt)
  (refine go_c cg ?_;try exact tTI)
  refine W_cond (by rfl) (fun hb=>?_) (fun hb=>?_)
  ·(refine go0 ?_;try exact tTI)
   exact W_ret ⟨[_],⟨rfl,rfl⟩,by rw [idxF_at p 0 l i 0 hlt hp hb,Int.zero_add];rfl⟩
  ·(refine go0 ?_;try exact tTI)
   refine ⟨i + 1,⟨by omega,up_all hp hb⟩,by omega,by rfl,?_⟩
   (refine syE ?_;try exact tTI)
 ·(refine go0 ?_;try exact tTI)
  exact W_ret ⟨[_],⟨rfl,rfl⟩,by rw [idxF_none p 0 l 0 (fun j hj=>hp j (by omega))];rfl⟩
theorem fn112 (l : List Int) (hl : l.length ≤ 1000000) (g : Nat) (fi ca : List AV) (p : Int → Bool) (hg : ∀ x ∈ l,Sy.Fn Tryz.prog g (fi ++ [iv x] ++ ca) (bv (p x))) : Sy.Fn Tryz.prog 112 [.sl 1 0 cI l,.clo g fi ca] (bv (l.any p)):=by
 refine Fn_of_W mixed Xt112 rfl ?_
 (refine go_c (fn170 l hl g fi ca p hg) ?_;try exact tTI)
 exact W_ret ⟨[_],⟨rfl,rfl⟩,by rw [← idxF_any p l 0 (by omega)];rfl⟩
theorem floor_eq {a b : Int} (hb : 0 < b) : a / b = if a.tmod b < 0 then a.tdiv b - 1 else a.tdiv b:=by
 have e:=Int.tdiv_mul_add_tmod a b
 have l1 : a.tmod b < b:=Int.tmod_lt_of_pos a hb
 have l2 : -b < a.tmod b:=by
  have:=Int.tmod_lt_of_pos (-a) hb
  rw [Int.neg_tmod] at this
  omega
 split
 ·have h1 : a.tdiv b - 1 ≤ a / b:=by rw [Int.le_ediv_iff_mul_le hb,Int.sub_mul];omega
  have h2 : a / b < a.tdiv b:=by rw [Int.ediv_lt_iff_lt_mul hb];omega
  omega
 ·have h1 : a.tdiv b ≤ a / b:=by rw [Int.le_ediv_iff_mul_le hb];omega
  have h2 : a / b < a.tdiv b + 1:=by rw [Int.ediv_lt_iff_lt_mul hb,Int.add_mul];omega
  omega
theorem cdiv_le {n d : Int} (hd : 0 < d) : n ≤ cdiv n d * d ∧ cdiv n d * d < n + d:=by
 unfold cdiv
 have e:=Int.ediv_mul_add_emod (-n) d
 have e1:=Int.emod_nonneg (-n) (Int.ne_of_gt hd)
 have e2:=Int.emod_lt_of_pos (-n) hd
 rw [Int.neg_mul]
 omega
theorem lt_mul {a b w : Int} (hw : 0 < w) (h : a * w < b * w) : a < b:=Int.lt_of_mul_lt_mul_right h (Int.le_of_lt hw)
theorem cdiv_rng {m p w : Int} (hm : 0 ≤ m) (hp : 0 ≤ p ∧ p ≤ w) (hw : 0 < w) : 0 ≤ cdiv (m * p) w ∧ cdiv (m * p) w ≤ m:=by
 have a1 : 0 ≤ m * p:=Int.mul_nonneg hm hp.1
 have a2 : m * p ≤ m * w:=Int.mul_le_mul_of_nonneg_left hp.2 hm
 obtain ⟨h1,h2⟩:=cdiv_le (n:=m * p) hw
 generalize cdiv (m * p) w = c at *
 constructor
 ·have : (-1) * w < c * w:=by omega
  have:=lt_mul hw this
  omega
 ·have : c * w < (m + 1) * w:=by rw [Int.add_mul];omega
  have:=lt_mul hw this
  omega
theorem up_eq {a n : Int} (ha : 0 ≤ a) (hn : 0 < n) : (a + n - 1).tdiv n = cdiv a n:=by
 rw [Int.tdiv_eq_ediv_of_nonneg (by omega)]
 obtain ⟨h1,h2⟩:=cdiv_le (n:=a) hn
 have b1:=Int.ediv_mul_add_emod (a + n - 1) n
 have b2:=Int.emod_nonneg (a + n - 1) (Int.ne_of_gt hn)
 have b3:=Int.emod_lt_of_pos (a + n - 1) hn
 generalize cdiv a n = c at *
 generalize (a + n - 1) / n = q at *
 generalize (a + n - 1) % n = r at *
 have d1:=lt_mul (a:=c) (b:=q + 1) hn (by rw [Int.add_mul];omega)
 have d2:=lt_mul (a:=q) (b:=c + 1) hn (by rw [Int.add_mul];omega)
 omega
def dQ : Pt:=⟨0,0⟩
abbrev aQ (l : List Pt) : AV:=.sl 2 dQ cPt l
def okQ (p : Pt) : Bool:=inR p.x (-16777216) 16777216 && inR p.y (-16777216) 16777216
theorem fn35 (x lo hi : Int) : Sy.Fn Tryz.prog 35 [iv x,iv lo,iv hi] (bv (inR x lo hi)):=by
 refine Fn_of_W mixed Xt35 rfl ?_
 (refine go0 ?_;try exact tTI)
 exact W_ret ⟨[_],⟨rfl,rfl⟩,rfl⟩
theorem all_no {l : List Pt} {i : Nat} (hi : i < l.length) (h : okQ (l.getD i dQ) = false) : l.all okQ = false:=by
 rw [← Bool.not_eq_true,List.all_eq_true]
 intro q
 rw [q _ (getD_mem dQ l i hi)] at h;cases h
theorem all_yes {l : List Pt} (h : ∀ i,i < l.length → okQ (l.getD i dQ) = true) : l.all okQ = true:=by
 rw [List.all_eq_true]
 intro x hx
 obtain ⟨i,hi,rfl⟩:=List.mem_iff_getElem.1 hx
 have:=h i hi
 simpa [List.getD,List.getElem?_eq_getElem hi] using this
theorem fn83 (l : List Pt) (hl : l.length ≤ 1000000) : Sy.Fn Tryz.prog 83 [aQ l] (bv (l.all okQ)):=by
 refine Fn_of_W mixed Xt83 rfl ?_
 (refine go0 ?_;try exact tTI)
 refine W_loopU (fun i : Nat=>[(7,iv i)]) (fun i=>[]) (fun i=>i ≤ l.length ∧ ∀ j,j < i → okQ (l.getD j dQ) = true) (fun i=>l.length - i) 0 ⟨by omega,fun j hj=>by omega⟩ (by rfl) (by rfl) (fun i hi=>?_)
 obtain ⟨hi,hall⟩:=hi
 (refine sy1 ?_;try exact tTI)
 (refine go0 ?_;try exact tTI)
 refine W_condD (by rfl) (fun h5=>?_) (fun h5=>?_)
 ·have hlt : i < l.length:=by omega
  generalize hp : l.getD i dQ = p at *
  (refine gofcg hp (fun x1 x2 x3=>fn35 x1 x2 x3) (fun x1 x2 x3=>fn35 x1 x2 x3) ?_;try exact tTI)
  have key : (!inR p.x (-16777216) 16777216 || !inR p.y (-16777216) 16777216) = !okQ p:=by unfold okQ;rw [Bool.not_and]
  rw [key]
  refine W_cond (by rfl) (fun hb=>?_) (fun hb=>?_)
  ·rw [all_no hlt (by rw [hp];simpa using hb)]
   (refine go0 ?_;try exact tTI)
   exact W_ret ⟨[_],⟨rfl,rfl⟩,rfl⟩
  ·(refine go0 ?_;try exact tTI)
   refine ⟨i + 1,⟨by omega,up_all hall (by rw [hp];simpa using hb)⟩,by omega,by rfl,?_⟩
   (refine syE ?_;try exact tTI)
 ·rw [all_yes (fun j hj=>hall j (by omega))]
  (refine go0 ?_;try exact tTI)
  exact W_ret ⟨[_],⟨rfl,rfl⟩,rfl⟩
theorem fn38 (p : Pt) : Sy.Fn Tryz.prog 38 [.agg (cPt p)] (iv (if okQ p = true then 0 else 2)):=by
 refine Fn_of_W mixed Xt38 rfl ?_
 have c83:=fn83 [p] (by simp)
 rw [show [p].all okQ = okQ p by simp] at c83
 (refine go0 ?_;try exact tTI)
 refine ⟨rfl,trivial,Pt,dQ,cPt,[p],rfl,by omega,fun x _=>⟨rfl,rfl⟩,rfl,?_⟩
 (refine sy1 ?_;try exact tTI)
 (refine go_g c83 ?_;try exact tTI)
 refine W_cond (by rfl) (fun h=>?_) (fun h=>?_)
 ·rw [if_neg (by simpa using h)]
  (refine go0 ?_;try exact tTI)
  exact W_ret ⟨[_],⟨rfl,rfl⟩,rfl⟩
 ·rw [if_pos (by simpa using h)]
  (refine go0 ?_;try exact tTI)
  exact W_ret ⟨[_],⟨rfl,rfl⟩,rfl⟩
theorem fn225 (p : Pt) : Sy.Fn Tryz.prog 225 [.agg (cPt p)] (.tup [.agg (cPt (if okQ p = true then p else ⟨0,0⟩)),iv (if okQ p = true then 0 else 4)]):=by
 refine Fn_of_W mixed Xt225 rfl ?_
 have c83:=fn83 [p] (by simp)
 rw [show [p].all okQ = okQ p by simp] at c83
 (refine go0 ?_;try exact tTI)
 refine ⟨rfl,trivial,Pt,dQ,cPt,[p],rfl,by omega,fun x _=>⟨rfl,rfl⟩,rfl,?_⟩
 (refine sy1 ?_;try exact tTI)
 (refine go_g c83 ?_;try exact tTI)
 refine W_cond (by rfl) (fun h=>?_) (fun h=>?_)
 ·have h' : ¬ okQ p = true:=by simpa using h
  rw [if_neg h',if_neg h']
  (refine go0 ?_;try exact tTI)
  exact W_ret ⟨[_,_],⟨⟨by simp,rfl⟩,rfl,rfl⟩,rfl⟩
 ·have h' : okQ p = true:=by simpa using h
  rw [if_pos h',if_pos h']
  (refine go0 ?_;try exact tTI)
  exact W_ret ⟨[_,_],⟨⟨by simp,rfl⟩,rfl,rfl⟩,rfl⟩
theorem fn86 (a b : Int) (ha : -9223372036854775808 ≤ a ∧ a ≤ 9223372036854775807) (hb : 0 < b) : Sy.Fn Tryz.prog 86 [iv a,iv b] (iv (a / b)):=by
 refine Fn_of_W mixed Xt86 rfl ?_
 have e1:=wrap_i64_tdiv a b ha.1 ha.2 (by omega)
 have e2:=floor_eq (a:=a) hb
 have hm : 0 ≤ a.tmod b ∨ (a.tmod b < 0 ∧ -9223372036854775807 ≤ a.tdiv b):=by
  by_cases h : 0 ≤ a.tmod b
  ·exact .inl h
  ·right
   refine ⟨by omega,?_⟩
   have e:=Int.tdiv_mul_add_tmod a b
   have l2 : -b < a.tmod b:=by
    have:=Int.tmod_lt_of_pos (-a) hb
    rw [Int.neg_tmod] at this
    omega
   by_cases q : -9223372036854775807 ≤ a.tdiv b
   ·exact q
   ·have:=Int.mul_le_mul_of_nonneg_right (show a.tdiv b ≤ -9223372036854775808 by omega) (Int.le_of_lt hb)
    omega
 have hu : a.tdiv b ≤ 9223372036854775807:=by
  by_cases q : a.tdiv b ≤ 9223372036854775807
  ·exact q
  ·have e:=Int.tdiv_mul_add_tmod a b
   have l2 : -b < a.tmod b:=by
    have:=Int.tmod_lt_of_pos (-a) hb
    rw [Int.neg_tmod] at this
    omega
   have:=Int.mul_le_mul_of_nonneg_right (show 9223372036854775808 ≤ a.tdiv b by omega) (Int.le_of_lt hb)
   omega
 (refine gof e1 ?_;try exact tTI)
 refine W_condD (by rfl) (fun h=>?_) (fun h=>?_)
 ·rw [if_pos h] at e2
  (refine go0 ?_;try exact tTI)
  exact W_ret ⟨[_],⟨rfl,rfl⟩,by rw [e2];rfl⟩
 ·rw [if_neg h] at e2
  (refine go0 ?_;try exact tTI)
  exact W_ret ⟨[_],⟨rfl,rfl⟩,by rw [e2];rfl⟩
def nr (n d : Int) : Int:=if d - (n - n / d * d) ≤ n - n / d * d then n / d + 1 else n / d
theorem fn36 (n d : Int) (hn : -1152921504606846976 ≤ n ∧ n ≤ 1152921504606846976) (hd : 0 < d ∧ d ≤ 4611686018427387905) : Sy.Fn Tryz.prog 36 [iv n,iv d] (iv (nr n d)):=by
 refine Fn_of_W mixed Xt36 rfl ?_
 have c86:=fn86 n d (by omega) hd.1
 have e1:=Int.ediv_mul_add_emod n d
 have e2:=Int.emod_nonneg n (show d ≠ 0 by omega)
 have e3:=Int.emod_lt_of_pos n hd.1
 have hq : -1152921504606846976 ≤ n / d ∧ n / d ≤ 1152921504606846976:=by
  constructor
  ·rw [Int.le_ediv_iff_mul_le hd.1]
   have:=Int.mul_le_mul_of_nonneg_left (show 1 ≤ d by omega) (show (0 : Int) ≤ 1152921504606846976 by omega)
   omega
  ·have h1 : n / d < 1152921504606846976 + 1:=by
    rw [Int.ediv_lt_iff_lt_mul hd.1]
    have:=Int.mul_le_mul_of_nonneg_left (show 1 ≤ d by omega) (show (0 : Int) ≤ 1152921504606846976 + 1 by omega)
    omega
   omega
 unfold nr
 generalize n / d = q at *
 generalize n % d = r at *
 have hqd : q * d = n - r:=by omega
 (refine go_c c86 ?_;try exact tTI)
 refine W_condD (by rfl) (fun h=>?_) (fun h=>?_)
 ·rw [if_pos h]
  (refine go0 ?_;try exact tTI)
  exact W_ret ⟨[_],⟨rfl,rfl⟩,rfl⟩
 ·rw [if_neg h]
  (refine go0 ?_;try exact tTI)
  exact W_ret ⟨[_],⟨rfl,rfl⟩,rfl⟩
def rB (k : Nat) : Int:=2 ^ (62 - 2 * k)
def rS (n : Int) : Nat → Int × Int
 |0=>(n,0)
 |k + 1=>if (rS n k).2 + rB k ≤ (rS n k).1 then ((rS n k).1 - ((rS n k).2 + rB k),(rS n k).2 / 2 + rB k) else ((rS n k).1,(rS n k).2 / 2)
def rt (n : Int) : Int:=(rS n 32).2
theorem rB_rng (k : Nat) : 1 ≤ rB k ∧ rB k ≤ 4611686018427387904:=by
 unfold rB
 have h1 : (2 : Int) ^ (62 - 2 * k) = ((2 ^ (62 - 2 * k) : Nat) : Int):=by simp
 rw [h1]
 have h2:=Nat.pow_le_pow_right (show 0 < 2 by omega) (show 62 - 2 * k ≤ 62 by omega)
 have h3:=Nat.pow_pos (n:=62 - 2 * k) (show 0 < 2 by omega)
 have h4 : (2 : Nat) ^ 62 = 4611686018427387904:=by decide
 omega
theorem rS_rng {n : Int} (hn : 0 ≤ n) : ∀ k,(0 ≤ (rS n k).1 ∧ (rS n k).1 ≤ n) ∧ 0 ≤ (rS n k).2 ∧ (rS n k).2 ≤ 9223372036854775808
 |0=>by simp only [rS];omega
 |k + 1=>by
  obtain ⟨h1,h2⟩:=rS_rng hn k
  have hb:=rB_rng k
  simp only [rS]
  split
  ·dsimp only;omega
  ·dsimp only;omega
theorem rS_succ (n : Int) (k : Nat) : rS n (k + 1) = if (rS n k).2 + rB k ≤ (rS n k).1 then ((rS n k).1 - ((rS n k).2 + rB k),(rS n k).2 / 2 + rB k) else ((rS n k).1,(rS n k).2 / 2):=rfl
theorem rt_rng {n : Int} (hn : 0 ≤ n) : 0 ≤ rt n ∧ rt n ≤ 4611686018427387905:=by
 have h:=(rS_rng hn 31).2
 have hb : rB 31 = 1:=by decide
 have e : rS n 32 = _:=rS_succ n 31
 unfold rt
 rw [e,hb]
 generalize rS n 31 = q at *
 split
 ·dsimp only;omega
 ·dsimp only;omega
theorem shl_rB {k : Nat} (hk : k < 32) : IntKind.u64.wrap (1 * 2 ^ (min (62 - 2 * (k : Int)).toNat IntKind.u64.bits)) = rB k:=by
 have h1 : min (62 - 2 * (k : Int)).toNat IntKind.u64.bits = 62 - 2 * k:=by
  rw [show IntKind.u64.bits = 64 from rfl];omega
 have h2:=rB_rng k
 rw [h1,Int.one_mul]
 unfold rB at h2 ⊢
 rw [IntKind.wrap_u64]
 exact Int.emod_eq_of_lt (by omega) (by omega)
theorem fn84 (n : Int) (hn : 0 ≤ n ∧ n ≤ 9223372036854775807) : Sy.Fn Tryz.prog 84 [iv n] (iv (rt n)):=by
 refine Fn_of_W mixed Xt84 rfl ?_
 have hwn : IntKind.u64.wrap n = n:=by rw [IntKind.wrap_u64];omega
 (refine gof hwn ?_;try exact tTI)
 refine W_loopU (fun k : Nat=>[(3,.v (.int .u64 (rS n k).1)),(4,.v (.int .u64 (rS n k).2)),(9,iv k)]) (fun k=>[]) (fun k=>k ≤ 32) (fun k=>32 - k) 0 (by omega) (by rfl) (by rfl) (fun k hk=>?_)
 (refine sy1 ?_;try exact tTI)
 (refine go0 ?_;try exact tTI)
 refine W_condD (by rfl) (fun h5=>?_) (fun h5=>?_)
 ·have hlt : k < 32:=by omega
  have hb:=rB_rng k
  have hs:=shl_rB hlt
  obtain ⟨h1,h2⟩:=rS_rng hn.1 k
  have e1 : rS n (k + 1) = if (rS n k).2 + rB k ≤ (rS n k).1 then ((rS n k).1 - ((rS n k).2 + rB k),(rS n k).2 / 2 + rB k) else ((rS n k).1,(rS n k).2 / 2):=rfl
  generalize (rS n k).1 = l at *
  generalize (rS n k).2 = r at *
  have w1 : IntKind.u64.wrap (r + rB k) = r + rB k:=by rw [IntKind.wrap_u64];omega
  have w3 : r.fdiv (2 ^ (min 1 IntKind.u64.bits)) = r / 2:=by
   rw [show (2 : Int) ^ (min 1 IntKind.u64.bits) = 2 from rfl]
   exact Int.fdiv_eq_ediv_of_nonneg _ (by omega)
  have w4 : IntKind.u64.wrap (r / 2 + rB k) = r / 2 + rB k:=by rw [IntKind.wrap_u64];omega
  (refine gof (ad2 hs w1) ?_;try exact tTI)
  refine W_condD (by rfl) (fun h6=>?_) (fun h6=>?_)
  ·have w2 : IntKind.u64.wrap (l - (r + rB k)) = l - (r + rB k):=by rw [IntKind.wrap_u64];omega
   rw [if_pos h6] at e1
   (refine gof (ad4 w1 w2 w3 w4) ?_;try exact tTI)
   refine ⟨k + 1,by omega,by omega,by rfl,?_⟩
   rw [e1]
   (refine syE ?_;try exact tTI)
  ·rw [if_neg h6] at e1
   (refine gof w3 ?_;try exact tTI)
   refine ⟨k + 1,by omega,by omega,by rfl,?_⟩
   rw [e1]
   (refine syE ?_;try exact tTI)
 ·obtain rfl : k = 32:=by omega
  have hr:=rt_rng hn.1
  have e : (rS n 32).2 = rt n:=rfl
  rw [e]
  generalize (rS n 32).1 = l
  generalize rt n = r at *
  (refine go0 ?_;try exact tTI)
  exact W_ret ⟨[_],⟨rfl,rfl⟩,rfl⟩
theorem abs_mul {a b A B : Int} (ha : -A ≤ a ∧ a ≤ A) (hb : -B ≤ b ∧ b ≤ B) : -(A * B) ≤ a * b ∧ a * b ≤ A * B:=by
 have hA : 0 ≤ A:=by omega
 have hB : 0 ≤ B:=by omega
 have h1 : (a * b).natAbs ≤ (A * B).natAbs:=by
  rw [Int.natAbs_mul,Int.natAbs_mul]
  exact Nat.mul_le_mul (by omega) (by omega)
 have h2 : 0 ≤ A * B:=Int.mul_nonneg hA hB
 omega
theorem nr_rng {n d : Int} (hd : 0 < d) (hn : -72057594037927936 ≤ n ∧ n ≤ 72057594037927936) : -72057594037927937 ≤ nr n d ∧ nr n d ≤ 72057594037927937:=by
 have hq : -72057594037927936 ≤ n / d ∧ n / d ≤ 72057594037927936:=by
  constructor
  ·rw [Int.le_ediv_iff_mul_le hd]
   have:=Int.mul_le_mul_of_nonneg_left (show 1 ≤ d by omega) (show (0 : Int) ≤ 72057594037927936 by omega)
   omega
  ·have h1 : n / d < 72057594037927936 + 1:=by
    rw [Int.ediv_lt_iff_lt_mul hd]
    have:=Int.mul_le_mul_of_nonneg_left (show 1 ≤ d by omega) (show (0 : Int) ≤ 72057594037927936 + 1 by omega)
    omega
   omega
 unfold nr
 split <;> omega
def plR (a h : Pt) : Int:=rt (1024 * ((h.x - a.x) * (h.x - a.x) + (h.y - a.y) * (h.y - a.y)))
def plP (a h : Pt) (x y : Int) : Pt:=⟨a.x + nr (32 * ((h.x - a.x) * x - (h.y - a.y) * y)) (plR a h),a.y + nr (32 * ((h.y - a.y) * x + (h.x - a.x) * y)) (plR a h)⟩
structure PlOK (a h : Pt) (x y : Int) : Prop where
 ka : okQ a = true
 kh : okQ h = true
 kx : inR x (-16777216) 16777216 = true
 ky : inR y (-16777216) 16777216 = true
 kz : ¬ (h.x - a.x = 0 ∧ h.y - a.y = 0)
 kr : 0 < plR a h
 kp : okQ (plP a h x y) = true
theorem okQ_iff {p : Pt} : okQ p = true ↔ (-16777216 ≤ p.x ∧ p.x ≤ 16777216) ∧ -16777216 ≤ p.y ∧ p.y ≤ 16777216:=by
 unfold okQ
 rw [Bool.and_eq_true,inR_iff,inR_iff]
theorem fn159 (a h : Pt) (x y : Int) (ok : PlOK a h x y) : Sy.Fn Tryz.prog 159 [.agg (cPt a),.agg (cPt h),iv x,iv y] (.tup [.agg (cPt (plP a h x y)),iv 0]):=by
 refine Fn_of_W mixed Xt159 rfl ?_
 have a1:=okQ_iff.1 ok.ka
 have a2:=okQ_iff.1 ok.kh
 have a3:=inR_iff.1 ok.kx
 have a4:=inR_iff.1 ok.ky
 have hz:=ok.kz
 have hr:=ok.kr
 have hp:=ok.kp
 have c225:=fn225 (plP a h x y)
 rw [if_pos hp,if_pos hp] at c225
 unfold plP at *
 unfold plR at *
 obtain ⟨u,hu⟩ : ∃ u,u = h.x - a.x:=⟨_,rfl⟩
 obtain ⟨v,hv⟩ : ∃ v,v = h.y - a.y:=⟨_,rfl⟩
 rw [← hu,← hv] at hz hr hp c225 ⊢
 have bu : -33554432 ≤ u ∧ u ≤ 33554432:=by omega
 have bv' : -33554432 ≤ v ∧ v ≤ 33554432:=by omega
 have m1:=abs_mul bu bu
 have m2:=abs_mul bv' bv'
 have m3:=abs_mul bu (show -16777216 ≤ x ∧ x ≤ 16777216 by omega)
 have m4:=abs_mul bv' (show -16777216 ≤ y ∧ y ≤ 16777216 by omega)
 have m5:=abs_mul bv' (show -16777216 ≤ x ∧ x ≤ 16777216 by omega)
 have m6:=abs_mul bu (show -16777216 ≤ y ∧ y ≤ 16777216 by omega)
 have s1 : 0 ≤ u * u:=by rcases Int.le_total 0 u with q | q;exact Int.mul_nonneg q q;exact Int.mul_nonneg_of_nonpos_of_nonpos q q
 have s2 : 0 ≤ v * v:=by rcases Int.le_total 0 v with q | q;exact Int.mul_nonneg q q;exact Int.mul_nonneg_of_nonpos_of_nonpos q q
 have c84:=fn84 (1024 * (u * u + v * v)) (by omega)
 have hr2:=(rt_rng (n:=1024 * (u * u + v * v)) (by omega)).2
 generalize rt (1024 * (u * u + v * v)) = r at *
 have c1:=fn36 (32 * (u * x - v * y)) r (by omega) ⟨hr,by omega⟩
 have c2:=fn36 (32 * (v * x + u * y)) r (by omega) ⟨hr,by omega⟩
 have n1:=nr_rng (n:=32 * (u * x - v * y)) hr (by omega)
 have n2:=nr_rng (n:=32 * (v * x + u * y)) hr (by omega)
 have w1 : IntKind.i64.wrap (h.x - a.x) = u:=by rw [wrap64 ⟨by omega,by omega⟩,hu]
 have w2 : IntKind.i64.wrap (h.y - a.y) = v:=by rw [wrap64 ⟨by omega,by omega⟩,hv]
 repeat' (first | refine w1g ?_ | refine w1l ?_ | refine w1q ?_ | refine w1b ?_ | refine w1p ?_ | ((first | refine w1r ?_ | refine w1k ?_ | refine w1e ?_);simp (maxSteps:=400000) (disch:=omega) only [push_cast,↓reduceIte,reduceCtorEq,Nat.reduceAdd,Nat.reduceSub,Nat.reduceEqDiff,Nat.reduceLeDiff,Nat.reduceLT,Nat.reduceBEq,Nat.reduceDiv,Nat.reduceMod,Nat.reducePow,Nat.reduceMul,Int.reduceToNat,Int.reduceLT,Int.reduceLE,← hu,← hv]) | refine an2 ?_ | fail)
 refine W_cond (by rfl) (fun hb=>absurd (by simpa using hb) hz) (fun _=>?_)
 repeat' (first | refine w1g ?_ | refine w1l ?_ | refine w1q ?_ | refine w1b ?_ | refine w1p ?_ | ((first | refine w1r ?_ | refine w1k ?_ | refine w1e ?_ | refine CallC.now (c84) ?_ | refine CallC.now (c1) ?_ | refine CallC.now (c2) ?_ | refine CallC.now (c225) ?_);simp (maxSteps:=400000) (disch:=omega) only [push_cast,↓reduceIte,reduceCtorEq,Nat.reduceAdd,Nat.reduceSub,Nat.reduceEqDiff,Nat.reduceLeDiff,Nat.reduceLT,Nat.reduceBEq,Nat.reduceDiv,Nat.reduceMod,Nat.reducePow,Nat.reduceMul,Int.reduceToNat,Int.reduceLT,Int.reduceLE,← hu,← hv]) | refine an2 ?_ | fail)
 exact W_ret ⟨[_,_],⟨⟨by simp,rfl⟩,rfl,rfl⟩,rfl⟩
theorem fn97 (a h : Pt) (x y : Int) (ok : PlOK a h x y) : Sy.Fn Tryz.prog 97 [.agg (cPt a),.agg (cPt h),iv x,iv y] (.tup [.agg (cPt (plP a h x y)),iv 0]):=by
 refine Fn_of_W mixed Xt97 rfl ?_
 have c83:=fn83 [a,h] (by simp)
 rw [show [a,h].all okQ = true by simp [ok.ka,ok.kh]] at c83
 have c159:=fn159 a h x y ok
 (refine go0 ?_;try exact tTI)
 refine ⟨rfl,trivial,Pt,dQ,cPt,[a,h],rfl,by omega,fun x _=>⟨rfl,rfl⟩,rfl,?_⟩
 (refine sy1 ?_;try exact tTI)
 (refine go_g c83 ?_;try exact tTI)
 refine W_cond (by rfl) (fun hb=>by cases hb) (fun _=>?_)
 (refine go_cg (fun x1 x2 x3=>fn35 x1 x2 x3) (fun x1 x2 x3=>fn35 x1 x2 x3) ?_;try exact tTI)
 rw [ok.kx,ok.ky]
 refine W_cond (by rfl) (fun hb=>by cases hb) (fun _=>?_)
 (refine go_c c159 ?_;try exact tTI)
 exact W_ret ⟨[_,_],⟨⟨by simp,rfl⟩,rfl,rfl⟩,rfl⟩
theorem fn89 (h a : Pt) (n : Int) (hn : inR n 1 16777216 = true) (ok : PlOK h a n 0) : Sy.Fn Tryz.prog 89 [.agg (cPt h),.agg (cPt a),iv n] (.tup [.agg (cPt (plP h a n 0)),iv 0]):=by
 refine Fn_of_W mixed Xt89 rfl ?_
 have c83:=fn83 [a,h] (by simp)
 rw [show [a,h].all okQ = true by simp [ok.ka,ok.kh]] at c83
 have c159:=fn159 h a n 0 ok
 (refine go0 ?_;try exact tTI)
 refine ⟨rfl,trivial,Pt,dQ,cPt,[a,h],rfl,by omega,fun x _=>⟨rfl,rfl⟩,rfl,?_⟩
 (refine sy1 ?_;try exact tTI)
 (refine go_g c83 ?_;try exact tTI)
 refine W_cond (by rfl) (fun hb=>by cases hb) (fun _=>?_)
 (refine go_c (fun x1 x2 x3=>fn35 x1 x2 x3) ?_;try exact tTI)
 rw [hn]
 refine W_cond (by rfl) (fun hb=>by cases hb) (fun _=>?_)
 (refine go_c c159 ?_;try exact tTI)
 exact W_ret ⟨[_,_],⟨⟨by simp,rfl⟩,rfl,rfl⟩,rfl⟩
def rho : Go.Shelf.Ren:=⟨fun f=>if f = 315 then 256 else 0,fun t=>if t = 40 then 340 else t,fun g=>g⟩
theorem lays : Lays.n315 Tryz.prog rho:={
 mixed:=mixed
 f315:=by kernel_rfl
 t0:=by kernel_rfl
 a0:=fun w=>by kernel_rfl
 z0:=fun w=>by kernel_rfl
 v0:=fun w=>by kernel_rfl
 t3:=by kernel_rfl
 a3:=fun w=>by kernel_rfl
 z3:=fun w=>by kernel_rfl
 v3:=fun w=>by kernel_rfl
 t4:=by kernel_rfl
 a4:=fun w=>by kernel_rfl
 z4:=fun w=>by kernel_rfl
 v4:=fun w=>by kernel_rfl
 t9:=by kernel_rfl
 a9:=fun w=>by kernel_rfl
 z9:=fun w=>by kernel_rfl
 v9:=fun w=>by kernel_rfl
 t21:=by kernel_rfl
 a21:=fun w=>by kernel_rfl
 z21:=fun w=>by kernel_rfl
 v21:=fun w=>by kernel_rfl
 t40:=by kernel_rfl
 a40:=fun w=>by kernel_rfl
 z40:=fun w=>by kernel_rfl
 v40:=fun w=>by kernel_rfl }
abbrev stv (s : ByteArray) : AV:=.v (.string s)
theorem fn256 (s : ByteArray) (g : Nat) (p : Nat → Bool) (hg : ∀ x : Nat,x ≤ 1114111 → Sy.Fn Tryz.prog g [.v (.int .i32 x)] (bv (p x))) : Sy.Fn Tryz.prog 256 [stv s,.clo g [] [],bv true] (iv (Lib.idxFunc p true s)):=by
 refine ⟨by kernel_rfl,fun A w vs hA hvs=>?_⟩
 simp only [fsatT,fsat] at hvs
 obtain ⟨x1,r1,rfl,rfl,x2,r2,rfl,⟨fv,cv,rfl,rfl,rfl⟩,x3,r3,rfl,rfl,rfl⟩:=hvs
 have hp : PredGrows Tryz.prog g #[] p w:=fun W x hx _=>by
  refine ((hg x hx).2 (fun _=>False) W [.int .i32 x] (fun b h=>h.elim) (by simp [fsatT,fsat])).mono ?_
  rintro e w' ⟨v,rfl,hb,hv⟩
  simp only [fsat] at hv
  exact ⟨by rw [hv],hb⟩
 have h:=Any.strings_indexFunc_grows lays g #[] (fun args w=>run_callFunc (hg 0 (by omega)).1) p true s w hp
 refine h.mono ?_
 rintro e w' ⟨rfl,hb⟩
 exact ⟨_,rfl,hb,by simp only [fsat]⟩
theorem fn229 (s : ByteArray) (g : Nat) (p : Nat → Bool) (hg : ∀ x : Nat,x ≤ 1114111 → Sy.Fn Tryz.prog g [.v (.int .i32 x)] (bv (p x))) : Sy.Fn Tryz.prog 229 [stv s,.clo g [] []] (iv (Lib.idxFunc p true s)):=by
 refine Fn_of_W mixed Xt229 rfl ?_
 (refine go_c (fn256 s g p hg) ?_;try exact tTI)
 exact W_ret ⟨[_],⟨rfl,rfl⟩,rfl⟩
theorem fn165 (s : ByteArray) (g : Nat) (p : Nat → Bool) (hg : ∀ x : Nat,x ≤ 1114111 → Sy.Fn Tryz.prog g [.v (.int .i32 x)] (bv (p x))) : Sy.Fn Tryz.prog 165 [stv s,.clo g [] []] (bv (decide (0 ≤ Lib.idxFunc p true s))):=by
 refine Fn_of_W mixed Xt165 rfl ?_
 (refine go_c (fn229 s g p hg) ?_;try exact tTI)
 exact W_ret ⟨[_],⟨rfl,rfl⟩,rfl⟩
def okCh (b : Int) : Bool:=(decide (97 ≤ b) && decide (b ≤ 122)) || (decide (48 ≤ b) && decide (b ≤ 57))
theorem fn166 (x : Int) : Sy.Fn Tryz.prog 166 [.v (.int .i32 x)] (bv (!okCh x)):=by
 refine Fn_of_W mixed Xt166 rfl ?_
 (refine go0 ?_;try exact tTI)
 have e : ((decide (x < 97) || decide (122 < x)) && (decide (x < 48) || decide (57 < x))) = !okCh x:=by
  unfold okCh
  rw [Bool.eq_iff_iff]
  simp only [Bool.and_eq_true,Bool.or_eq_true,decide_eq_true_eq,Bool.not_eq_true',Bool.or_eq_false_iff,Bool.and_eq_false_iff,decide_eq_false_iff_not]
  omega
 rw [e]
 exact W_ret ⟨[_],⟨rfl,rfl⟩,rfl⟩
theorem get_at (s : ByteArray) (i : Nat) (h : i < s.size) : s.get! i = s[i]:=by
 cases s with | mk d=>
 show d[i]! = d[i]
 exact getElem!_pos d i h
theorem byteAt_get (s : ByteArray) (i : Nat) (h : i < s.size) : byteAt s i = (s.get! i).toNat:=by
 unfold byteAt
 have h4 : s[i]? = some s[i]:=by simp [h]
 rw [h4,get_at s i h]
def chars (s : ByteArray) : Bool:=(List.range s.size).all (fun i=>okCh (byteAt s i))
theorem idx_ok (s : ByteArray) : ∀ (f pos : Nat),s.size ≤ pos + f → (0 ≤ Lib.idxFuncFrom (fun x=>!okCh x) true s f pos ↔ ∃ i,pos ≤ i ∧ i < s.size ∧ okCh (byteAt s i) = false)
 |0,pos,h=>by
  simp only [Lib.idxFuncFrom]
  constructor
  ·intro h;omega
  ·rintro ⟨i,a,b,_⟩;omega
 |f + 1,pos,h=>by
  unfold Lib.idxFuncFrom
  by_cases hp : pos < s.size
  case neg=>
   rw [if_neg hp]
   constructor
   ·intro h;omega
   ·rintro ⟨i,a,b,_⟩;omega
  rw [if_pos hp]
  have hd:=Lib.decode_at s pos
  have hb:=byteAt_get s pos hp
  rw [← hb] at hd
  by_cases hc : okCh (byteAt s pos) = true
  ·have hlt : byteAt s pos < 128:=by
    unfold okCh at hc
    simp only [Bool.or_eq_true,Bool.and_eq_true,decide_eq_true_eq] at hc
    omega
   have e : Utf8.decode s pos = (byteAt s pos,1):=by rw [hd];unfold Lib.decodeN;rw [if_pos hlt]
   rw [e]
   simp only []
   rw [hc,if_neg (by decide),idx_ok s f (pos + 1) (by omega)]
   constructor
   ·rintro ⟨i,a,b,d⟩;exact ⟨i,by omega,b,d⟩
   ·rintro ⟨i,a,b,d⟩
    refine ⟨i,?_,b,d⟩
    by_cases q : i = pos
    ·subst q;rw [hc] at d;cases d
    ·omega
  ·have hbad : okCh ((Utf8.decode s pos).1 : Nat) = false:=by
    by_cases hlt : byteAt s pos < 128
    ·have e : Utf8.decode s pos = (byteAt s pos,1):=by rw [hd];unfold Lib.decodeN;rw [if_pos hlt]
     rw [e];simpa using hc
    ·have : 128 ≤ (Utf8.decode s pos).1:=by
      rw [hd];unfold Lib.decodeN;rw [if_neg hlt]
      repeat' split
      all_goals (simp only [];omega)
     unfold okCh
     rw [Bool.or_eq_false_iff,Bool.and_eq_false_iff,Bool.and_eq_false_iff]
     simp only [decide_eq_false_iff_not]
     omega
   rw [hbad,if_pos (by decide)]
   exact ⟨fun _=>⟨pos,Nat.le_refl _,hp,by simpa using hc⟩,fun _=>by omega⟩
theorem idx_chars (s : ByteArray) : decide (0 ≤ Lib.idxFunc (fun x=>!okCh x) true s) = !chars s:=by
 have h:=idx_ok s s.size 0 (by omega)
 rw [Bool.eq_iff_iff,decide_eq_true_eq,Bool.not_eq_true']
 unfold Lib.idxFunc chars
 rw [h]
 constructor
 ·rintro ⟨i,_,a,b⟩
  rw [← Bool.not_eq_true,List.all_eq_true]
  intro q
  rw [q i (by simpa using a)] at b;cases b
 ·intro q
  rw [← Bool.not_eq_true,List.all_eq_true] at q
  apply Classical.byContradiction
  intro hn
  apply q
  intro i hi
  rw [← Bool.not_eq_false]
  intro hb
  exact hn ⟨i,by omega,by simpa using hi,hb⟩
def nameB (s : ByteArray) : Bool:=!decide (s.size = 0) && decide (s.size ≤ 20) && chars s
theorem fn105 (s : ByteArray) : Sy.Fn Tryz.prog 105 [stv s] (bv (nameB s)):=by
 refine Fn_of_W mixed Xt105 rfl ?_
 have c165:=fn165 s 166 (fun x=>!okCh x) (fun x _=>fn166 x)
 rw [idx_chars] at c165
 unfold nameB
 (refine go0 ?_;try exact tTI)
 refine W_cond (by rfl) (fun h=>?_) (fun h=>?_)
 ·have e : (!decide (s.size = 0) && decide (s.size ≤ 20)) = false:=by
   rw [Bool.or_eq_true,beq_iff_eq,decide_eq_true_eq] at h
   rw [Bool.and_eq_false_iff,Bool.not_eq_false',decide_eq_true_eq,decide_eq_false_iff_not]
   omega
  rw [e,Bool.false_and]
  (refine go0 ?_;try exact tTI)
  exact W_ret ⟨[_],⟨rfl,rfl⟩,rfl⟩
 ·have e : (!decide (s.size = 0) && decide (s.size ≤ 20)) = true:=by
   rw [Bool.or_eq_false_iff,beq_eq_false_iff_ne,decide_eq_false_iff_not] at h
   rw [Bool.and_eq_true,Bool.not_eq_true',decide_eq_false_iff_not,decide_eq_true_eq]
   omega
  rw [e,Bool.true_and]
  (refine go_c c165 ?_;try exact tTI)
  rw [Bool.not_not]
  exact W_ret ⟨[_],⟨rfl,rfl⟩,rfl⟩
structure Axl where
 x : Int
 limit : Int
 wheels : Int
structure Unt where
 kind : Int
 length : Int
 behind : Int
 front : Int
 rear : Int
 width : Int
 height : Int
 mass : Int
 steer : Int
 most : Int
 axles : List Axl
structure Veh where
 name : ByteArray
 units : List Unt
 fr : Int
 to : Int
def dA : Axl:=⟨0,0,0⟩
def cA (a : Axl) : List AV:=[iv a.x,iv a.limit,iv a.wheels]
def aA (l : List Axl) : AV:=.sl 3 dA cA l
def dU : Unt:=⟨0,0,0,0,0,0,0,0,0,0,[]⟩
def cU (u : Unt) : List AV:=[iv u.kind,iv u.length,iv u.behind,iv u.front,iv u.rear,iv u.width,iv u.height,iv u.mass,iv u.steer,iv u.most,aA u.axles]
def aU (l : List Unt) : AV:=.sl 11 dU cU l
def cV (v : Veh) : List AV:=[stv v.name,aU v.units,iv v.fr,iv v.to]
theorem nA0 (a : Axl) : nth (cA a) 0 = iv a.x:=rfl
theorem nA1 (a : Axl) : nth (cA a) 1 = iv a.limit:=rfl
theorem nA2 (a : Axl) : nth (cA a) 2 = iv a.wheels:=rfl
theorem lA (a : Axl) : (cA a).length = 3:=rfl
theorem nU0 (a : Unt) : nth (cU a) 0 = iv a.kind:=rfl
theorem nU1 (a : Unt) : nth (cU a) 1 = iv a.length:=rfl
theorem nU2 (a : Unt) : nth (cU a) 2 = iv a.behind:=rfl
theorem nU3 (a : Unt) : nth (cU a) 3 = iv a.front:=rfl
theorem nU4 (a : Unt) : nth (cU a) 4 = iv a.rear:=rfl
theorem nU5 (a : Unt) : nth (cU a) 5 = iv a.width:=rfl
theorem nU6 (a : Unt) : nth (cU a) 6 = iv a.height:=rfl
theorem nU7 (a : Unt) : nth (cU a) 7 = iv a.mass:=rfl
theorem nU8 (a : Unt) : nth (cU a) 8 = iv a.steer:=rfl
theorem nU9 (a : Unt) : nth (cU a) 9 = iv a.most:=rfl
theorem nU10 (a : Unt) : nth (cU a) 10 = .sl 3 dA cA a.axles:=rfl
theorem lU (a : Unt) : (cU a).length = 11:=rfl
theorem nV0 (a : Veh) : nth (cV a) 0 = stv a.name:=rfl
theorem nV1 (a : Veh) : nth (cV a) 1 = .sl 11 dU cU a.units:=rfl
theorem nV2 (a : Veh) : nth (cV a) 2 = iv a.fr:=rfl
theorem nV3 (a : Veh) : nth (cV a) 3 = iv a.to:=rfl
theorem lV (a : Veh) : (cV a).length = 4:=rfl
theorem aUe (l : List Unt) : aU l = .sl 11 dU cU l:=rfl
theorem aAe (l : List Axl) : aA l = .sl 3 dA cA l:=rfl
theorem tA (s : Axl) : List.take 3 (cA s) = cA s:=rfl
theorem frA (s : Axl) : frzAll (cA s) = true:=rfl
theorem iA {m : Nat → Option Blk} {n : Nat} (s : Axl) : List.flatMap (ids m n) (cA s) = []:=flat_frz n _ (frA s)
theorem tU (s : Unt) : List.take 11 (cU s) = cU s:=rfl
theorem frU (s : Unt) : frzAll (cU s) = true:=rfl
theorem iU {m : Nat → Option Blk} {n : Nat} (s : Unt) : List.flatMap (ids m n) (cU s) = []:=flat_frz n _ (frU s)
theorem tV (s : Veh) : List.take 4 (cV s) = cV s:=rfl
theorem frV (s : Veh) : frzAll (cV s) = true:=rfl
theorem iV {m : Nat → Option Blk} {n : Nat} (s : Veh) : List.flatMap (ids m n) (cV s) = []:=flat_frz n _ (frV s)
attribute [push_cast] tA frA iA tU frU iU tV frV iV nA0 nA1 nA2 lA nU0 nU1 nU2 nU3 nU4 nU5 nU6 nU7 nU8 nU9 nU10 lU nV0 nV1 nV2 nV3 lV aUe aAe
theorem fn168 (x lo hi : Int) : Sy.Fn Tryz.prog 168 [iv x,iv lo,iv hi] (bv (inR x lo hi)):=by
 refine Fn_of_W mixed Xt168 rfl ?_
 (refine go0 ?_;try exact tTI)
 exact W_ret ⟨[_],⟨rfl,rfl⟩,rfl⟩
theorem fn167 (x : Int) : Sy.Fn Tryz.prog 167 [iv x] (bv (!inR x 0 131072)):=by
 refine Fn_of_W mixed Xt167 rfl ?_
 (refine go_c (fun x1 x2 x3=>fn168 x1 x2 x3) ?_;try exact tTI)
 exact W_ret ⟨[_],⟨rfl,rfl⟩,rfl⟩
abbrev sa (l : List Axl) (j : Nat) : Axl:=l.getD j dA
abbrev su (l : List Unt) (j : Nat) : Unt:=l.getD j dU
def lastX (l : List Axl) (j : Nat) : Int:=if j = 0 then 0 else (sa l (j - 1)).x
def axB (u : Unt) (j : Nat) : Bool:=inR (sa u.axles j).x (lastX u.axles j) (u.length + u.rear) && inR (sa u.axles j).limit 1 1048576 && decide (1 ≤ (sa u.axles j).wheels) && decide ((sa u.axles j).wheels ≤ 16)
def axOK (u : Unt) : Bool:=(List.range u.axles.length).all (axB u)
def hd1 (u : Unt) : Prop:=(0 ≤ u.kind ∧ u.kind ≤ 3) ∧ (100 ≤ u.length ∧ u.length ≤ 131072) ∧ (-u.length ≤ u.behind ∧ u.behind ≤ 131072) ∧ (0 ≤ u.front ∧ u.front ≤ 131072) ∧ (0 ≤ u.rear ∧ u.rear ≤ 131072) ∧ (0 ≤ u.width ∧ u.width ≤ 131072) ∧ (0 ≤ u.height ∧ u.height ≤ 131072)
def hd2 (u : Unt) : Prop:=(1 ≤ u.mass ∧ u.mass ≤ 1048576) ∧ (0 ≤ u.steer ∧ u.steer ≤ 900) ∧ (0 ≤ u.most ∧ u.most ≤ 40) ∧ 0 < u.axles.length
instance (u : Unt) : Decidable (hd1 u):=by unfold hd1;infer_instance
instance (u : Unt) : Decidable (hd2 u):=by unfold hd2;infer_instance
def unitB (u : Unt) : Bool:=decide (hd1 u) && decide (hd2 u) && axOK u
theorem axOK_no {u : Unt} {i : Nat} (hi : i < u.axles.length) (h : axB u i = false) : axOK u = false:=by
 rw [← Bool.not_eq_true]
 unfold axOK
 rw [List.all_eq_true]
 intro q
 rw [q i (by simpa using hi)] at h;cases h
theorem axOK_yes {u : Unt} (h : ∀ j,j < u.axles.length → axB u j = true) : axOK u = true:=by
 unfold axOK
 rw [List.all_eq_true]
 intro j hj
 exact h j (by simpa using hj)
theorem unitB_no1 {u : Unt} (h : ¬ hd1 u) : unitB u = false:=by unfold unitB;rw [decide_eq_false h,Bool.false_and,Bool.false_and]
theorem unitB_no2 {u : Unt} (h1 : hd1 u) (h : ¬ hd2 u) : unitB u = false:=by unfold unitB;rw [decide_eq_true h1,decide_eq_false h,Bool.true_and,Bool.false_and]
theorem unitB_ax {u : Unt} (h1 : hd1 u) (h : hd2 u) : unitB u = axOK u:=by unfold unitB;rw [decide_eq_true h1,decide_eq_true h,Bool.true_and,Bool.true_and]
theorem fn107 (u : Unt) (hl : u.axles.length ≤ 140737488355328) : Sy.Fn Tryz.prog 107 [.agg (cU u)] (bv (unitB u)):=by
 refine Fn_of_W mixed Xt107 rfl ?_
 have c112:=fn112 [u.front,u.rear,u.width,u.height] (Nat.le_of_ble_eq_true rfl) 167 [] [] (fun x=>!inR x 0 131072) (fun x _=>fn167 x)
 (refine go0 ?_;try exact tTI)
 refine ⟨rfl,trivial,Int,0,cI,[u.front,u.rear,u.width,u.height],rfl,by omega,fun x _=>⟨rfl,rfl⟩,rfl,?_⟩
 (refine sy1 ?_;try exact tTI)
 (refine go_gg c112 (fun x1 x2 x3=>fn168 x1 x2 x3) ?_;try exact tTI)
 refine W_cond (by rfl) (fun h=>?_) (fun h=>?_)
 ·have hno : ¬ hd1 u:=by
   rintro ⟨a0,a1,a2,a3,a4,a5,a6⟩
   rw [wrap64 ⟨by omega,by omega⟩] at h
   simp only [inR,Bool.or_eq_true,Bool.or_eq_false_iff,Bool.and_eq_true,Bool.and_eq_false_iff,Bool.not_not,Bool.not_eq_true',Bool.not_eq_false',decide_eq_true_eq,decide_eq_false_iff_not,Bool.not_or,Bool.not_and] at h
   omega
  rw [unitB_no1 hno]
  (refine go0 ?_;try exact tTI)
  exact W_ret ⟨[_],⟨rfl,rfl⟩,rfl⟩
 have h1 : hd1 u:=by
  by_cases hL : 100 ≤ u.length ∧ u.length ≤ 131072
  ·rw [wrap64 ⟨by omega,by omega⟩] at h
   simp only [inR,Bool.or_eq_true,Bool.or_eq_false_iff,Bool.and_eq_true,Bool.and_eq_false_iff,Bool.not_not,Bool.not_eq_true',Bool.not_eq_false',decide_eq_true_eq,decide_eq_false_iff_not,Bool.not_or,Bool.not_and] at h
   unfold hd1
   omega
  ·exfalso
   generalize IntKind.i64.wrap (0 - u.length) = w at h
   simp only [inR,Bool.or_eq_true,Bool.or_eq_false_iff,Bool.and_eq_true,Bool.and_eq_false_iff,Bool.not_not,Bool.not_eq_true',Bool.not_eq_false',decide_eq_true_eq,decide_eq_false_iff_not,Bool.not_or,Bool.not_and] at h
   omega
 (refine go_cg (fun x1 x2 x3=>fn168 x1 x2 x3) (fun x1 x2 x3=>fn168 x1 x2 x3) ?_;try exact tTI)
 refine W_cond (by rfl) (fun h=>?_) (fun h=>?_)
 ·have hno : ¬ hd2 u:=by
   rintro ⟨a0,a1,a2,a3⟩
   simp only [inR,Bool.or_eq_true,Bool.or_eq_false_iff,Bool.and_eq_true,Bool.and_eq_false_iff,Bool.not_not,Bool.not_eq_true',Bool.not_eq_false',decide_eq_true_eq,decide_eq_false_iff_not,Bool.not_or,Bool.not_and,beq_iff_eq] at h
   omega
  rw [unitB_no2 h1 hno]
  (refine go0 ?_;try exact tTI)
  exact W_ret ⟨[_],⟨rfl,rfl⟩,rfl⟩
 have h2 : hd2 u:=by
  simp only [inR,Bool.or_eq_true,Bool.or_eq_false_iff,Bool.and_eq_true,Bool.and_eq_false_iff,Bool.not_not,Bool.not_eq_true',Bool.not_eq_false',decide_eq_true_eq,decide_eq_false_iff_not,Bool.not_or,Bool.not_and,beq_eq_false_iff_ne] at h
  unfold hd2
  omega
 rw [unitB_ax h1 h2]
 (refine go0 ?_;try exact tTI)
 refine W_loopU (fun i : Nat=>[(4,iv (lastX u.axles i)),(74,iv i)]) (fun i=>[]) (fun i=>i ≤ u.axles.length ∧ ∀ j,j < i → axB u j = true) (fun i=>u.axles.length - i) 0 ⟨by omega,fun j hj=>by omega⟩ (by rfl) (by rfl) (fun i hi=>?_)
 obtain ⟨hi,hall⟩:=hi
 obtain ⟨a0,a1,a2,a3,a4,a5,a6⟩:=h1
 (refine sy1 ?_;try exact tTI)
 (refine go0 ?_;try exact tTI)
 refine W_condD (by rfl) (fun h5=>?_) (fun h5=>?_)
 ·have hlt : i < u.axles.length:=by omega
  have hsp : u.axles.getD i dA = sa u.axles i:=rfl
  have hls : lastX u.axles (i + 1) = (sa u.axles i).x:=by unfold lastX;rw [if_neg (by omega),Nat.add_sub_cancel]
  have hab : axB u i = (inR (sa u.axles i).x (lastX u.axles i) (u.length + u.rear) && inR (sa u.axles i).limit 1 1048576 && decide (1 ≤ (sa u.axles i).wheels) && decide ((sa u.axles i).wheels ≤ 16)):=rfl
  generalize hs : sa u.axles i = a at *
  (refine gofcg hsp (fun x1 x2 x3=>fn168 x1 x2 x3) (fun x1 x2 x3=>fn168 x1 x2 x3) ?_;try exact tTI)
  refine W_cond (by rfl) (fun hb=>?_) (fun hb=>?_)
  ·have hno : axB u i = false:=by
    rw [hab]
    generalize inR a.x (lastX u.axles i) (u.length + u.rear) = b1 at *
    generalize inR a.limit 1 1048576 = b2 at *
    cases b1 <;> cases b2 <;> simp at hb ⊢ <;> omega
   rw [axOK_no hlt hno]
   (refine go0 ?_;try exact tTI)
   exact W_ret ⟨[_],⟨rfl,rfl⟩,rfl⟩
  ·have hyes : axB u i = true:=by
    rw [hab]
    generalize inR a.x (lastX u.axles i) (u.length + u.rear) = b1 at *
    generalize inR a.limit 1 1048576 = b2 at *
    cases b1 <;> cases b2 <;> simp at hb ⊢ <;> omega
   (refine go0 ?_;try exact tTI)
   refine ⟨i + 1,⟨by omega,up_all hall hyes⟩,by omega,by rfl,?_⟩
   rw [hls]
   (refine syE ?_;try exact tTI)
 ·rw [axOK_yes (fun j hj=>hall j (by omega))]
  (refine go0 ?_;try exact tTI)
  exact W_ret ⟨[_],⟨rfl,rfl⟩,rfl⟩
theorem fn104 (u : Unt) : Sy.Fn Tryz.prog 104 [.agg (cU u)] (bv (decide (24 < u.axles.length))):=by
 refine Fn_of_W mixed Xt104 rfl ?_
 (refine go0 ?_;try exact tTI)
 have e : decide ((24 : Int) < u.axles.length) = decide (24 < u.axles.length):=by rw [Bool.eq_iff_iff];simp only [decide_eq_true_eq];omega
 rw [e]
 exact W_ret ⟨[_],⟨rfl,rfl⟩,rfl⟩
theorem fn106 (u : Unt) (hl : u.axles.length ≤ 140737488355328) : Sy.Fn Tryz.prog 106 [.agg (cU u)] (bv (!unitB u)):=by
 refine Fn_of_W mixed Xt106 rfl ?_
 (refine go_c (fn107 u hl) ?_;try exact tTI)
 exact W_ret ⟨[_],⟨rfl,rfl⟩,rfl⟩
theorem fn164 (l : List Unt) (hl : l.length ≤ 1000000) (g : Nat) (p : Unt → Bool) (hg : ∀ x ∈ l,Sy.Fn Tryz.prog g [.agg (cU x)] (bv (p x))) : Sy.Fn Tryz.prog 164 [aU l,.clo g [] []] (iv (idxF p l 0)):=by
 refine Fn_of_W mixed Xt164 rfl ?_
 (refine go0 ?_;try exact tTI)
 refine W_loopU (fun i : Nat=>[(8,iv i)]) (fun i=>[]) (fun i=>i ≤ l.length ∧ ∀ j,j < i → p (l.getD j dU) = false) (fun i=>l.length - i) 0 ⟨by omega,fun j hj=>by omega⟩ (by rfl) (by rfl) (fun i hi=>?_)
 obtain ⟨hi,hp⟩:=hi
 (refine sy1 ?_;try exact tTI)
 (refine go0 ?_;try exact tTI)
 refine W_condD (by rfl) (fun h=>?_) (fun h=>?_)
 ·have hlt : i < l.length:=by omega
  have cg:=hg _ (getD_mem dU l i hlt)
  (refine go_c cg ?_;try exact tTI)
  refine W_cond (by rfl) (fun hb=>?_) (fun hb=>?_)
  ·(refine go0 ?_;try exact tTI)
   exact W_ret ⟨[_],⟨rfl,rfl⟩,by rw [idxF_at p dU l i 0 hlt hp hb,Int.zero_add];rfl⟩
  ·(refine go0 ?_;try exact tTI)
   refine ⟨i + 1,⟨by omega,up_all hp hb⟩,by omega,by rfl,?_⟩
   (refine syE ?_;try exact tTI)
 ·(refine go0 ?_;try exact tTI)
  exact W_ret ⟨[_],⟨rfl,rfl⟩,by rw [idxF_none p dU l 0 (fun j hj=>hp j (by omega))];rfl⟩
theorem fn103 (l : List Unt) (hl : l.length ≤ 1000000) (g : Nat) (p : Unt → Bool) (hg : ∀ x ∈ l,Sy.Fn Tryz.prog g [.agg (cU x)] (bv (p x))) : Sy.Fn Tryz.prog 103 [aU l,.clo g [] []] (bv (l.any p)):=by
 refine Fn_of_W mixed Xt103 rfl ?_
 (refine go_c (fn164 l hl g p hg) ?_;try exact tTI)
 exact W_ret ⟨[_],⟨rfl,rfl⟩,by rw [← idxF_any p l 0 (by omega)];rfl⟩
def manyB (v : Veh) : Bool:=decide (12 < v.units.length) || v.units.any (fun u=>decide (24 < u.axles.length))
def argP (v : Veh) : Prop:=nameB v.name = false ∨ v.units.length = 0 ∨ (su v.units 0).kind ≠ 0 ∨ v.fr < 0 ∨ v.to < v.fr ∨ (v.units.length : Int) ≤ v.to
instance (v : Veh) : Decidable (argP v):=by unfold argP;infer_instance
def chkV (v : Veh) : Int:=if manyB v = true then 6 else if argP v then 2 else if v.units.any (fun u=>!unitB u) = true then 2 else 0
abbrev Gr (v : Veh) : Prop:=v.units.length ≤ 20 ∧ ∀ u ∈ v.units,u.axles.length ≤ 40
theorem fn46 (v : Veh) (hv : Gr v) : Sy.Fn Tryz.prog 46 [.agg (cV v)] (iv (chkV v)):=by
 refine Fn_of_W mixed Xt46 rfl ?_
 have hl:=hv.1
 have c1:=fn103 v.units (by omega) 104 (fun u=>decide (24 < u.axles.length)) (fun u _=>fn104 u)
 have c2:=fn103 v.units (by omega) 106 (fun u=>!unitB u) (fun u hu=>fn106 u (by have:=hv.2 u hu;omega))
 (refine go_g c1 ?_;try exact tTI)
 refine W_cond (by rfl) (fun h=>?_) (fun h=>?_)
 ·have e : manyB v = true:=by
   unfold manyB
   rw [← h];congr 1;rw [Bool.eq_iff_iff];simp only [decide_eq_true_eq];omega
  unfold chkV
  rw [if_pos e]
  (refine go0 ?_;try exact tTI)
  exact W_ret ⟨[_],⟨rfl,rfl⟩,rfl⟩
 have e : ¬ manyB v = true:=by
  rw [Bool.not_eq_true]
  unfold manyB
  rw [← h];congr 1;rw [Bool.eq_iff_iff];simp only [decide_eq_true_eq];omega
 unfold chkV
 rw [if_neg e]
 have hsu : v.units.getD 0 dU = su v.units 0:=rfl
 (refine gofc hsu (fun x1=>fn105 x1) ?_;try exact tTI)
 refine W_cond (by rfl) (fun h=>?_) (fun h=>?_)
 ·have ea : argP v:=by
   unfold argP
   generalize nameB v.name = b at *
   cases b
   ·exact .inl rfl
   ·right
    simp only [Bool.or_eq_true,Bool.or_eq_false_iff,decide_eq_true_eq,decide_eq_false_iff_not,bne_iff_ne,beq_iff_eq,beq_eq_false_iff_ne,bne_eq_false_iff_eq,Bool.not_true,Bool.not_false,Bool.false_eq_true,false_or,true_and,reduceCtorEq,ne_eq] at h ⊢
    omega
  rw [if_pos ea]
  (refine go0 ?_;try exact tTI)
  exact W_ret ⟨[_],⟨rfl,rfl⟩,rfl⟩
 have ea : ¬ argP v:=by
  unfold argP
  generalize nameB v.name = b at *
  cases b
  ·simp at h
  ·simp only [Bool.or_eq_true,Bool.or_eq_false_iff,decide_eq_true_eq,decide_eq_false_iff_not,bne_iff_ne,beq_iff_eq,beq_eq_false_iff_ne,bne_eq_false_iff_eq,Bool.not_true,Bool.not_false,Bool.false_eq_true,false_or,true_and,reduceCtorEq,ne_eq] at h ⊢
   omega
 rw [if_neg ea]
 (refine go_c c2 ?_;try exact tTI)
 refine W_cond (by rfl) (fun h=>?_) (fun h=>?_)
 ·rw [if_pos h]
  (refine go0 ?_;try exact tTI)
  exact W_ret ⟨[_],⟨rfl,rfl⟩,rfl⟩
 ·rw [if_neg (by rw [h];decide)]
  (refine go0 ?_;try exact tTI)
  exact W_ret ⟨[_],⟨rfl,rfl⟩,rfl⟩
structure UnOK (u : Unt) : Prop where
 l : 0 ≤ u.length ∧ u.length ≤ 131072
 s : u.steer = 0
 b : -131072 ≤ u.behind ∧ u.behind ≤ 131072
theorem fn90 (u : Unt) (h : UnOK u) : Sy.Fn Tryz.prog 90 [.agg (cU u)] (iv u.length):=by
 refine Fn_of_W mixed Xt90 rfl ?_
 have h1:=h.l
 have h2:=h.s
 have e1:=wrap_i64_tdiv (u.length * (1000 - 0)) 1000 (by omega) (by omega) (by omega)
 have e2 : (u.length * (1000 - 0)).tdiv 1000 = u.length:=by rw [Int.tdiv_eq_ediv_of_nonneg (by omega)];omega
 (refine gof (ad3 h2 e1 e2) ?_;try exact tTI)
 exact W_ret ⟨[_],⟨rfl,rfl⟩,rfl⟩
theorem fn92 (u : Unt) (h : UnOK u) : Sy.Fn Tryz.prog 92 [.agg (cU u)] (iv (0 - u.behind)):=by
 refine Fn_of_W mixed Xt92 rfl ?_
 have h1:=h.l
 have h3:=h.b
 have c90:=fn90 u h
 repeat' (first | refine w1g ?_ | refine w1l ?_ | refine w1q ?_ | refine w1b ?_ | refine w1p ?_ | ((first | refine w1r ?_ | refine w1k ?_ | refine w1e ?_ | refine CallC.now (c90) ?_);simp (maxSteps:=400000) (disch:=omega) only [push_cast,↓reduceIte,reduceCtorEq,Nat.reduceAdd,Nat.reduceSub,Nat.reduceEqDiff,Nat.reduceLeDiff,Nat.reduceLT,Nat.reduceBEq,Nat.reduceDiv,Nat.reduceMod,Nat.reducePow,Nat.reduceMul,Int.reduceToNat,Int.reduceLT,Int.reduceLE,Int.sub_self]) | refine an2 ?_ | fail)
 exact W_ret ⟨[_],⟨rfl,rfl⟩,rfl⟩
abbrev cPl (u : Unt) (j a : Pt) : List AV:=[iv u.kind,iv u.length,iv u.behind,iv u.front,iv u.rear,iv u.width,iv u.height,iv u.mass,iv u.steer,iv u.most,aA u.axles,iv j.x,iv j.y,iv a.x,iv a.y]
theorem fn91 (u : Unt) (j a : Pt) (x y : Int) (ok : PlOK a j x y) : Sy.Fn Tryz.prog 91 [.agg (cPl u j a),iv x,iv y] (.tup [.agg (cPt (plP a j x y)),iv 0]):=by
 refine Fn_of_W mixed Xt91 rfl ?_
 have c97:=fn97 a j x y ok
 (refine go_c c97 ?_;try exact tTI)
 exact W_ret ⟨[_,_],⟨⟨by simp,rfl⟩,rfl,rfl⟩,rfl⟩
structure Pld where
 u : Unt
 j : Pt
 a : Pt
def dPd : Pld:=⟨dU,dQ,dQ⟩
abbrev cPd (p : Pld) : List AV:=cPl p.u p.j p.a
abbrev aPd (l : List Pld) : AV:=.sl 15 dPd cPd l
structure Two (v : Veh) (u0 u1 : Unt) (p0 p1 p2 : Pt) : Prop where
 vu : v.units = [u0,u1]
 ch : chkV v = 0
 k0 : UnOK u0
 k1 : UnOK u1
 b0 : u0.behind = 0
 b1 : u1.behind = 0
 q0 : okQ p0 = true
 q1 : okQ p1 = true
 q2 : okQ p2 = true
 n1 : (p1.x == p0.x && p1.y == p0.y) = false
 n2 : (p2.x == p1.x && p2.y == p1.y) = false
 l1 : PlOK p1 p0 0 0
 l2 : PlOK p2 p1 0 0
 e1 : plP p1 p0 0 0 = p1
 e2 : plP p2 p1 0 0 = p2
abbrev cRg (v : Veh) (p0 : Pt) (ps : List Pt) : List AV:=[stv v.name,aU v.units,iv v.fr,iv v.to,iv p0.x,iv p0.y,aQ ps]
theorem fn227 (v : Veh) (p0 : Pt) (ps : List Pt) : Sy.Fn Tryz.prog 227 [.agg (cRg v p0 ps)] (.clo 255 [] [.fp (cRg v p0 ps) 0]):=by
 refine Fn_of_W mixed Xt227 rfl ?_
 (refine go0 ?_;try exact tTI)
 exact W_ret ⟨[_],⟨rfl,rfl⟩,rfl⟩
def jt (p0 p1 p2 : Pt) : Nat → Pt
 |0=>p0
 |1=>p1
 |_=>p2
def pls (u0 u1 : Unt) (p0 p1 p2 : Pt) : List Pld:=[⟨u0,p0,p1⟩,⟨u1,p1,p2⟩]
theorem fn254 (v : Veh) (u0 u1 : Unt) (p0 p1 p2 : Pt) (ps : List Pt) (hps : ps = [p1,p2]) (T : Two v u0 u1 p0 p1 p2) : Sy.Fn Tryz.prog 254 [.v (.slice none 0 0),.clo 255 [] [.fp (cRg v p0 ps) 0]] (aPd (pls u0 u1 p0 p1 p2)):=by
 refine Fn_of_W mixed Xt254 rfl ?_
 obtain ⟨vu,ch,k0,k1,b0,b1,q0,q1,q2,n1,n2,l1,l2,e1,e2⟩:=T
 have hl : v.units.length = 2:=by rw [vu];rfl
 have g0 : v.units.getD 0 dU = u0:=by rw [vu];rfl
 have g1 : v.units.getD 1 dU = u1:=by rw [vu];rfl
 have s0 : ps.getD 0 dQ = p1:=by rw [hps];rfl
 have s1 : ps.getD 1 dQ = p2:=by rw [hps];rfl
 have sl : ps.length = 2:=by rw [hps];rfl
 have a1:=fn38 p1
 rw [if_pos q1] at a1
 have a2:=fn38 p2
 rw [if_pos q2] at a2
 have d0:=fn92 u0 k0
 have d1:=fn92 u1 k1
 rw [b0] at d0
 rw [b1] at d1
 have f0:=fn91 u0 p0 p1 0 0 l1
 have f1:=fn91 u1 p1 p2 0 0 l2
 rw [e1] at f0
 rw [e2] at f1
 have ce0 : cU u0 = [iv u0.kind,iv u0.length,iv u0.behind,iv u0.front,iv u0.rear,iv u0.width,iv u0.height,iv u0.mass,iv u0.steer,iv u0.most,aA u0.axles]:=rfl
 have ce1 : cU u1 = [iv u1.kind,iv u1.length,iv u1.behind,iv u1.front,iv u1.rear,iv u1.width,iv u1.height,iv u1.mass,iv u1.steer,iv u1.most,aA u1.axles]:=rfl
 have z0 : ((0 : Int) != 0) = false:=rfl
 (refine go0 ?_;try exact tTI)
 refine W_rfn (.inl rfl) (fun lp R hR=>Inl_of_W mixed Xt255 rfl (fun vs=>?_))
 (refine syf hl ?_;try exact tTI)
 (refine gof hl ?_;try exact tTI)
 refine W_le (le_adoptC 0 0 248 15 dPd cPd (by omega) _ rfl rfl (by simp)) ?_
 (refine sy1 ?_;try exact tTI)
 refine W_loopU (fun i : Nat=>[(16,iv i)]) (fun i=>[(0,.cells [.row 15 i]),(15,.row i 248 15 dPd cPd ((pls u0 u1 p0 p1 p2).take i)),(8,.cells (cPt (jt p0 p1 p2 i)))]) (fun i=>i ≤ 2) (fun i=>2 - i) 0 (by omega) (by rfl) (by rfl) (fun i hi=>?_)
 (refine syf hl ?_;try exact tTI)
 (refine gof hl ?_;try exact tTI)
 refine W_condD (by rfl) (fun h5=>?_) (fun h5=>?_)
 ·obtain rfl | rfl : i = 0 ∨ i = 1:=by omega
  ·rw [show jt p0 p1 p2 0 = p0 from rfl]
   (refine gofc (ad7 hl g0 s0 sl ce0 z0 n1) a1 ?_;try exact tTI)
   refine StopC.yld (fun hpc=>⟨trivial,Yl_of_W (k:=3) mixed hR rfl rfl rfl (fun vs2=>?_)⟩) (fun hpc=>absurd (by simp [Sy.pc]) hpc)
   (refine sy1 ?_;try exact tTI)
   (refine go0 ?_;try exact tTI)
   refine ⟨_,rfl,?_⟩
   (refine sy1 ?_;try exact tTI)
   (refine go0 ?_;try exact tTI)
   refine ⟨rfl,trivial,Pld,dPd,cPd,[(⟨u0,p0,p1⟩ : Pld)],rfl,by omega,fun x _=>⟨rfl,rfl⟩,rfl,?_⟩
   (refine sy1 ?_;try exact tTI)
   refine ⟨rfl,⟨Nat.le_of_ble_eq_true rfl,rfl⟩,trivial,[(⟨u0,p0,p1⟩ : Pld)],rfl,by first | omega | (simp;done) | (simp;omega),by first | omega | (simp;done) | (simp;omega),?_⟩
   (refine sy1 ?_;try exact tTI)
   refine ⟨_,_,rfl,rfl,?_⟩
   (refine syf (ad2 z0 n1) ?_;try exact tTI)
   refine W_cond (by rfl) (fun h=>by cases h) (fun _=>?_)
   repeat' (first | refine w1g ?_ | refine w1l ?_ | refine w1q ?_ | refine w1b ?_ | refine w1p ?_ | ((first | refine w1r ?_ | refine w1k ?_ | refine w1e ?_ | refine CallC.now (d0) ?_ | refine CallC.now (f0) ?_);simp (maxSteps:=400000) (disch:=omega) only [push_cast,↓reduceIte,reduceCtorEq,Nat.reduceAdd,Nat.reduceSub,Nat.reduceEqDiff,Nat.reduceLeDiff,Nat.reduceLT,Nat.reduceBEq,Nat.reduceDiv,Nat.reduceMod,Nat.reducePow,Nat.reduceMul,Int.reduceToNat,Int.reduceLT,Int.reduceLE,ce0,Int.sub_self]) | refine an2 ?_ | fail)
   refine W_cond (by rfl) (fun h=>by cases h) (fun _=>?_)
   (refine go0 ?_;try exact tTI)
   refine ⟨1,by omega,by omega,by rfl,?_⟩
   (refine syE ?_;try exact tTI)
   exact ⟨rfl,rfl,rfl⟩
  ·rw [show jt p0 p1 p2 1 = p1 from rfl,show ((1 : Nat) : Int) = 1 from rfl]
   (refine gofc (ad7 hl g1 s1 sl ce1 z0 n2) a2 ?_;try exact tTI)
   refine StopC.yld (fun hpc=>⟨trivial,Yl_of_W (k:=3) mixed hR rfl rfl rfl (fun vs2=>?_)⟩) (fun hpc=>absurd (by simp [Sy.pc]) hpc)
   (refine sy1 ?_;try exact tTI)
   (refine go0 ?_;try exact tTI)
   refine ⟨_,rfl,?_⟩
   (refine sy1 ?_;try exact tTI)
   (refine go0 ?_;try exact tTI)
   refine ⟨rfl,trivial,Pld,dPd,cPd,[(⟨u1,p1,p2⟩ : Pld)],rfl,by omega,fun x _=>⟨rfl,rfl⟩,rfl,?_⟩
   (refine sy1 ?_;try exact tTI)
   refine ⟨rfl,⟨Nat.le_of_ble_eq_true rfl,rfl⟩,trivial,[(⟨u1,p1,p2⟩ : Pld)],rfl,by first | omega | (simp;done) | (simp;omega),by first | omega | (simp;done) | (simp;omega),?_⟩
   (refine sy1 ?_;try exact tTI)
   refine ⟨_,_,rfl,rfl,?_⟩
   (refine syf (ad2 z0 n2) ?_;try exact tTI)
   refine W_cond (by rfl) (fun h=>by cases h) (fun _=>?_)
   repeat' (first | refine w1g ?_ | refine w1l ?_ | refine w1q ?_ | refine w1b ?_ | refine w1p ?_ | ((first | refine w1r ?_ | refine w1k ?_ | refine w1e ?_ | refine CallC.now (d1) ?_ | refine CallC.now (f1) ?_);simp (maxSteps:=400000) (disch:=omega) only [push_cast,↓reduceIte,reduceCtorEq,Nat.reduceAdd,Nat.reduceSub,Nat.reduceEqDiff,Nat.reduceLeDiff,Nat.reduceLT,Nat.reduceBEq,Nat.reduceDiv,Nat.reduceMod,Nat.reducePow,Nat.reduceMul,Int.reduceToNat,Int.reduceLT,Int.reduceLE,ce1,Int.sub_self]) | refine an2 ?_ | fail)
   refine W_cond (by rfl) (fun h=>by cases h) (fun _=>?_)
   (refine go0 ?_;try exact tTI)
   refine ⟨2,by omega,by omega,by rfl,?_⟩
   (refine syE ?_;try exact tTI)
   exact ⟨rfl,rfl,rfl,rfl⟩
 ·obtain rfl : i = 2:=by omega
  (refine go0 ?_;try exact tTI)
  refine ⟨_,_,rfl,rfl,⟨_,_,rfl,by rw [hR.st];simp,?_⟩⟩
  rw [hR.pe]
  (refine syN ?_;try exact tTI)
  (refine go0 ?_;try exact tTI)
  refine W_ret ⟨[_],⟨rfl,rfl⟩,?_⟩
  (refine syP ?_;try exact tTI)
  rfl
theorem fn226 (v : Veh) (u0 u1 : Unt) (p0 p1 p2 : Pt) (ps : List Pt) (hps : ps = [p1,p2]) (T : Two v u0 u1 p0 p1 p2) : Sy.Fn Tryz.prog 226 [.clo 255 [] [.fp (cRg v p0 ps) 0]] (aPd (pls u0 u1 p0 p1 p2)):=by
 refine Fn_of_W mixed Xt226 rfl ?_
 (refine go_c (fn254 v u0 u1 p0 p1 p2 ps hps T) ?_;try exact tTI)
 exact W_ret ⟨[_],⟨rfl,rfl⟩,rfl⟩
abbrev cPo (p0 : Pt) (ps : List Pt) : List AV:=[iv p0.x,iv p0.y,aQ ps]
theorem fn160 (v : Veh) (u0 u1 : Unt) (p0 p1 p2 : Pt) (ps : List Pt) (hps : ps = [p1,p2]) (T : Two v u0 u1 p0 p1 p2) (hv : Gr v) : Sy.Fn Tryz.prog 160 [.agg (cV v),.agg (cPo p0 ps)] (.tup [aPd (pls u0 u1 p0 p1 p2),iv 0]):=by
 refine Fn_of_W mixed Xt160 rfl ?_
 have c46:=fn46 v hv
 rw [T.ch] at c46
 have c38:=fn38 p0
 rw [if_pos T.q0] at c38
 have c227:=fn227 v p0 ps
 have c226:=fn226 v u0 u1 p0 p1 p2 ps hps T
 have hl : v.units.length = 2:=by rw [T.vu];rfl
 have sl : ps.length = 2:=by rw [hps];rfl
 have dl : (pls u0 u1 p0 p1 p2).length = 2:=rfl
 (refine go_c c46 ?_;try exact tTI)
 refine W_cond (by rfl) (fun h=>by cases h) (fun _=>?_)
 (refine gofcg (ad2 hl sl) c38 c38 ?_;try exact tTI)
 refine W_cond (by rfl) (fun h=>absurd h (by decide)) (fun _=>?_)
 have cvx : cV v = [stv v.name,aU v.units,iv v.fr,iv v.to]:=rfl
 (refine gofcc (ad3 hl sl cvx) c227 c226 ?_;try exact tTI)
 refine W_cond (by rfl) (fun h=>by rw [dl] at h;exact absurd h (by decide)) (fun _=>?_)
 (refine go0 ?_;try exact tTI)
 exact W_ret ⟨[_,_],⟨rfl,rfl,rfl⟩,rfl⟩
theorem fn93 (v : Veh) (u0 u1 : Unt) (p0 p1 p2 : Pt) (ps : List Pt) (hps : ps = [p1,p2]) (T : Two v u0 u1 p0 p1 p2) (hv : Gr v) : Sy.Fn Tryz.prog 93 [.agg (cV v),.agg (cPo p0 ps)] (.tup [.agg (cPo p0 ps),iv 0]):=by
 refine Fn_of_W mixed Xt93 rfl ?_
 have c160:=fn160 v u0 u1 p0 p1 p2 ps hps T hv
 (refine go_c c160 ?_;try exact tTI)
 refine W_cond (by rfl) (fun h=>by cases h) (fun _=>?_)
 (refine go0 ?_;try exact tTI)
 exact W_ret ⟨[_,_],⟨⟨by simp,rfl⟩,rfl,rfl⟩,rfl⟩
structure Strt (v : Veh) (u0 u1 : Unt) (p0 p1 p2 pb : Pt) : Prop where
 T : Two v u0 u1 p0 p1 p2
 gr : Gr v
 qb : okQ pb = true
 len : inR u0.length 1 16777216 = true
 pl : PlOK p0 pb u0.length 0
 e1 : plP p0 pb u0.length 0 = p1
 pj : PlOK p1 p0 (0 - u1.length) 0
 e2 : plP p1 p0 (0 - u1.length) 0 = p2
def bef (u0 u1 : Unt) (p0 p1 p2 : Pt) : Nat → List AV
 |0=>cPl u0 p0 p1
 |_=>cPl u1 p1 p2
theorem fn41 (v : Veh) (u0 u1 : Unt) (p0 p1 p2 pb : Pt) (D : Strt v u0 u1 p0 p1 p2 pb) : Sy.Fn Tryz.prog 41 [.agg (cV v),.agg (cPt p0),.agg (cPt pb)] (.tup [.agg (cPo p0 [p1,p2]),iv 0]):=by
 refine Fn_of_W mixed Xt41 rfl ?_
 have T:=D.T
 have c46:=fn46 v D.gr
 rw [T.ch] at c46
 have c38:=fn38 p0
 rw [if_pos T.q0] at c38
 have c31b:=fn38 pb
 rw [if_pos D.qb] at c31b
 have l0:=fn90 u0 T.k0
 have l1:=fn90 u1 T.k1
 have b0:=fn92 u0 T.k0
 rw [T.b0] at b0
 have c89:=fn89 p0 pb u0.length D.len D.pl
 rw [D.e1] at c89
 have f0:=fn91 u0 p0 p1 0 0 T.l1
 rw [T.e1] at f0
 have f1:=fn91 u0 p0 p1 (0 - u1.length) 0 D.pj
 rw [D.e2] at f1
 have hl : v.units.length = 2:=by rw [T.vu];rfl
 have g0 : v.units.getD 0 dU = u0:=by rw [T.vu];rfl
 have gd : v.units.drop 1 = [u1]:=by rw [T.vu];rfl
 have ul:=T.k1.l
 have ce0 : cU u0 = [iv u0.kind,iv u0.length,iv u0.behind,iv u0.front,iv u0.rear,iv u0.width,iv u0.height,iv u0.mass,iv u0.steer,iv u0.most,aA u0.axles]:=rfl
 have ce1 : cU u1 = [iv u1.kind,iv u1.length,iv u1.behind,iv u1.front,iv u1.rear,iv u1.width,iv u1.height,iv u1.mass,iv u1.steer,iv u1.most,aA u1.axles]:=rfl
 have z0 : ((0 : Int) != 0) = false:=rfl
 (refine go_c c46 ?_;try exact tTI)
 refine W_cond (by rfl) (fun h=>by cases h) (fun _=>?_)
 (refine gofcg z0 c38 c31b ?_;try exact tTI)
 refine W_cond (by rfl) (fun h=>absurd h (by decide)) (fun _=>?_)
 (refine gofcc (ad2 hl g0) l0 c89 ?_;try exact tTI)
 refine W_cond (by rfl) (fun h=>by cases h) (fun _=>?_)
 refine W_le (le_adoptC 20 2 30 2 dQ cPt (by omega) _ rfl rfl (by simp)) ?_
 (refine go0 ?_;try exact tTI)
 refine ⟨rfl,trivial,Pt,dQ,cPt,[p1],rfl,by omega,fun x _=>⟨rfl,rfl⟩,rfl,?_⟩
 (refine sy1 ?_;try exact tTI)
 refine ⟨rfl,⟨Nat.le_of_ble_eq_true rfl,rfl⟩,trivial,[p1],rfl,by first | omega | (simp;done) | (simp;omega),by first | omega | (simp;done) | (simp;omega),?_⟩
 (refine sy1 ?_;try exact tTI)
 (refine gof (ad3 ce0 hl gd) ?_;try exact tTI)
 refine W_loopU (fun i : Nat=>[(68,iv i)]) (fun i=>[(20,.cells [iv p0.x,iv p0.y,.row 42 (1 + i)]),(42,.row (1 + i) 30 2 dQ cPt ([p1,p2].take (1 + i))),(54,.cells (bef u0 u1 p0 p1 p2 i))]) (fun i=>i ≤ 1) (fun i=>1 - i) 0 (by omega) (by rfl) (by rfl) (fun i hi=>?_)
 (refine sy1 ?_;try exact tTI)
 (refine go0 ?_;try exact tTI)
 refine W_condD (by rfl) (fun h5=>?_) (fun h5=>?_)
 ·obtain rfl : i = 0:=by omega
  rw [show bef u0 u1 p0 p1 p2 0 = cPl u0 p0 p1 from rfl,show [p1,p2].take (1 + 0) = [p1] from rfl,show [u1] = v.units.drop 1 from gd.symm]
  have gd1 : (v.units.drop 1).getD 0 dU = u1:=by rw [gd];rfl
  have gl1 : (v.units.drop 1).length = 1:=by rw [gd];rfl
  rw [Int.sub_self] at b0
  (refine gofcc (ad3 gd1 gl1 ce1) b0 f0 ?_;try exact tTI)
  refine W_cond (by rfl) (fun h=>by cases h) (fun _=>?_)
  (refine gofccc ce1 b0 l1 f1 ?_;try exact tTI)
  refine W_cond (by rfl) (fun h=>by cases h) (fun _=>?_)
  (refine go0 ?_;try exact tTI)
  refine ⟨rfl,trivial,Pt,dQ,cPt,[p2],rfl,by omega,fun x _=>⟨rfl,rfl⟩,rfl,?_⟩
  (refine sy1 ?_;try exact tTI)
  refine ⟨rfl,⟨Nat.le_of_ble_eq_true rfl,rfl⟩,trivial,[p2],rfl,by first | omega | (simp;done) | (simp;omega),by first | omega | (simp;done) | (simp;omega),?_⟩
  (refine sy1 ?_;try exact tTI)
  (refine gof ce1 ?_;try exact tTI)
  refine ⟨1,by omega,by omega,by rfl,?_⟩
  (refine syE ?_;try exact tTI)
  rfl
 ·obtain rfl : i = 1:=by omega
  have c93:=fn93 v u0 u1 p0 p1 p2 [p1,p2] rfl T D.gr
  rw [show bef u0 u1 p0 p1 p2 1 = cPl u1 p1 p2 from rfl,show [p1,p2].take (1 + 1) = [p1,p2] from rfl,show 1 + 1 = 2 from rfl]
  refine w1e ?_
  (refine sy1 ?_;try exact tTI)
  repeat (first | refine WK_go ?_ | refine W_seqL ?_ | refine W_seq ?_ | refine W_block ?_)
  refine W_regP [2] (by decide) ?_
  (refine sCP ?_;try exact tTI)
  refine ⟨_,le_frzA 113 [iv p0.x,iv p0.y] [] [6,112] [3] 64 42 2 30 2 dQ cPt [p1,p2] rfl rfl rfl rfl rfl rfl,?_⟩
  simp (maxSteps:=400000) (disch:=omega) only [push_cast,↓reduceIte,reduceCtorEq,Nat.reduceAdd,Nat.reduceSub,Nat.reduceEqDiff,Nat.reduceLeDiff,Nat.reduceLT,Nat.reduceBEq,Nat.reduceDiv,Nat.reduceMod,Nat.reducePow,Nat.reduceMul,Int.reduceToNat,Int.reduceLT,Int.reduceLE,chainP,List.take_succ_cons,List.take_zero,List.drop_succ_cons,List.drop_zero,List.cons_append,List.nil_append]
  refine CallC.now c93 ?_
  (refine sy1 ?_;try exact tTI)
  (refine go0 ?_;try exact tTI)
  exact W_ret ⟨[_,_],⟨⟨by simp,rfl⟩,rfl,rfl⟩,rfl⟩
def cmp3 (x y : Int) : Int:=if x < y then -1 else if y < x then 1 else 0
theorem fn211 (x : Int) : Sy.Fn Tryz.prog 211 [iv x] (bv false):=by
 refine Fn_of_W mixed Xt211 rfl ?_
 (refine go0 ?_;try exact tTI)
 exact W_ret ⟨[_],⟨rfl,rfl⟩,by simp;rfl⟩
theorem fn148 (x y : Int) : Sy.Fn Tryz.prog 148 [iv x,iv y] (iv (cmp3 x y)):=by
 refine Fn_of_W mixed Xt148 rfl ?_
 (refine go_c (fun x1=>fn211 x1) ?_;try exact tTI)
 refine W_cond (by rfl) (fun h=>by cases h) (fun _=>?_)
 (refine go0 ?_;try exact tTI)
 refine W_cond (by rfl) (fun h=>by cases h) (fun _=>?_)
 unfold cmp3
 (refine go0 ?_;try exact tTI)
 refine W_condD (by rfl) (fun h=>?_) (fun h=>?_)
 ·rw [if_pos h]
  (refine go0 ?_;try exact tTI)
  exact W_ret ⟨[_],⟨rfl,rfl⟩,rfl⟩
 rw [if_neg h]
 (refine go0 ?_;try exact tTI)
 refine W_condD (by rfl) (fun h=>?_) (fun h=>?_)
 ·rw [if_pos h]
  (refine go0 ?_;try exact tTI)
  exact W_ret ⟨[_],⟨rfl,rfl⟩,rfl⟩
 rw [if_neg h]
 (refine go0 ?_;try exact tTI)
 exact W_ret ⟨[_],⟨rfl,rfl⟩,rfl⟩
def cmpP (a b : Pt) : Int:=if a.x = b.x then cmp3 a.y b.y else cmp3 a.x b.x
theorem fn214 (a b : Pt) : Sy.Fn Tryz.prog 214 [.agg (cPt a),.agg (cPt b)] (iv (cmpP a b)):=by
 refine Fn_of_W mixed Xt214 rfl ?_
 unfold cmpP
 (refine go0 ?_;try exact tTI)
 refine W_cond (by rfl) (fun h=>?_) (fun h=>?_)
 ·rw [if_neg (by simpa using h)]
  (refine go_c (fun x1 x2=>fn148 x1 x2) ?_;try exact tTI)
  exact W_ret ⟨[_],⟨rfl,rfl⟩,rfl⟩
 ·rw [if_pos (by simpa using h)]
  (refine go_c (fun x1 x2=>fn148 x1 x2) ?_;try exact tTI)
  exact W_ret ⟨[_],⟨rfl,rfl⟩,rfl⟩
def crs (a b c : Pt) : Int:=(b.x - a.x) * (c.y - a.y) - (b.y - a.y) * (c.x - a.x)
theorem fn217 (a b c : Pt) (ha : okQ a = true) (hb : okQ b = true) (hc : okQ c = true) : Sy.Fn Tryz.prog 217 [.agg (cPt a),.agg (cPt b),.agg (cPt c)] (iv (crs a b c)):=by
 refine Fn_of_W mixed Xt217 rfl ?_
 have h1:=okQ_iff.1 ha
 have h2:=okQ_iff.1 hb
 have h3:=okQ_iff.1 hc
 have m1:=abs_mul (show -33554432 ≤ b.x - a.x ∧ b.x - a.x ≤ 33554432 by omega) (show -33554432 ≤ c.y - a.y ∧ c.y - a.y ≤ 33554432 by omega)
 have m2:=abs_mul (show -33554432 ≤ b.y - a.y ∧ b.y - a.y ≤ 33554432 by omega) (show -33554432 ≤ c.x - a.x ∧ c.x - a.x ≤ 33554432 by omega)
 unfold crs
 (refine go0 ?_;try exact tTI)
 exact W_ret ⟨[_],⟨rfl,rfl⟩,rfl⟩
theorem fn216 (a b c : Pt) (ha : okQ a = true) (hb : okQ b = true) (hc : okQ c = true) : Sy.Fn Tryz.prog 216 [.agg (cPt a),.agg (cPt b),.agg (cPt c)] (bv (decide (crs a b c ≤ 0))):=by
 refine Fn_of_W mixed Xt216 rfl ?_
 (refine go_c (fn217 a b c ha hb hc) ?_;try exact tTI)
 exact W_ret ⟨[_],⟨rfl,rfl⟩,rfl⟩
theorem fn247 (x : Int) (h : 0 ≤ x ∧ x < 18446744073709551616) : ∃ n : Nat,n ≤ 64 ∧ Sy.Fn Tryz.prog 247 [uw x] (iv n):=by
 obtain ⟨n,h1,_,h2⟩:=fn285 x h.1 h.2
 refine ⟨n,h1,?_⟩
 refine Fn_of_W mixed Xt247 rfl ?_
 (refine go0 ?_;try exact tTI)
 refine W_cond (by rfl) (fun h=>by cases h) (fun _=>?_)
 (refine go_c h2 ?_;try exact tTI)
 exact W_ret ⟨[_],⟨rfl,rfl⟩,rfl⟩
abbrev cQ1 (l : List Pt) : List AV:=[aQ l]
theorem fn32 (ll : List (List Pt)) (hl : ll.length ≤ 1000000) (h : ∀ i,i < ll.length → (ll.getD i []).length ≤ 256 ∧ (ll.getD i []).all okQ = true) : Sy.Fn Tryz.prog 32 [.sl 1 [] cQ1 ll] (iv 0):=by
 refine Fn_of_W mixed Xt32 rfl ?_
 (refine go0 ?_;try exact tTI)
 refine W_loopU (fun i : Nat=>[(9,iv i)]) (fun i=>[]) (fun i=>i ≤ ll.length) (fun i=>ll.length - i) 0 (by omega) (by rfl) (by rfl) (fun i hi=>?_)
 (refine sy1 ?_;try exact tTI)
 (refine go0 ?_;try exact tTI)
 refine W_condD (by rfl) (fun h5=>?_) (fun h5=>?_)
 ·obtain ⟨h1,_⟩:=h i (by omega)
  obtain ⟨l,hq⟩ : ∃ l,ll.getD i [] = l:=⟨_,rfl⟩
  rw [hq] at h1
  (refine gof hq ?_;try exact tTI)
  refine W_condD (by rfl) (fun h6=>absurd h6 (by omega)) (fun h6=>?_)
  (refine go0 ?_;try exact tTI)
  refine ⟨i + 1,by omega,by omega,by rfl,?_⟩
  (refine syE ?_;try exact tTI)
 (refine go0 ?_;try exact tTI)
 refine W_loopU (fun i : Nat=>[(19,iv i)]) (fun i=>[]) (fun i=>i ≤ ll.length) (fun i=>ll.length - i) 0 (by omega) (by rfl) (by rfl) (fun i hi=>?_)
 (refine sy1 ?_;try exact tTI)
 (refine go0 ?_;try exact tTI)
 refine W_condD (by rfl) (fun h6=>?_) (fun h6=>?_)
 ·obtain ⟨h1,h2⟩:=h i (by omega)
  obtain ⟨l,hq⟩ : ∃ l,ll.getD i [] = l:=⟨_,rfl⟩
  rw [hq] at h1 h2
  have c83:=fn83 l (by omega)
  rw [h2] at c83
  (refine gofc hq c83 ?_;try exact tTI)
  refine W_cond (by rfl) (fun h=>by cases h) (fun _=>?_)
  (refine go0 ?_;try exact tTI)
  refine ⟨i + 1,by omega,by omega,by rfl,?_⟩
  (refine syE ?_;try exact tTI)
 (refine go0 ?_;try exact tTI)
 exact W_ret ⟨[_],⟨rfl,rfl⟩,rfl⟩
end Go.Proofs.YtgiedelaebdooaaGreat
