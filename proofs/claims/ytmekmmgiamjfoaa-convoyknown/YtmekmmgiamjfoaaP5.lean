/- Part 5 of the proof of: The chapter's examples hold: begin, hold, end, close, tell and the plans between them. -/
import Derived.Test.YtmekmmgiamjfoaaP4
import Derived.Lib.Mul64
import Derived.Laws.Bits64b
import Derived.Shelf.Strings.FuncGrows
namespace Go.Proofs.Ytmekmmgiamjfoaa
open Go Sy
set_option maxRecDepth 100000
set_option maxHeartbeats 4000000
set_option linter.unusedVariables false
set_option linter.unusedSimpArgs false
theorem mixed : Try.prog.follows .mixedOrders = true:=by kernel_rfl
abbrev iv (n : Int) : AV:=.v (.int .i64 n)
abbrev bv (b : Bool) : AV:=.v (.bool b)
def Bits (x : Int) (n : Nat) : Prop:=2 ^ n ≤ 2 * x ∧ x < 2 ^ n
theorem Bits.up {x : Int} {n : Nat} (k : Nat) (h : Bits (x / 2 ^ k) n) : Bits x (n + k):=by
 obtain ⟨h1,h2⟩:=h
 have hk : (0 : Int) < 2 ^ k:=Int.pow_pos (by omega)
 have hm:=Int.mul_ediv_add_emod x (2 ^ k)
 have hr:=Int.emod_lt_of_pos x hk
 have hr0:=Int.emod_nonneg x (Int.ne_of_gt hk)
 have e : (2 : Int) ^ (n + k) = 2 ^ n * 2 ^ k:=Int.pow_add ..
 have m1:=Int.mul_le_mul_of_nonneg_right h1 (Int.le_of_lt hk)
 have m2:=Int.mul_le_mul_of_nonneg_right (show x / 2 ^ k + 1 ≤ 2 ^ n by omega) (Int.le_of_lt hk)
 unfold Bits
 rw [e]
 rw [Int.add_mul] at m2
 rw [Int.mul_assoc,Int.mul_comm (x / 2 ^ k)] at m1
 rw [Int.mul_comm (x / 2 ^ k)] at m2
 constructor <;> omega
def lo (b x : Int) : Int:=if b ≤ x then x / b else x
def nb (b : Int) (k : Nat) (x : Int) : Nat:=if b ≤ x then k else 0
theorem Bits.lo {b x : Int} {n : Nat} (k : Nat) (hb : (2 : Int) ^ k = b) (h : Bits (lo b x) n) : Bits x (n + nb b k x):=by
 unfold Go.Proofs.Ytmekmmgiamjfoaa.lo at h
 unfold nb
 subst hb
 split
 ·rename_i h1;rw [if_pos h1] at h;exact h.up k
 ·rename_i h1;rw [if_neg h1] at h;exact h
structure Half (Y u d : Int) : Prop where
 y : 9223372036854775808 ≤ Y ∧ Y < 18446744073709551616
 u : 0 ≤ u ∧ u < Y
 d : 0 ≤ d ∧ d < 4294967296
def Half.q (Y u d : Int) : Int:=(u * 4294967296 + d) / Y
theorem split_Y (Y q : Int) : q * Y = (q * (Y / 4294967296)) * 4294967296 + q * (Y % 4294967296):=by
 have h : Y = Y / 4294967296 * 4294967296 + Y % 4294967296:=by omega
 rw [Int.mul_assoc,← Int.mul_add,← h]
theorem Half.no {Y u d q r : Int} (h : Half Y u d) (e : q * (Y / 4294967296) + r = u) (hc : q * (Y % 4294967296) ≤ 4294967296 * r + d) : q ≤ Half.q Y u d:=by
 unfold Half.q
 have:=h.y
 rw [Int.le_ediv_iff_mul_le (by omega),split_Y Y q]
 omega
theorem Half.yes {Y u d q r : Int} (h : Half Y u d) (e : q * (Y / 4294967296) + r = u) (hc : 4294967296 * r + d < q * (Y % 4294967296)) : Half.q Y u d < q:=by
 unfold Half.q
 have:=h.y
 rw [Int.ediv_lt_iff_lt_mul (by omega),split_Y Y q]
 omega
theorem Half.lt {Y u d : Int} (h : Half Y u d) : 0 ≤ Half.q Y u d ∧ Half.q Y u d < 4294967296:=by
 have h1:=h.y;have h2:=h.u;have h3:=h.d
 unfold Half.q
 constructor
 ·exact Int.ediv_nonneg (by omega) (by omega)
 ·rw [Int.ediv_lt_iff_lt_mul (by omega)]
  omega
theorem Half.start {Y u d : Int} (h : Half Y u d) : u / (Y / 4294967296) * (Y / 4294967296) + u % (Y / 4294967296) = u ∧ Half.q Y u d ≤ u / (Y / 4294967296) ∧ u / (Y / 4294967296) ≤ 4294967297 ∧ 0 ≤ u % (Y / 4294967296) ∧ u % (Y / 4294967296) < 4294967296:=by
 have h1:=h.y;have h2:=h.u;have h3:=h.d
 have hlt:=h.lt
 have hp : 0 < Y / 4294967296:=by omega
 have e:=Int.ediv_mul_add_emod u (Y / 4294967296)
 have e1:=Int.emod_nonneg u (Int.ne_of_gt hp)
 have e2:=Int.emod_lt_of_pos u hp
 refine ⟨e,?_,?_,e1,by omega⟩
 ·rw [Int.le_ediv_iff_mul_le hp]
  have h4 : Half.q Y u d * Y ≤ u * 4294967296 + d:=Int.ediv_mul_le _ (by omega)
  rw [split_Y Y (Half.q Y u d)] at h4
  have h5 : 0 ≤ Half.q Y u d * (Y % 4294967296):=Int.mul_nonneg hlt.1 (by omega)
  omega
 ·have h4 : u / (Y / 4294967296) < 4294967298:=by
   rw [Int.ediv_lt_iff_lt_mul hp]
   omega
  omega
theorem Half.step {Y u d q r : Int} (h : Half Y u d) (e : q * (Y / 4294967296) + r = u) (hq : Half.q Y u d ≤ q) (hc : 4294967296 ≤ q ∨ 4294967296 * r + d < q * (Y % 4294967296)) : (q - 1) * (Y / 4294967296) + (r + Y / 4294967296) = u ∧ Half.q Y u d ≤ q - 1:=by
 have hlt:=h.lt
 refine ⟨by rw [Int.sub_mul,Int.one_mul];omega,?_⟩
 rcases hc with hc | hc
 ·omega
 ·have:=h.yes e hc;omega
theorem Half.break {Y u d q r : Int} (h : Half Y u d) (e : q * (Y / 4294967296) + r = u) (hq : Half.q Y u d ≤ q) (hb : q ≤ 4294967296) (hr : 4294967296 ≤ r) : q = Half.q Y u d:=by
 have h1:=h.y;have h2:=h.u;have h3:=h.d
 have hlt:=h.lt
 have m : q * (Y % 4294967296) ≤ 4294967296 * 4294967295:=Int.mul_le_mul hb (by omega) (by omega) (by omega)
 have:=h.no e (by omega)
 omega
def Half.r (Y u d : Int) : Int:=u * 4294967296 + d - Half.q Y u d * Y
def ab (a : Int) : Int:=max a (0 - a)
structure FrOK (a b d : Int) : Prop where
 ha : -9223372036854775807 ≤ a ∧ a ≤ 9223372036854775807
 hb : -9223372036854775807 ≤ b ∧ b ≤ 9223372036854775807
 hd : 0 < d ∧ d ≤ 9223372036854775807
 hq : ab a * ab b < d * 4611686018427387904
def inR (x lo hi : Int) : Bool:=decide (lo ≤ x) && decide (x ≤ hi)
theorem inR_iff {x lo hi : Int} : inR x lo hi = true ↔ lo ≤ x ∧ x ≤ hi:=by simp [inR]
structure Pt where
 x : Int
 y : Int
def rho : Go.Shelf.Ren:=⟨fun f=>if f = 315 then 104 else 0,fun t=>if t = 40 then 153 else t,fun g=>g⟩
theorem lays : Lays.n315 Try.prog rho:={
 mixed:=mixed
 f315:=by kernel_rfl
 t0:=by kernel_rfl
 a0:=fun w=>by kernel_rfl
 z0:=fun w=>by kernel_rfl
 v0:=fun w=>by kernel_rfl
 t3:=by kernel_rfl
 a3:=fun w=>by kernel_rfl
 z3:=fun w=>by kernel_rfl
 v3:=fun w=>by kernel_rfl
 t4:=by kernel_rfl
 a4:=fun w=>by kernel_rfl
 z4:=fun w=>by kernel_rfl
 v4:=fun w=>by kernel_rfl
 t9:=by kernel_rfl
 a9:=fun w=>by kernel_rfl
 z9:=fun w=>by kernel_rfl
 v9:=fun w=>by kernel_rfl
 t21:=by kernel_rfl
 a21:=fun w=>by kernel_rfl
 z21:=fun w=>by kernel_rfl
 v21:=fun w=>by kernel_rfl
 t40:=by kernel_rfl
 a40:=fun w=>by kernel_rfl
 z40:=fun w=>by kernel_rfl
 v40:=fun w=>by kernel_rfl }
abbrev stv (s : ByteArray) : AV:=.v (.string s)
theorem fn104 (s : ByteArray) (g : Nat) (p : Nat → Bool) (hg : ∀ x : Nat,x ≤ 1114111 → Sy.Fn Try.prog g [.v (.int .i32 x)] (bv (p x))) : Sy.Fn Try.prog 104 [stv s,.clo g [] [],bv true] (iv (Lib.idxFunc p true s)):=by
 refine ⟨by kernel_rfl,fun A w vs hA hvs=>?_⟩
 simp only [fsatT,fsat] at hvs
 obtain ⟨x1,r1,rfl,rfl,x2,r2,rfl,⟨fv,cv,rfl,rfl,rfl⟩,x3,r3,rfl,rfl,rfl⟩:=hvs
 have hp : PredGrows Try.prog g #[] p w:=fun W x hx _=>by
  refine ((hg x hx).2 (fun _=>False) W [.int .i32 x] (fun b h=>h.elim) (by simp [fsatT,fsat])).mono ?_
  rintro e w' ⟨v,rfl,hb,hv⟩
  simp only [fsat] at hv
  exact ⟨by rw [hv],hb⟩
 have h:=Any.strings_indexFunc_grows lays g #[] (fun args w=>run_callFunc (hg 0 (by omega)).1) p true s w hp
 refine h.mono ?_
 rintro e w' ⟨rfl,hb⟩
 exact ⟨_,rfl,hb,by simp only [fsat]⟩
theorem fn98 (s : ByteArray) (g : Nat) (p : Nat → Bool) (hg : ∀ x : Nat,x ≤ 1114111 → Sy.Fn Try.prog g [.v (.int .i32 x)] (bv (p x))) : Sy.Fn Try.prog 98 [stv s,.clo g [] []] (iv (Lib.idxFunc p true s)):=by
 refine Fn_of_W mixed Xt98 rfl ?_
 (refine go_c (fn104 s g p hg) ?_;try exact tTI)
 exact W_ret ⟨[_],⟨rfl,rfl⟩,rfl⟩
theorem fn83 (s : ByteArray) (g : Nat) (p : Nat → Bool) (hg : ∀ x : Nat,x ≤ 1114111 → Sy.Fn Try.prog g [.v (.int .i32 x)] (bv (p x))) : Sy.Fn Try.prog 83 [stv s,.clo g [] []] (bv (decide (0 ≤ Lib.idxFunc p true s))):=by
 refine Fn_of_W mixed Xt83 rfl ?_
 (refine go_c (fn98 s g p hg) ?_;try exact tTI)
 exact W_ret ⟨[_],⟨rfl,rfl⟩,rfl⟩
def okCh (b : Int) : Bool:=(decide (97 ≤ b) && decide (b ≤ 122)) || (decide (48 ≤ b) && decide (b ≤ 57))
theorem get_at (s : ByteArray) (i : Nat) (h : i < s.size) : s.get! i = s[i]:=by
 cases s with | mk d=>
 show d[i]! = d[i]
 exact getElem!_pos d i h
theorem byteAt_get (s : ByteArray) (i : Nat) (h : i < s.size) : byteAt s i = (s.get! i).toNat:=by
 unfold byteAt
 have h4 : s[i]? = some s[i]:=by simp [h]
 rw [h4,get_at s i h]
def chars (s : ByteArray) : Bool:=(List.range s.size).all (fun i=>okCh (byteAt s i))
theorem idx_ok (s : ByteArray) : ∀ (f pos : Nat),s.size ≤ pos + f → (0 ≤ Lib.idxFuncFrom (fun x=>!okCh x) true s f pos ↔ ∃ i,pos ≤ i ∧ i < s.size ∧ okCh (byteAt s i) = false)
 |0,pos,h=>by
  simp only [Lib.idxFuncFrom]
  constructor
  ·intro h;omega
  ·rintro ⟨i,a,b,_⟩;omega
 |f + 1,pos,h=>by
  unfold Lib.idxFuncFrom
  by_cases hp : pos < s.size
  case neg=>
   rw [if_neg hp]
   constructor
   ·intro h;omega
   ·rintro ⟨i,a,b,_⟩;omega
  rw [if_pos hp]
  have hd:=Lib.decode_at s pos
  have hb:=byteAt_get s pos hp
  rw [← hb] at hd
  by_cases hc : okCh (byteAt s pos) = true
  ·have hlt : byteAt s pos < 128:=by
    unfold okCh at hc
    simp only [Bool.or_eq_true,Bool.and_eq_true,decide_eq_true_eq] at hc
    omega
   have e : Utf8.decode s pos = (byteAt s pos,1):=by rw [hd];unfold Lib.decodeN;rw [if_pos hlt]
   rw [e]
   simp only []
   rw [hc,if_neg (by decide),idx_ok s f (pos + 1) (by omega)]
   constructor
   ·rintro ⟨i,a,b,d⟩;exact ⟨i,by omega,b,d⟩
   ·rintro ⟨i,a,b,d⟩
    refine ⟨i,?_,b,d⟩
    by_cases q : i = pos
    ·subst q;rw [hc] at d;cases d
    ·omega
  ·have hbad : okCh ((Utf8.decode s pos).1 : Nat) = false:=by
    by_cases hlt : byteAt s pos < 128
    ·have e : Utf8.decode s pos = (byteAt s pos,1):=by rw [hd];unfold Lib.decodeN;rw [if_pos hlt]
     rw [e];simpa using hc
    ·have : 128 ≤ (Utf8.decode s pos).1:=by
      rw [hd];unfold Lib.decodeN;rw [if_neg hlt]
      repeat' split
      all_goals (simp only [];omega)
     unfold okCh
     rw [Bool.or_eq_false_iff,Bool.and_eq_false_iff,Bool.and_eq_false_iff]
     simp only [decide_eq_false_iff_not]
     omega
   rw [hbad,if_pos (by decide)]
   exact ⟨fun _=>⟨pos,Nat.le_refl _,hp,by simpa using hc⟩,fun _=>by omega⟩
theorem idx_chars (s : ByteArray) : decide (0 ≤ Lib.idxFunc (fun x=>!okCh x) true s) = !chars s:=by
 have h:=idx_ok s s.size 0 (by omega)
 rw [Bool.eq_iff_iff,decide_eq_true_eq,Bool.not_eq_true']
 unfold Lib.idxFunc chars
 rw [h]
 constructor
 ·rintro ⟨i,_,a,b⟩
  rw [← Bool.not_eq_true,List.all_eq_true]
  intro q
  rw [q i (by simpa using a)] at b;cases b
 ·intro q
  rw [← Bool.not_eq_true,List.all_eq_true] at q
  apply Classical.byContradiction
  intro hn
  apply q
  intro i hi
  rw [← Bool.not_eq_false]
  intro hb
  exact hn ⟨i,by omega,by simpa using hi,hb⟩
def nameB (s : ByteArray) : Bool:=!decide (s.size = 0) && decide (s.size ≤ 20) && chars s
end Go.Proofs.Ytmekmmgiamjfoaa
