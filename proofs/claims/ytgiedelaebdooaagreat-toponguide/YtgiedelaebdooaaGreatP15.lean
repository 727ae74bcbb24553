/- Part 15 of the proof of: For every input the law TopOnGuide returns true: a point of a guide at a length is hardly off it, a track of such points is right, and one that is moved too far is refused. -/
import Derived.Test.YtgiedelaebdooaaGreatP14
import Derived.Laws.Bits64b
namespace Go.Proofs.YtgiedelaebdooaaGreat.S
open Go Sy
set_option linter.unusedVariables false
structure Wn where
 f : Int
 t : Int
def dWn : Wn:=⟨0,0⟩
def fstW (mi fr : Int) : List Wn → Int
 |[]=>-1
 |w :: l=>if max fr w.f + mi ≤ w.t then max fr w.f else fstW mi fr l
def fitW (mi a : Int) (l : List Wn) : Prop:=∃ w ∈ l,w.f ≤ a ∧ a + mi ≤ w.t
def WnOk : Int → List Wn → Prop
 |_,[]=>True
 |lo,w :: l=>lo ≤ w.f ∧ w.f < w.t ∧ w.t ≤ 1099511627776 ∧ WnOk w.t l
theorem WnOk.all : ∀ {l : List Wn} {lo : Int},WnOk lo l → ∀ w ∈ l,lo ≤ w.f ∧ w.f < w.t ∧ w.t ≤ 1099511627776
 |w :: l,lo,h,x,hx=>by
  obtain ⟨h1,h2,h3,h4⟩:=h
  rcases List.mem_cons.1 hx with rfl | hx
  ·exact ⟨h1,h2,h3⟩
  ·have:=WnOk.all h4 x hx
   omega
structure Tk where
 mi : Int
 ws : List Wn
 tm : Int
structure Af where
 a : Int
 b : Int
 g : Int
def dTk : Tk:=⟨0,[],0⟩
def TkOk (t : Tk) : Prop:=0 ≤ t.mi ∧ t.mi ≤ 10080 ∧ WnOk 0 t.ws
structure Rgt (ts : List Tk) (ls : List Af) (p : Nat → Int) : Prop where
 f : ∀ i,i < ts.length → fitW (ts.getD i dTk).mi (p i) (ts.getD i dTk).ws
 l : ∀ e ∈ ls,p e.a.toNat + e.g ≤ p e.b.toNat
def putF (o : Nat → Int) (i : Nat) (x : Int) : Nat → Int:=fun j=>if j = i then x else o j
theorem countP_lt {α : Type} {p q : α → Bool} : ∀ {l : List α},(∀ z ∈ l,p z = true → q z = true) → (∃ z ∈ l,q z = true ∧ p z = false) → l.countP p < l.countP q
 |[],_,⟨z,hz,_⟩=>by cases hz
 |x :: l,h,⟨z,hz,h1,h2⟩=>by
  have hl : l.countP p ≤ l.countP q:=List.countP_mono_left fun z hz=>h z (List.mem_cons_of_mem _ hz)
  have hx:=h x List.mem_cons_self
  rw [List.countP_cons,List.countP_cons]
  rcases List.mem_cons.1 hz with rfl | hz
  ·rw [if_pos h1,h2,if_neg (by simp)];omega
  ·have:=countP_lt (fun z hz=>h z (List.mem_cons_of_mem _ hz)) ⟨z,hz,h1,h2⟩
   by_cases q1 : p x = true
   ·rw [if_pos q1,if_pos (hx q1)];omega
   ·rw [if_neg q1];split <;> omega
structure Lk where
 a : Nat
 b : Nat
 g : Int
inductive Wl (ls : List Lk) : Nat → Int → Nat → Prop
 |nil (y : Nat) : Wl ls y 0 0
 |snoc {e : Lk} {s : Int} {c : Nat} : Wl ls e.a s c → e ∈ ls → Wl ls e.b (s + e.g) (c + 1)
def rlx (o : Nat → Int) (e : Lk) : Nat → Int:=if o e.b < o e.a + e.g then putF o e.b (o e.a + e.g) else o
def rnd (ls : List Lk) (o : Nat → Int) : Nat → Int:=ls.foldl rlx o
def rnds (ls : List Lk) (o : Nat → Int) : Nat → Nat → Int
 |0=>o
 |k + 1=>rnd ls (rnds ls o k)
def Can (ls : List Lk) (o : Nat → Int) : Prop:=∃ e ∈ ls,o e.b < o e.a + e.g
inductive Wx (ls : List Lk) (x : Nat) : Nat → Int → Nat → Prop
 |nil : Wx ls x x 0 0
 |snoc {e : Lk} {s : Int} {c : Nat} : Wx ls x e.a s c → e ∈ ls → Wx ls x e.b (s + e.g) (c + 1)
theorem Wx.at {ls : List Lk} {x y : Nat} {s : Int} {c : Nat} (h : Wx ls x y s c) : ∃ v : Nat → Nat,v c = y ∧ ∀ i j,i ≤ j → j ≤ c → ∃ a b d,Wx ls x (v i) a i ∧ Wx ls (v i) (v j) b (j - i) ∧ (∀ z a0 c0,Wx ls z (v j) a0 c0 → Wx ls z y (a0 + d) (c0 + (c - j))) ∧ a + b + d = s:=by
 induction h with
 |nil=>
  refine ⟨fun _=>x,rfl,fun i j hij hj=>?_⟩
  have e1 : i = 0:=by omega
  have e2 : j = 0:=by omega
  subst e1;subst e2
  exact ⟨0,0,0,.nil,.nil,fun z a0 c0 h=>by simpa using h,rfl⟩
 |snoc h1 h2 ih=>
  rename_i e s c
  obtain ⟨v,hv,ih⟩:=ih
  refine ⟨fun i=>if i = c + 1 then e.b else v i,by simp,fun i j hij hj=>?_⟩
  by_cases hjc : j = c + 1
  ·subst hjc
   by_cases hic : i = c + 1
   ·subst hic
    refine ⟨s + e.g,0,0,?_,?_,fun z a0 c0 h=>?_,by omega⟩
    ·dsimp only;rw [if_pos rfl];exact .snoc h1 h2
    ·dsimp only;rw [Nat.sub_self];exact .nil
    ·dsimp only at h;rw [if_pos rfl] at h;simpa using h
   ·obtain ⟨a,b,d,g1,g2,g3,g4⟩:=ih i c (by omega) (Nat.le_refl _)
    have hd : Wx ls (v i) e.a (b + d) (c - i):=by
     have:=g3 (v i) b (c - i) g2
     simpa using this
    refine ⟨a,b + d + e.g,0,?_,?_,fun z a0 c0 h=>?_,by omega⟩
    ·dsimp only;rw [if_neg hic];exact g1
    ·dsimp only;rw [if_neg hic,if_pos rfl,show c + 1 - i = c - i + 1 by omega];exact .snoc hd h2
    ·dsimp only at h;rw [if_pos rfl] at h;simpa using h
  ·have hic : i ≠ c + 1:=by omega
   obtain ⟨a,b,d,g1,g2,g3,g4⟩:=ih i j hij (by omega)
   refine ⟨a,b,d + e.g,?_,?_,fun z a0 c0 h=>?_,by omega⟩
   ·dsimp only;rw [if_neg hic];exact g1
   ·dsimp only;rw [if_neg hic,if_neg hjc];exact g2
   ·dsimp only at h;rw [if_neg hjc] at h
    have:=Wx.snoc (g3 z a0 c0 h) h2
    rw [show c0 + (c + 1 - j) = c0 + (c - j) + 1 by omega,show a0 + (d + e.g) = a0 + d + e.g by omega]
    exact this
theorem Wx.lt {ls : List Lk} {n : Nat} (hn : ∀ e ∈ ls,e.a < n ∧ e.b < n) {x y : Nat} {s : Int} {c : Nat} (h : Wx ls x y s c) (hx : x < n) : y < n:=by
 cases h with
 |nil=>exact hx
 |snoc _ h2=>exact (hn _ h2).2
theorem Wx.le {ls : List Lk} {p : Nat → Int} (hp : ∀ e ∈ ls,p e.a + e.g ≤ p e.b) {x y : Nat} {s : Int} {c : Nat} (h : Wx ls x y s c) : p x + s ≤ p y:=by
 induction h with
 |nil=>omega
 |snoc _ h2 ih=>have:=hp _ h2;omega
abbrev gt (ts : List Tk) (i : Nat) : Tk:=ts.getD i dTk
def begun (ts : List Tk) (o : Nat → Int) (i : Nat) : Nat:=(gt ts i).ws.countP fun w=>decide (w.f ≤ o i)
def cnt (ts : List Tk) (o : Nat → Int) : Nat:=((List.range ts.length).map (begun ts o)).sum
structure InP (ts : List Tk) (ls : List Lk) (o : Nat → Int) (j : Nat) (oj : Nat → Int) (ag : Bool) : Prop where
 up : ∀ i,o i ≤ oj i
 ct : cnt ts o ≤ cnt ts oj
 go : oj = rnd (ls.take j) o ∨ cnt ts o < cnt ts oj
 no : ag = false → oj = o ∧ ∀ e ∈ ls.take j,¬ o e.b < o e.a + e.g
 ys : ag = true → Can ls o
structure Btw (ts : List Tk) (ls : List Lk) (n : Nat) (o : Nat → Int) (P : Nat) : Prop where
 ex : ∃ o0 k,(∀ i,o0 i ≤ o i) ∧ o = rnds ls o0 k ∧ k ≤ n ∧ P ≤ cnt ts o0 * (n + 1) + k
def inR (x lo hi : Int) : Bool:=decide (lo ≤ x) && decide (x ≤ hi)
theorem inR_iff {x lo hi : Int} : inR x lo hi = true ↔ lo ≤ x ∧ x ≤ hi:=by
 unfold inR;rw [Bool.and_eq_true,decide_eq_true_eq,decide_eq_true_eq]
structure Jb where
 ts : List Tk
 af : List Af
 tm : List Int
abbrev gi (l : List Int) (i : Nat) : Int:=l.getD i 0
def wnAt (lo : Int) (w : Wn) : Bool:=decide (lo ≤ w.f) && decide (w.f < w.t) && decide (w.t ≤ 1099511627776)
def lastW (l : List Wn) (i : Nat) : Int:=if i = 0 then 0 else (l.getD (i - 1) dWn).t
def wnB (l : List Wn) : Bool:=(List.range l.length).all fun i=>wnAt (lastW l i) (l.getD i dWn)
theorem wnB_iff_aux : ∀ (l : List Wn) (lo : Int),(∀ i,i < l.length → wnAt (if i = 0 then lo else (l.getD (i - 1) dWn).t) (l.getD i dWn) = true) ↔ WnOk lo l
 |[],lo=>by simp [WnOk]
 |w :: l,lo=>by
  simp only [WnOk]
  constructor
  ·intro h
   have h0:=h 0 (by simp)
   simp only [wnAt,if_true,Bool.and_eq_true,decide_eq_true_eq,List.getD_cons_zero] at h0
   refine ⟨h0.1.1,h0.1.2,h0.2,(wnB_iff_aux l w.t).1 fun i hi=>?_⟩
   have h1:=h (i + 1) (by simpa using hi)
   rw [if_neg (by omega),Nat.add_sub_cancel,List.getD_cons_succ] at h1
   by_cases q : i = 0
   ·subst q;simpa using h1
   ·rw [if_neg q]
    obtain ⟨k,rfl⟩ : ∃ k,i = k + 1:=⟨i - 1,by omega⟩
    rw [List.getD_cons_succ] at h1
    exact h1
  ·rintro ⟨h1,h2,h3,h4⟩ i hi
   by_cases q : i = 0
   ·subst q;simp [wnAt,h1,h2,h3]
   ·obtain ⟨k,rfl⟩ : ∃ k,i = k + 1:=⟨i - 1,by omega⟩
    rw [if_neg q,Nat.add_sub_cancel,List.getD_cons_succ]
    have h5:=(wnB_iff_aux l w.t).2 h4 k (by simpa using hi)
    by_cases q2 : k = 0
    ·subst q2;simpa using h5
    ·rw [if_neg q2] at h5
     obtain ⟨m,rfl⟩ : ∃ m,k = m + 1:=⟨k - 1,by omega⟩
     rw [List.getD_cons_succ]
     exact h5
theorem wnB_iff {l : List Wn} : wnB l = true ↔ WnOk 0 l:=by
 rw [← wnB_iff_aux l 0]
 unfold wnB
 rw [List.all_eq_true]
 constructor
 ·intro h i hi;exact h i (List.mem_range.2 hi)
 ·intro h i hi;exact h i (List.mem_range.1 hi)
theorem wnB_yes {l : List Wn} (h : ∀ j,j < l.length → wnAt (lastW l j) (l.getD j dWn) = true) : wnB l = true:=by
 unfold wnB
 rw [List.all_eq_true]
 exact fun i hi=>h i (List.mem_range.1 hi)
theorem wnB_no {l : List Wn} {i : Nat} (hi : i < l.length) (h : wnAt (lastW l i) (l.getD i dWn) = false) : wnB l = false:=by
 unfold wnB
 rw [← Bool.not_eq_true,List.all_eq_true]
 intro q
 rw [q i (List.mem_range.2 hi)] at h;cases h
structure OkJ (j : Jb) : Prop where
 n0 : 0 < j.ts.length
 n : j.ts.length ≤ 24
 na : j.af.length ≤ 96
 nt : j.tm.length ≤ 6
 w : ∀ i,i < j.ts.length → (gt j.ts i).ws.length ≤ 32
 t : ∀ i,i < j.ts.length → TkOk (gt j.ts i) ∧ -1 ≤ (gt j.ts i).tm ∧ (gt j.ts i).tm < j.tm.length
 a : ∀ e ∈ j.af,0 ≤ e.a ∧ e.a < j.ts.length ∧ 0 ≤ e.b ∧ e.b < j.ts.length ∧ e.a ≠ e.b ∧ -1048576 ≤ e.g ∧ e.g ≤ 1048576
 m : ∀ x ∈ j.tm,0 ≤ x ∧ x ≤ 1048576
theorem getD_mem' {α : Type} (d : α) : ∀ (l : List α) (i : Nat),i < l.length → l.getD i d ∈ l
 |x :: l,0,_=>by simp
 |x :: l,i + 1,h=>by
  rw [List.getD_cons_succ]
  exact List.mem_cons_of_mem _ (getD_mem' d l i (by simpa using h))
def isM (j : Jb) (t : Int) (i : Nat) : Bool:=(gt j.ts i).tm == t
def memK (j : Jb) (t : Int) (k : Nat) : List Int:=((List.range k).filter (isM j t)).map Int.ofNat
abbrev memT (j : Jb) (t : Int) : List Int:=memK j t j.ts.length
def srt (l : List Int) : List Int:=l.mergeSort fun x y=>decide (x ≤ y)
structure OkO (j : Jb) (o : List (List Int)) : Prop extends OkJ j where
 len : o.length = j.tm.length
 row : ∀ t,t < o.length → (o.getD t []).Perm (memT j t)
def itr (f : Nat → Nat) : Nat → Nat → Nat
 |0,x=>x
 |k + 1,x=>f (itr f k x)
structure Per (f : Nat → Nat) (x p : Nat) : Prop where
 pos : 0 < p
 back : itr f p x = x
 least : ∀ q,0 < q → itr f q x = x → p ≤ q
structure Bs where
 far : Nat → Int
 by' : Nat → Nat
 last : Int
abbrev gr (o : List (List Int)) (t : Nat) : List Int:=o.getD t []
section
variable {j : Jb} {o : List (List Int)} (h : OkO j o)
include h
end
set_option maxRecDepth 100000
set_option maxHeartbeats 4000000
set_option linter.unusedSimpArgs false
theorem mixed : Tryz.prog.follows .mixedOrders = true:=by kernel_rfl
abbrev iv (n : Int) : AV:=.v (.int .i64 n)
abbrev bv (b : Bool) : AV:=.v (.bool b)
def dAf : Af:=⟨0,0,0⟩
structure Rs where
 k : Int
 by' : Int
 fr : Int
 st : Int
def dRs : Rs:=⟨0,0,0,0⟩
structure Lg where
 mi : Int
 ws : List Wn
def cI (x : Int) : List AV:=[iv x]
theorem nI0 (x : Int) : nth (cI x) 0 = iv x:=rfl
theorem lI (x : Int) : (cI x).length = 1:=rfl
theorem frI (x : Int) : frzAll (cI x) = true:=rfl
theorem tI (x : Int) : List.take 1 (List.drop 0 (cI x)) = cI x:=rfl
theorem uI (x : Int) : List.take 1 (cI x) = cI x:=rfl
theorem iI {m : Nat → Option Blk} {n : Nat} (x : Int) : List.flatMap (ids m n) (cI x) = []:=flat_frz n _ (frI x)
theorem vI {m : Nat → Option Blk} {n : Nat} (x : Int) : List.map (view m n) (cI x) = cI x:=viewL_frz n _ (frI x)
abbrev aI (l : List Int) : AV:=.sl 1 0 cI l
attribute [push_cast] nI0 lI frI tI uI iI vI
def cN (x : Wn) : List AV:=[iv x.f,iv x.t]
theorem nN0 (x : Wn) : nth (cN x) 0 = iv x.f:=rfl
theorem nN1 (x : Wn) : nth (cN x) 1 = iv x.t:=rfl
theorem lN (x : Wn) : (cN x).length = 2:=rfl
theorem frN (x : Wn) : frzAll (cN x) = true:=rfl
theorem tN (x : Wn) : List.take 2 (List.drop 0 (cN x)) = cN x:=rfl
theorem uN (x : Wn) : List.take 2 (cN x) = cN x:=rfl
theorem iN {m : Nat → Option Blk} {n : Nat} (x : Wn) : List.flatMap (ids m n) (cN x) = []:=flat_frz n _ (frN x)
theorem vN {m : Nat → Option Blk} {n : Nat} (x : Wn) : List.map (view m n) (cN x) = cN x:=viewL_frz n _ (frN x)
abbrev aN (l : List Wn) : AV:=.sl 2 dWn cN l
attribute [push_cast] nN0 nN1 lN frN tN uN iN vN
def cT (x : Tk) : List AV:=[iv x.mi,aN x.ws,iv x.tm]
theorem nT0 (x : Tk) : nth (cT x) 0 = iv x.mi:=rfl
theorem nT1 (x : Tk) : nth (cT x) 1 = aN x.ws:=rfl
theorem nT2 (x : Tk) : nth (cT x) 2 = iv x.tm:=rfl
theorem lT (x : Tk) : (cT x).length = 3:=rfl
theorem frT (x : Tk) : frzAll (cT x) = true:=rfl
theorem tT (x : Tk) : List.take 3 (List.drop 0 (cT x)) = cT x:=rfl
theorem uT (x : Tk) : List.take 3 (cT x) = cT x:=rfl
theorem iT {m : Nat → Option Blk} {n : Nat} (x : Tk) : List.flatMap (ids m n) (cT x) = []:=flat_frz n _ (frT x)
theorem vT {m : Nat → Option Blk} {n : Nat} (x : Tk) : List.map (view m n) (cT x) = cT x:=viewL_frz n _ (frT x)
abbrev aT (l : List Tk) : AV:=.sl 3 dTk cT l
attribute [push_cast] nT0 nT1 nT2 lT frT tT uT iT vT
def cA (x : Af) : List AV:=[iv x.a,iv x.b,iv x.g]
theorem nA0 (x : Af) : nth (cA x) 0 = iv x.a:=rfl
theorem nA1 (x : Af) : nth (cA x) 1 = iv x.b:=rfl
theorem nA2 (x : Af) : nth (cA x) 2 = iv x.g:=rfl
theorem lA (x : Af) : (cA x).length = 3:=rfl
theorem frA (x : Af) : frzAll (cA x) = true:=rfl
theorem tA (x : Af) : List.take 3 (List.drop 0 (cA x)) = cA x:=rfl
theorem uA (x : Af) : List.take 3 (cA x) = cA x:=rfl
theorem iA {m : Nat → Option Blk} {n : Nat} (x : Af) : List.flatMap (ids m n) (cA x) = []:=flat_frz n _ (frA x)
theorem vA {m : Nat → Option Blk} {n : Nat} (x : Af) : List.map (view m n) (cA x) = cA x:=viewL_frz n _ (frA x)
abbrev aA (l : List Af) : AV:=.sl 3 dAf cA l
attribute [push_cast] nA0 nA1 nA2 lA frA tA uA iA vA
def cR (x : Rs) : List AV:=[iv x.k,iv x.by',iv x.fr,iv x.st]
theorem nR0 (x : Rs) : nth (cR x) 0 = iv x.k:=rfl
theorem nR1 (x : Rs) : nth (cR x) 1 = iv x.by':=rfl
theorem nR2 (x : Rs) : nth (cR x) 2 = iv x.fr:=rfl
theorem nR3 (x : Rs) : nth (cR x) 3 = iv x.st:=rfl
theorem lR (x : Rs) : (cR x).length = 4:=rfl
theorem frR (x : Rs) : frzAll (cR x) = true:=rfl
theorem tR (x : Rs) : List.take 4 (List.drop 0 (cR x)) = cR x:=rfl
theorem uR (x : Rs) : List.take 4 (cR x) = cR x:=rfl
theorem iR {m : Nat → Option Blk} {n : Nat} (x : Rs) : List.flatMap (ids m n) (cR x) = []:=flat_frz n _ (frR x)
theorem vR {m : Nat → Option Blk} {n : Nat} (x : Rs) : List.map (view m n) (cR x) = cR x:=viewL_frz n _ (frR x)
abbrev aR (l : List Rs) : AV:=.sl 4 dRs cR l
attribute [push_cast] nR0 nR1 nR2 nR3 lR frR tR uR iR vR
def cL (x : Lg) : List AV:=[iv x.mi,aN x.ws]
theorem nL0 (x : Lg) : nth (cL x) 0 = iv x.mi:=rfl
theorem nL1 (x : Lg) : nth (cL x) 1 = aN x.ws:=rfl
theorem lL (x : Lg) : (cL x).length = 2:=rfl
theorem frL (x : Lg) : frzAll (cL x) = true:=rfl
theorem tL (x : Lg) : List.take 2 (List.drop 0 (cL x)) = cL x:=rfl
theorem uL (x : Lg) : List.take 2 (cL x) = cL x:=rfl
theorem iL {m : Nat → Option Blk} {n : Nat} (x : Lg) : List.flatMap (ids m n) (cL x) = []:=flat_frz n _ (frL x)
theorem vL {m : Nat → Option Blk} {n : Nat} (x : Lg) : List.map (view m n) (cL x) = cL x:=viewL_frz n _ (frL x)
attribute [push_cast] nL0 nL1 lL frL tL uL iL vL
def cO (x : List Int) : List AV:=[aI x]
theorem nO0 (x : List Int) : nth (cO x) 0 = aI x:=rfl
theorem lO (x : List Int) : (cO x).length = 1:=rfl
theorem frO (x : List Int) : frzAll (cO x) = true:=rfl
theorem tO (x : List Int) : List.take 1 (List.drop 0 (cO x)) = cO x:=rfl
theorem uO (x : List Int) : List.take 1 (cO x) = cO x:=rfl
theorem iO {m : Nat → Option Blk} {n : Nat} (x : List Int) : List.flatMap (ids m n) (cO x) = []:=flat_frz n _ (frO x)
theorem vO {m : Nat → Option Blk} {n : Nat} (x : List Int) : List.map (view m n) (cO x) = cO x:=viewL_frz n _ (frO x)
attribute [push_cast] nO0 lO frO tO uO iO vO
def cJ (x : Jb) : List AV:=[aT x.ts,aA x.af,aI x.tm]
theorem nJ0 (x : Jb) : nth (cJ x) 0 = aT x.ts:=rfl
theorem nJ1 (x : Jb) : nth (cJ x) 1 = aA x.af:=rfl
theorem nJ2 (x : Jb) : nth (cJ x) 2 = aI x.tm:=rfl
theorem lJ (x : Jb) : (cJ x).length = 3:=rfl
theorem frJ (x : Jb) : frzAll (cJ x) = true:=rfl
theorem tJ (x : Jb) : List.take 3 (List.drop 0 (cJ x)) = cJ x:=rfl
theorem uJ (x : Jb) : List.take 3 (cJ x) = cJ x:=rfl
theorem iJ {m : Nat → Option Blk} {n : Nat} (x : Jb) : List.flatMap (ids m n) (cJ x) = []:=flat_frz n _ (frJ x)
theorem vJ {m : Nat → Option Blk} {n : Nat} (x : Jb) : List.map (view m n) (cJ x) = cJ x:=viewL_frz n _ (frJ x)
attribute [push_cast] nJ0 nJ1 nJ2 lJ frJ tJ uJ iJ vJ
def idxF {α : Type} (p : α → Bool) : List α → Int → Int
 |[],_=>-1
 |x :: r,i=>if p x then i else idxF p r (i + 1)
theorem idxF_at {α : Type} (p : α → Bool) (d : α) : ∀ (l : List α) (i : Nat) (k : Int),i < l.length → (∀ j,j < i → p (l.getD j d) = false) → p (l.getD i d) = true → idxF p l k = k + i
 |[],i,k,h,_,_=>by simp at h
 |x :: r,0,k,_,_,h=>by simp at h;simp [idxF,h]
 |x :: r,i + 1,k,h,hj,hp=>by
  have h0 : p x = false:=by simpa using hj 0 (by omega)
  have:=idxF_at p d r i (k + 1) (by simpa using h) (fun j hlt=>by simpa using hj (j + 1) (by omega)) (by simpa using hp)
  simp only [idxF,h0,Bool.false_eq_true,if_false,this]
  omega
theorem idxF_none {α : Type} (p : α → Bool) (d : α) : ∀ (l : List α) (k : Int),(∀ j,j < l.length → p (l.getD j d) = false) → idxF p l k = -1
 |[],k,_=>rfl
 |x :: r,k,h=>by
  have h0 : p x = false:=by simpa using h 0 (by simp)
  have:=idxF_none p d r (k + 1) (fun j hlt=>by simpa using h (j + 1) (by simpa using hlt))
  simp only [idxF,h0,Bool.false_eq_true,if_false,this]
theorem idxF_any {α : Type} (p : α → Bool) : ∀ (l : List α) (k : Int),0 ≤ k → decide (0 ≤ idxF p l k) = l.any p
 |[],k,_=>by simp [idxF]
 |x :: r,k,h=>by
  simp only [idxF,List.any_cons]
  by_cases hp : p x = true
  ·simp [hp,h]
  ·simp only [hp]
   simpa using idxF_any p r (k + 1) (by omega)
theorem up_all {p : Nat → Prop} {n : Nat} (h : ∀ j,j < n → p j) (hn : p n) : ∀ j,j < n + 1 → p j:=fun j hj=>by
 rcases Nat.lt_succ_iff_lt_or_eq.1 hj with h1 | rfl
 ·exact h j h1
 ·exact hn
theorem fn170 (l : List Int) (hl : l.length ≤ 140737488355328) (g : Nat) (fi ca : List AV) (p : Int → Bool) (hg : ∀ x ∈ l,Sy.Fn Tryz.prog g (fi ++ [iv x] ++ ca) (bv (p x))) : Sy.Fn Tryz.prog 170 [aI l,.clo g fi ca] (iv (idxF p l 0)):=by
 refine Fn_of_W mixed Xt170 rfl ?_
 (refine go0 ?_;try exact tTI)
 refine W_loopU (fun i : Nat=>[(8,iv i)]) (fun i=>[]) (fun i=>i ≤ l.length ∧ ∀ j,j < i → p (l.getD j 0) = false) (fun i=>l.length - i) 0 ⟨by omega,fun j hj=>by omega⟩ (by rfl) (by rfl) (fun i hi=>?_)
 obtain ⟨hi,hp⟩:=hi
 (refine sy1 ?_;try exact tTI)
 (refine go0 ?_;try exact tTI)
 refine W_condD (by rfl) (fun h=>?_) (fun h=>?_)
 ·have hlt : i < l.length:=by omega
  have cg:=hg _ (getD_mem' 0 l i hlt)
  (refine go_c cg ?_;try exact tTI)
  refine W_cond (by rfl) (fun hb=>?_) (fun hb=>?_)
  ·(refine go0 ?_;try exact tTI)
   exact W_ret ⟨[_],⟨rfl,rfl⟩,by rw [idxF_at p 0 l i 0 hlt hp hb,Int.zero_add];rfl⟩
  ·(refine go0 ?_;try exact tTI)
   refine ⟨i + 1,⟨by omega,up_all hp hb⟩,by omega,by rfl,?_⟩
   (refine syE ?_;try exact tTI)
 ·(refine go0 ?_;try exact tTI)
  exact W_ret ⟨[_],⟨rfl,rfl⟩,by rw [idxF_none p 0 l 0 (fun j hj=>hp j (by omega))];rfl⟩
theorem fn112 (l : List Int) (hl : l.length ≤ 140737488355328) (g : Nat) (fi ca : List AV) (p : Int → Bool) (hg : ∀ x ∈ l,Sy.Fn Tryz.prog g (fi ++ [iv x] ++ ca) (bv (p x))) : Sy.Fn Tryz.prog 112 [aI l,.clo g fi ca] (bv (l.any p)):=by
 refine Fn_of_W mixed Xt112 rfl ?_
 (refine go_c (fn170 l hl g fi ca p hg) ?_;try exact tTI)
 exact W_ret ⟨[_],⟨rfl,rfl⟩,by rw [← idxF_any p l 0 (by omega)];rfl⟩
theorem fn131 (x lo hi : Int) : Sy.Fn Tryz.prog 131 [iv x,iv lo,iv hi] (bv (inR x lo hi)):=by
 refine Fn_of_W mixed Xt131 rfl ?_
 (refine go0 ?_;try exact tTI)
 exact W_ret ⟨[_],⟨rfl,rfl⟩,rfl⟩
abbrev gw (l : List Wn) (i : Nat) : Wn:=l.getD i dWn
theorem lastW_succ (l : List Wn) (i : Nat) : lastW l (i + 1) = (gw l i).t:=by unfold lastW;rw [if_neg (by omega)];rfl
theorem fn130 (l : List Wn) (hl : l.length ≤ 140737488355328) : Sy.Fn Tryz.prog 130 [aN l] (bv (wnB l)):=by
 refine Fn_of_W mixed Xt130 rfl ?_
 (refine go0 ?_;try exact tTI)
 refine W_loopU (fun i : Nat=>[(3,iv (lastW l i)),(8,iv i)]) (fun i=>[]) (fun i=>i ≤ l.length ∧ ∀ j,j < i → wnAt (lastW l j) (l.getD j dWn) = true) (fun i=>l.length - i) 0 ⟨by omega,fun j hj=>by omega⟩ (by rfl) (by rfl) (fun i hi=>?_)
 obtain ⟨hi,hall⟩:=hi
 (refine sy1 ?_;try exact tTI)
 (refine go0 ?_;try exact tTI)
 refine W_condD (by rfl) (fun h5=>?_) (fun h5=>?_)
 ·have hlt : i < l.length:=by omega
  have hn1:=lastW_succ l i
  have hgi : l.getD i dWn = gw l i:=rfl
  have hok : wnAt (lastW l i) (gw l i) = (decide (lastW l i ≤ (gw l i).f) && decide ((gw l i).f < (gw l i).t) && decide ((gw l i).t ≤ 1099511627776)):=rfl
  generalize gw l i = x at hn1 hgi hok
  (refine gof hgi ?_;try exact tTI)
  refine W_cond (by rfl) (fun hb=>?_) (fun hb=>?_)
  ·have e : wnAt (lastW l i) (l.getD i dWn) = false:=by
    rw [hgi,hok]
    simp only [Bool.or_eq_true,decide_eq_true_eq,Bool.and_eq_false_iff,decide_eq_false_iff_not] at hb ⊢
    omega
   rw [wnB_no hlt e]
   (refine go0 ?_;try exact tTI)
   exact W_ret ⟨[_],⟨rfl,rfl⟩,rfl⟩
  ·have e : wnAt (lastW l i) (l.getD i dWn) = true:=by
    rw [hgi,hok]
    simp only [Bool.or_eq_false_iff,decide_eq_false_iff_not,Bool.and_eq_true,decide_eq_true_eq] at hb ⊢
    omega
   (refine go0 ?_;try exact tTI)
   refine ⟨i + 1,⟨by omega,up_all hall e⟩,by omega,by rfl,?_⟩
   rw [hn1]
   (refine syE ?_;try exact tTI)
 ·rw [wnB_yes (fun j hj=>hall j (by omega))]
  (refine go0 ?_;try exact tTI)
  exact W_ret ⟨[_],⟨rfl,rfl⟩,rfl⟩
def fAt (mi fr : Int) (w : Wn) : Bool:=decide (max fr w.f + mi ≤ w.t)
theorem fst_at {mi fr : Int} : ∀ {l : List Wn} {i : Nat},i < l.length → (∀ j,j < i → fAt mi fr (l.getD j dWn) = false) → fAt mi fr (l.getD i dWn) = true → fstW mi fr l = max fr (l.getD i dWn).f
 |w :: l,0,_,_,h=>by
  simp only [fAt,List.getD_cons_zero,decide_eq_true_eq] at h
  simp only [fstW,List.getD_cons_zero]
  rw [if_pos h]
 |w :: l,i + 1,hi,hj,h=>by
  have h0:=hj 0 (by omega)
  simp only [fAt,List.getD_cons_zero,decide_eq_false_iff_not] at h0
  simp only [fstW]
  rw [if_neg h0,List.getD_cons_succ]
  exact fst_at (by simpa using hi) (fun j hl=>by have:=hj (j + 1) (by omega);rwa [List.getD_cons_succ] at this) (by rwa [List.getD_cons_succ] at h)
theorem fst_none {mi fr : Int} : ∀ {l : List Wn},(∀ j,j < l.length → fAt mi fr (l.getD j dWn) = false) → fstW mi fr l = -1
 |[],_=>rfl
 |w :: l,hj=>by
  have h0:=hj 0 (by simp)
  simp only [fAt,List.getD_cons_zero,decide_eq_false_iff_not] at h0
  simp only [fstW]
  rw [if_neg h0]
  exact fst_none (fun j hl=>by have:=hj (j + 1) (by simpa using hl);rwa [List.getD_cons_succ] at this)
def fstV (mi fr : Int) (l : List Wn) : Int:=if 0 ≤ fstW mi fr l then fstW mi fr l else 0
theorem fn75 (l : List Wn) (mi fr : Int) (hl : l.length ≤ 140737488355328) (hw : WnOk 0 l) (hm : 0 ≤ mi ∧ mi ≤ 10080) (hf : -1125899906842624 ≤ fr ∧ fr ≤ 1125899906842624) : Sy.Fn Tryz.prog 75 [aN l,iv mi,iv fr] (.tup [iv (fstV mi fr l),bv (decide (0 ≤ fstW mi fr l))]):=by
 refine Fn_of_W mixed Xt75 rfl ?_
 (refine go0 ?_;try exact tTI)
 refine W_loopU (fun i : Nat=>[(13,iv i)]) (fun i=>[]) (fun i=>i ≤ l.length ∧ ∀ j,j < i → fAt mi fr (l.getD j dWn) = false) (fun i=>l.length - i) 0 ⟨by omega,fun j hj=>by omega⟩ (by rfl) (by rfl) (fun i hi=>?_)
 obtain ⟨hi,hall⟩:=hi
 (refine sy1 ?_;try exact tTI)
 (refine go0 ?_;try exact tTI)
 refine W_condD (by rfl) (fun h5=>?_) (fun h5=>?_)
 ·have hlt : i < l.length:=by omega
  have hok:=hw.all _ (getD_mem' dWn l i hlt)
  have hat:=fst_at (mi:=mi) (fr:=fr) hlt hall
  have hno:=@up_all _ i hall
  unfold fAt at hat hno
  have hgi : l.getD i dWn = gw l i:=rfl
  generalize gw l i = x at hgi
  rw [hgi] at hat hno hok
  have hM : max fr x.f = fr ∨ max fr x.f = x.f:=by omega
  have hM2 : 0 ≤ max fr x.f:=by omega
  obtain ⟨M,hMe⟩ : ∃ M,max fr x.f = M:=⟨_,rfl⟩
  rw [hMe] at hat hno hM hM2
  (refine gof (ad2 hgi hMe) ?_;try exact tTI)
  refine W_condD (by rfl) (fun hb=>?_) (fun hb=>?_)
  ·have e:=hat (decide_eq_true hb)
   have e2 : fstV mi fr l = M:=by unfold fstV;rw [e,if_pos hM2]
   rw [e2,e,decide_eq_true hM2]
   (refine go0 ?_;try exact tTI)
   exact W_ret ⟨[_,_],⟨rfl,rfl,rfl⟩,rfl⟩
  ·(refine go0 ?_;try exact tTI)
   refine ⟨i + 1,⟨by omega,hno (decide_eq_false hb)⟩,by omega,by rfl,?_⟩
   (refine syE ?_;try exact tTI)
 ·have e:=fst_none (mi:=mi) (fr:=fr) (l:=l) (fun j hj=>hall j (by omega))
  have e2 : fstV mi fr l = 0:=by unfold fstV;rw [e];rfl
  rw [e2,e]
  (refine go0 ?_;try exact tTI)
  exact W_ret ⟨[_,_],⟨rfl,rfl,rfl⟩,rfl⟩
def cKd (k : Nat) : List AV:=[.clo (if k = 0 then 53 else 54) [] [],iv (if k = 0 then 21 else 16)]
theorem lKd (k : Nat) : (cKd k).length = 2:=rfl
theorem frKd (k : Nat) : frzAll (cKd k) = true:=rfl
theorem tKd (k : Nat) : List.take 2 (cKd k) = cKd k:=rfl
attribute [push_cast] lKd frKd tKd
def ftE (l : List Wn) (mi fr : Int) : Int:=if 32 < l.length then 6 else if wnB l = true then (if (inR mi 0 10080 && inR fr 0 1099511627776) = true then (if 0 ≤ fstW mi fr l then 0 else 15) else 3) else 2
def ftV (l : List Wn) (mi fr : Int) : Int:=if ftE l mi fr = 0 then fstW mi fr l else 0
theorem fn64 (l : List Wn) (mi fr : Int) (hl : l.length ≤ 140737488355328) : Sy.Fn Tryz.prog 64 [aN l,iv mi,iv fr] (.tup [iv (ftV l mi fr),iv (ftE l mi fr)]):=by
 refine Fn_of_W mixed Xt64 rfl ?_
 have c130:=fn130 l hl
 have c87a:=fn131 mi 0 10080
 have c87b:=fn131 fr 0 1099511627776
 have e1 : ftE l mi fr = if 32 < l.length then 6 else if wnB l = true then (if (inR mi 0 10080 && inR fr 0 1099511627776) = true then (if 0 ≤ fstW mi fr l then 0 else 15) else 3) else 2:=rfl
 have e2 : ftV l mi fr = if ftE l mi fr = 0 then fstW mi fr l else 0:=rfl
 rw [e2,e1]
 (refine go0 ?_;try exact tTI)
 refine W_condD (by rfl) (fun hb=>?_) (fun hb=>?_)
 ·rw [if_pos (show 32 < l.length by omega)]
  (refine go0 ?_;try exact tTI)
  exact W_ret ⟨[_,_],⟨rfl,rfl,rfl⟩,rfl⟩
 rw [if_neg (show ¬ 32 < l.length by omega)]
 cases hw : wnB l
 ·rw [hw] at c130
  (refine go_c c130 ?_;try exact tTI)
  refine W_cond (by rfl) (fun _=>?_) (fun h=>by cases h)
  (refine go0 ?_;try exact tTI)
  exact W_ret ⟨[_,_],⟨rfl,rfl,rfl⟩,rfl⟩
 rw [hw] at c130
 have hW:=wnB_iff.1 hw
 (refine go_c c130 ?_;try exact tTI)
 refine W_cond (by rfl) (fun h=>by cases h) (fun _=>?_)
 cases hm : inR mi 0 10080
 ·rw [hm] at c87a
  repeat' (first | refine w1g ?_ | refine w1l ?_ | refine w1q ?_ | refine w1b ?_ | refine w1p ?_ | ((first | refine w1r ?_ | refine w1k ?_ | refine w1e ?_ | refine CallC.now (c87a) ?_);(refine sy1 ?_;try exact tTI)) | refine an2 ?_ | (refine CallC.go (bv false) (fun hpc=>absurd hpc (by simp [Sy.pc])) rfl ?_;(refine sy1 ?_;try exact tTI)) | fail)
  refine W_cond (by rfl) (fun _=>?_) (fun h=>by cases h)
  (refine go0 ?_;try exact tTI)
  exact W_ret ⟨[_,_],⟨rfl,rfl,rfl⟩,rfl⟩
 rw [hm] at c87a
 have hM:=inR_iff.1 hm
 cases hf : inR fr 0 1099511627776
 ·rw [hf] at c87b
  (refine go_cg c87a c87b ?_;try exact tTI)
  refine W_cond (by rfl) (fun _=>?_) (fun h=>by cases h)
  (refine go0 ?_;try exact tTI)
  exact W_ret ⟨[_,_],⟨rfl,rfl,rfl⟩,rfl⟩
 rw [hf] at c87b
 have hF:=inR_iff.1 hf
 have c75:=fn75 l mi fr hl hW hM (by omega)
 have e3 : fstV mi fr l = if 0 ≤ fstW mi fr l then fstW mi fr l else 0:=rfl
 generalize fstV mi fr l = V at *
 generalize fstW mi fr l = T at *
 (refine go_cg c87a c87b ?_;try exact tTI)
 refine W_cond (by rfl) (fun h=>by cases h) (fun _=>?_)
 (refine go_c c75 ?_;try exact tTI)
 by_cases hT : 0 ≤ T
 ·rw [if_pos hT] at e3
  rw [e3,decide_eq_true hT]
  refine W_cond (by rfl) (fun h=>by cases h) (fun _=>?_)
  simp only [if_pos hT]
  (refine go0 ?_;try exact tTI)
  exact W_ret ⟨[_,_],⟨rfl,rfl,rfl⟩,rfl⟩
 ·rw [decide_eq_false hT]
  refine W_cond (by rfl) (fun _=>?_) (fun h=>by cases h)
  simp only [if_neg hT]
  (refine go0 ?_;try exact tTI)
  exact W_ret ⟨[_,_],⟨rfl,rfl,rfl⟩,rfl⟩
end Go.Proofs.YtgiedelaebdooaaGreat.S
