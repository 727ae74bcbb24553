/- Part 9 of the proof of: For every input the law TopOnGuide returns true: a point of a guide at a length is hardly off it, a track of such points is right, and one that is moved too far is refused. -/
import Derived.Test.YtgiedelaebdooaaGreatP8
import Derived.Laws.Bits64b
namespace Go.Proofs.YtgiedelaebdooaaGreat.R
set_option linter.unusedVariables false
structure Edg where
 x : Nat
 y : Nat
 c : Int
abbrev far : Int:=1125899906842624
abbrev gi (l : List Int) (i : Nat) : Int:=l.getD i 0
def stp (o : List Int) (e : Edg) : List Int:=if 0 ≤ e.c ∧ gi o e.x < far ∧ gi o e.x + e.c < gi o e.y then o.set e.y (gi o e.x + e.c) else o
def pas (o : List Int) (es : List Edg) : List Int:=es.foldl stp o
inductive Wk (es : List Edg) (s : Nat) : Nat → Int → Prop
 |nil : Wk es s s 0
 |snoc {e : Edg} {d : Int} : Wk es s e.x d → e ∈ es → 0 ≤ e.c → Wk es s e.y (d + e.c)
theorem Wk.mono {es fs : List Edg} {s y : Nat} {d : Int} (h : Wk es s y d) (hf : ∀ e ∈ es,0 ≤ e.c → e ∈ fs) : Wk fs s y d:=by
 induction h with
 |nil=>exact .nil
 |snoc _ h2 h3 ih=>exact .snoc ih (hf _ h2 h3) h3
theorem Wk.nn {es : List Edg} {s y : Nat} {d : Int} (h : Wk es s y d) : 0 ≤ d:=by
 induction h with
 |nil=>exact Int.le_refl _
 |snoc _ _ h3 ih=>omega
theorem stp_len (o : List Int) (e : Edg) : (stp o e).length = o.length:=by
 unfold stp
 split <;> simp
theorem gi_set {o : List Int} {j i : Nat} {v : Int} (hj : j < o.length) : gi (o.set j v) i = if i = j then v else gi o i:=by
 simp only [gi,List.getD_eq_getElem?_getD,List.getElem?_set]
 by_cases q : i = j
 ·subst q;simp [hj]
 ·rw [if_neg (fun e=>q e.symm),if_neg q]
structure Dst (es : List Edg) (s n : Nat) (o : List Int) : Prop where
 len : o.length = n
 src : gi o s = 0
 ach : ∀ y,y < n → gi o y = far ∨ (gi o y < far ∧ Wk es s y (gi o y))
theorem Dst.le {es : List Edg} {s n : Nat} {o : List Int} (h : Dst es s n o) {y : Nat} (hy : y < n) : 0 ≤ gi o y ∧ gi o y ≤ far:=by
 rcases h.ach y hy with h1 | ⟨h1,h2⟩
 ·rw [h1];exact ⟨by decide,Int.le_refl _⟩
 ·exact ⟨h2.nn,by omega⟩
theorem stp_dst {es : List Edg} {s n : Nat} {o : List Int} (h : Dst es s n o) {e : Edg} (he : e ∈ es) (hx : e.x < n) (hy : e.y < n) : Dst es s n (stp o e):=by
 unfold stp
 split
 ·rename_i q
  obtain ⟨q1,q2,q3⟩:=q
  have hlen:=h.len
  have hl : e.y < o.length:=by omega
  have hyl:=(h.le hy).2
  have hx0:=(h.le hx).1
  refine ⟨by rw [List.length_set];exact h.len,?_,fun y hyn=>?_⟩
  ·rw [gi_set hl]
   split
   ·rename_i r
    rw [← r,h.src] at q3;omega
   ·exact h.src
  ·rw [gi_set hl]
   split
   ·rename_i r
    subst r
    rcases h.ach e.x hx with h1 | ⟨h1,h2⟩
    ·omega
    ·exact .inr ⟨by omega,.snoc h2 he q1⟩
   ·exact h.ach y hyn
 ·exact h
theorem pas_dst {es : List Edg} {s n : Nat} (hr : ∀ e ∈ es,e.x < n ∧ e.y < n) : ∀ (fs : List Edg) (o : List Int),(∀ e ∈ fs,e ∈ es) → Dst es s n o → Dst es s n (pas o fs)
 |[],o,_,h=>h
 |e :: fs,o,hs,h=>pas_dst hr fs (stp o e) (fun x hx=>hs x (List.mem_cons_of_mem _ hx)) (stp_dst h (hs e List.mem_cons_self) (hr e (hs e List.mem_cons_self)).1 (hr e (hs e List.mem_cons_self)).2)
def Fix (es : List Edg) (o : List Int) : Prop:=∀ e ∈ es,0 ≤ e.c → gi o e.x < far → gi o e.y ≤ gi o e.x + e.c
theorem fix_le {es : List Edg} {s n : Nat} {o : List Int} (hr : ∀ e ∈ es,e.x < n ∧ e.y < n) (h : Dst es s n o) (hf : Fix es o) {y : Nat} {d : Int} (hw : Wk es s y d) : gi o y ≤ d:=by
 induction hw with
 |nil=>rw [h.src];exact Int.le_refl _
 |snoc h1 h2 h3 ih=>
  rename_i e d'
  have hy:=(h.le (hr e h2).2).2
  by_cases q : gi o e.x < far
  ·have:=hf e h2 h3 q;omega
  ·omega
theorem dist_le {es fs : List Edg} {s n : Nat} {o u : List Int} (hr : ∀ e ∈ fs,e.x < n ∧ e.y < n) (h : Dst es s n o) (h2 : Dst fs s n u) (hf : Fix fs u) (hs : ∀ e ∈ es,0 ≤ e.c → e ∈ fs) {y : Nat} (hy : y < n) : gi u y ≤ gi o y:=by
 rcases h.ach y hy with h1 | ⟨h1,hw⟩
 ·rw [h1];exact (h2.le hy).2
 ·exact fix_le hr h2 hf (hw.mono hs)
theorem dist_eq {es : List Edg} {s n : Nat} {o u : List Int} (hr : ∀ e ∈ es,e.x < n ∧ e.y < n) (h : Dst es s n o) (hf : Fix es o) (h2 : Dst es s n u) (hf2 : Fix es u) {y : Nat} (hy : y < n) : gi u y = gi o y:=by
 have:=dist_le hr h h2 hf2 (fun e he _=>he) hy
 have:=dist_le hr h2 h hf (fun e he _=>he) hy
 omega
def tot : List Int → Int
 |[]=>0
 |x :: l=>x + tot l
theorem tot_set : ∀ (l : List Int) (j : Nat) (v : Int),j < l.length → tot (l.set j v) = tot l - gi l j + v
 |[],j,v,h=>by simp at h
 |x :: l,0,v,h=>by simp [tot,gi];omega
 |x :: l,j + 1,v,h=>by
  have ih:=tot_set l j v (by simpa using h)
  simp only [List.set_cons_succ,tot,ih]
  simp [gi]
  omega
theorem tot_nn : ∀ (l : List Int),(∀ j,j < l.length → 0 ≤ gi l j) → 0 ≤ tot l
 |[],_=>Int.le_refl _
 |x :: l,h=>by
  have h0:=h 0 (by simp)
  have ih:=tot_nn l (fun j hj=>by simpa [gi] using h (j + 1) (by simpa using hj))
  simp only [tot]
  simp [gi] at h0
  omega
def inR (x lo hi : Int) : Bool:=decide (lo ≤ x) && decide (x ≤ hi)
theorem inR_iff {x lo hi : Int} : inR x lo hi = true ↔ lo ≤ x ∧ x ≤ hi:=by unfold inR;rw [Bool.and_eq_true,decide_eq_true_eq,decide_eq_true_eq]
structure Rd where
 f : Int
 t : Int
 c : Int
 m : Int
 o : Int
 z : Int
 l0 : Int
 l1 : Int
 l2 : Int
 l3 : Int
 l4 : Int
 l5 : Int
structure Wrk where
 rs : List Int
 k : Int
 l : Int
 c : Int
structure Mp where
 n : Int
 rs : List Rd
 ws : List Wrk
def dR : Rd:=⟨0,0,0,0,0,0,0,0,0,0,0,0⟩
def dW : Wrk:=⟨[],0,0,0⟩
def Rd.lim (r : Rd) : Nat → Int
 |0=>r.l0
 |1=>r.l1
 |2=>r.l2
 |3=>r.l3
 |4=>r.l4
 |_=>r.l5
abbrev gr (m : Mp) (i : Nat) : Rd:=m.rs.getD i dR
abbrev gw (m : Mp) (i : Nat) : Wrk:=m.ws.getD i dW
def lastI (l : List Int) (i : Nat) : Int:=if i = 0 then -1 else gi l (i - 1)
def okAt (l : List Int) (n : Int) (i : Nat) : Bool:=decide (lastI l i < gi l i) && decide (gi l i < n)
def setB (l : List Int) (n : Int) : Bool:=(List.range l.length).all (okAt l n)
def szB (f : Nat → Int) : Bool:=(List.range 6).all fun k=>inR (f k) 0 1073741824
def hrsB (r : Rd) : Bool:=decide (0 ≤ r.o) && decide (r.o < r.z) && decide (r.z ≤ 1440) && inR r.m 1 (min 1440 (r.z - r.o))
def plB (n x : Int) : Bool:=decide (0 ≤ x) && decide (x < n)
def roadB (n : Int) (r : Rd) : Bool:=plB n r.f && plB n r.t && !(r.f == r.t) && inR r.c 1 1073741824 && hrsB r && szB r.lim
def workB (nr : Int) (w : Wrk) : Bool:=decide (0 < w.rs.length) && setB w.rs nr && decide (0 ≤ w.k) && decide (w.k ≤ 5) && inR w.l 0 1073741824 && inR w.c 1 1073741824
def manyB (m : Mp) : Bool:=decide (256 < m.rs.length) || decide (10 < m.ws.length) || m.ws.any fun w=>decide (16 < w.rs.length)
def badM (m : Mp) : Bool:=decide (m.n < 1) || decide (64 < m.n) || m.rs.any (fun r=>!roadB m.n r) || m.ws.any fun w=>!workB m.rs.length w
def chkM (m : Mp) : Int:=if manyB m = true then 6 else if badM m = true then 2 else 0
structure OkM (m : Mp) : Prop where
 nr : m.rs.length ≤ 256
 nw : m.ws.length ≤ 10
 n : 1 ≤ m.n ∧ m.n ≤ 64
 r : ∀ i,i < m.rs.length → roadB m.n (gr m i) = true
 w : ∀ i,i < m.ws.length → workB m.rs.length (gw m i) = true
 s : ∀ i,i < m.ws.length → (gw m i).rs.length ≤ 16
theorem getD_mem' {α : Type} (d : α) (l : List α) (i : Nat) (h : i < l.length) : l.getD i d ∈ l:=by
 simp [List.getD,h]
theorem chkM_ok {m : Mp} (h : chkM m = 0) : OkM m:=by
 unfold chkM at h
 by_cases h1 : manyB m = true
 ·rw [if_pos h1] at h;omega
 rw [if_neg h1] at h
 by_cases h2 : badM m = true
 ·rw [if_pos h2] at h;omega
 unfold manyB at h1
 unfold badM at h2
 simp only [Bool.or_eq_true,decide_eq_true_eq,List.any_eq_true,not_or,not_exists,not_and,Bool.not_eq_true',Bool.not_eq_false] at h1 h2
 obtain ⟨⟨a1,a2⟩,a3⟩:=h1
 obtain ⟨⟨⟨b1,b2⟩,b3⟩,b4⟩:=h2
 exact ⟨by omega,by omega,by omega,fun i hi=>b3 _ (getD_mem' dR _ i hi),fun i hi=>b4 _ (getD_mem' dW _ i hi),fun i hi=>by have:=a3 _ (getD_mem' dW _ i hi);unfold gw;omega⟩
structure OkR (n : Int) (r : Rd) : Prop where
 f : 0 ≤ r.f ∧ r.f < n
 t : 0 ≤ r.t ∧ r.t < n
 ne : r.f ≠ r.t
 c : 1 ≤ r.c ∧ r.c ≤ 1073741824
 o : 0 ≤ r.o ∧ r.o < r.z ∧ r.z ≤ 1440
 m : 1 ≤ r.m ∧ r.m ≤ 1440 ∧ r.m ≤ r.z - r.o
 l : ∀ k,0 ≤ r.lim k ∧ r.lim k ≤ 1073741824
theorem szB_iff {f : Nat → Int} : szB f = true ↔ ∀ k,k < 6 → 0 ≤ f k ∧ f k ≤ 1073741824:=by
 unfold szB
 rw [List.all_eq_true]
 constructor
 ·intro h k hk
  exact inR_iff.1 (h k (List.mem_range.2 hk))
 ·intro h k hk
  exact inR_iff.2 (h k (List.mem_range.1 hk))
theorem lim_five (r : Rd) (k : Nat) : r.lim k = r.lim (min k 5):=by
 rcases k with _ | _ | _ | _ | _ | k <;> first | rfl | (rw [show min (k + 1 + 1 + 1 + 1 + 1) 5 = 5 by omega];rfl)
theorem roadB_ok {n : Int} {r : Rd} (h : roadB n r = true) : OkR n r:=by
 unfold roadB plB hrsB at h
 simp only [Bool.and_eq_true,decide_eq_true_eq,Bool.not_eq_true',beq_eq_false_iff_ne,inR_iff] at h
 obtain ⟨⟨⟨⟨⟨h1,h2⟩,h3⟩,h4⟩,h5⟩,h6⟩:=h
 have h7:=szB_iff.1 h6
 exact ⟨h1,h2,h3,h4,by omega,by omega,fun k=>by rw [lim_five];exact h7 _ (by omega)⟩
structure OkW (nr : Int) (w : Wrk) : Prop where
 s : setB w.rs nr = true
 k : 0 ≤ w.k ∧ w.k ≤ 5
 l : 0 ≤ w.l ∧ w.l ≤ 1073741824
 c : 1 ≤ w.c ∧ w.c ≤ 1073741824
theorem workB_ok {nr : Int} {w : Wrk} (h : workB nr w = true) : OkW nr w:=by
 unfold workB at h
 simp only [Bool.and_eq_true,decide_eq_true_eq,inR_iff] at h
 obtain ⟨⟨⟨⟨⟨h1,h2⟩,h3⟩,h4⟩,h5⟩,h6⟩:=h
 exact ⟨h2,⟨h3,h4⟩,h5,h6⟩
def Srt (n : Int) : Int → List Int → Prop
 |_,[]=>True
 |lo,x :: l=>lo ≤ x ∧ x < n ∧ Srt n (x + 1) l
theorem Srt.mem {n lo : Int} : ∀ {l : List Int},Srt n lo l → ∀ x ∈ l,lo ≤ x ∧ x < n
 |[],_,x,hx=>by cases hx
 |y :: l,h,x,hx=>by
  obtain ⟨h1,h2,h3⟩:=h
  rcases List.mem_cons.1 hx with rfl | hx
  ·exact ⟨h1,h2⟩
  ·have:=Srt.mem h3 x hx;omega
theorem Srt.len {n lo : Int} : ∀ {l : List Int},Srt n lo l → lo ≤ n → (l.length : Int) ≤ n - lo
 |[],_,h=>by simp;omega
 |y :: l,hs,h=>by
  have:=Srt.len hs.2.2 (by have:=hs.2.1;omega)
  have:=hs.1
  simp only [List.length_cons]
  omega
theorem Srt.snoc {n x : Int} : ∀ {l : List Int} {lo : Int},Srt n lo l → lo ≤ x → x < n → (∀ y ∈ l,y < x) → Srt n lo (l ++ [x])
 |[],lo,_,h1,h2,_=>⟨h1,h2,trivial⟩
 |y :: l,lo,h,h1,h2,h3=>⟨h.1,h.2.1,Srt.snoc h.2.2 (by have:=h3 y List.mem_cons_self;omega) h2 (fun z hz=>h3 z (List.mem_cons_of_mem _ hz))⟩
def pre (l : List Int) (i : Nat) : List Int:=l.filter (fun x=>decide (x < i))
theorem pre_zero {n : Int} {l : List Int} (h : Srt n 0 l) : pre l 0 = []:=by
 unfold pre
 rw [List.filter_eq_nil_iff]
 intro x hx
 have:=h.mem x hx
 simp;omega
theorem pre_all {l : List Int} {i : Nat} (h : ∀ x ∈ l,x < i) : pre l i = l:=by
 unfold pre
 rw [List.filter_eq_self]
 intro x hx
 simpa using h x hx
theorem pre_succ {n : Int} {i : Nat} : ∀ {l : List Int} {lo : Int},Srt n lo l → pre l (i + 1) = pre l i ++ (if (i : Int) ∈ l then [(i : Int)] else [])
 |[],_,_=>by simp [pre]
 |y :: l,lo,h=>by
  obtain ⟨h1,h2,h3⟩:=h
  have ih:=pre_succ (i:=i) h3
  have hm:=h3.mem
  unfold pre at ih ⊢
  rw [List.filter_cons,List.filter_cons,ih]
  by_cases c1 : y < i
  ·have e1 : decide (y < ((i + 1 : Nat) : Int)) = true:=decide_eq_true (by omega)
   have e2 : decide (y < (i : Int)) = true:=decide_eq_true c1
   rw [if_pos e1,if_pos e2]
   by_cases c2 : (i : Int) ∈ l
   ·rw [if_pos c2,if_pos (List.mem_cons_of_mem _ c2)];rfl
   ·rw [if_neg c2,if_neg (fun q=>by
     rcases List.mem_cons.1 q with q | q
     ·omega
     ·exact c2 q)]
    simp
  ·have hl : l.filter (fun x=>decide (x < (i : Int))) = []:=by
    rw [List.filter_eq_nil_iff]
    intro x hx
    have:=hm x hx
    simp;omega
   have c2 : (i : Int) ∉ l:=fun q=>by have:=hm _ q;omega
   rw [if_neg c2,hl]
   by_cases c3 : y = i
   ·have e1 : decide (y < ((i + 1 : Nat) : Int)) = true:=decide_eq_true (by omega)
    have e2 : ¬ decide (y < (i : Int)) = true:=by rw [decide_eq_true_eq];exact c1
    rw [if_pos e1,if_neg e2,if_pos (by rw [c3];exact List.mem_cons_self)]
    simp [c3]
   ·have e1 : ¬ decide (y < ((i + 1 : Nat) : Int)) = true:=by rw [decide_eq_true_eq];omega
    have e2 : ¬ decide (y < (i : Int)) = true:=by rw [decide_eq_true_eq];exact c1
    rw [if_neg e1,if_neg e2,if_neg (fun q=>by
     rcases List.mem_cons.1 q with q | q
     ·exact c3 q.symm
     ·exact c2 q)]
structure BitsOf (s : Nat) (l : List Int) : Prop where
 b : ∀ i : Nat,s.testBit i = decide ((i : Int) ∈ l)
theorem bits_nil : BitsOf 0 []:=⟨fun i=>by simp⟩
theorem bits_snoc {s : Nat} {l : List Int} (h : BitsOf s l) (i : Nat) : BitsOf (s ||| 2 ^ i) (l ++ [(i : Int)]):=⟨fun j=>by
 rw [Nat.testBit_or,h.b,Nat.testBit_two_pow]
 by_cases q : i = j
 ·subst q;simp
 ·have : ¬ ((j : Int) = (i : Int)):=by omega
  simp [q,this]⟩
theorem bits_lt {s n : Nat} {l : List Int} (h : BitsOf s l) (hl : ∀ x ∈ l,x < n) : s < 2 ^ n:=by
 apply Nat.lt_pow_two_of_testBit
 intro i hi
 rw [h.b]
 simp only [decide_eq_false_iff_not]
 intro q
 have:=hl _ q
 omega
theorem bits_shr {s : Nat} {l : List Int} (h : BitsOf s l) (i : Nat) : s / 2 ^ i % 2 = if (i : Int) ∈ l then 1 else 0:=by
 have:=h.b i
 rw [Nat.testBit_eq_decide_div_mod_eq] at this
 by_cases q : (i : Int) ∈ l
 ·rw [if_pos q]
  rw [decide_eq_true q,decide_eq_true_eq] at this
  exact this
 ·rw [if_neg q]
  rw [decide_eq_false q,decide_eq_false_iff_not] at this
  omega
theorem bits_end {s : Nat} {l : List Int} (h : BitsOf s l) (h0 : ∀ x ∈ l,0 ≤ x) {i : Nat} (he : s / 2 ^ i = 0) : ∀ x ∈ l,x < i:=by
 intro x hx
 apply Classical.byContradiction
 intro q
 have h1:=h.b x.toNat
 have e : ((x.toNat : Nat) : Int) = x:=by have:=h0 x hx;omega
 rw [e,decide_eq_true hx] at h1
 have h2 : s < 2 ^ i:=by
  have:=Nat.div_eq_zero_iff.1 he
  rcases this with h3 | h3
  ·have:=Nat.two_pow_pos i;omega
  ·exact h3
 have:=Nat.ge_two_pow_of_testBit h1
 have h3 : 2 ^ i ≤ 2 ^ x.toNat:=Nat.pow_le_pow_right (by omega) (by omega)
 omega
theorem bits_more {s : Nat} {l : List Int} (h : BitsOf s l) {i : Nat} (he : s / 2 ^ i ≠ 0) (hn : ∀ x ∈ l,x < 10) : i < 10:=by
 have h1:=bits_lt (n:=10) h hn
 apply Classical.byContradiction
 intro q
 apply he
 rw [Nat.div_eq_zero_iff]
 right
 have : 2 ^ 10 ≤ 2 ^ i:=Nat.pow_le_pow_right (by omega) (by omega)
 omega
def brn : Nat → List Int → Nat → List (List Int)
 |0,_,_=>[]
 |d + 1,l,i=>((l ++ [(i : Int)]) :: brn d (l ++ [(i : Int)]) (i + 1)) ++ brn d l (i + 1)
def setsM (n : Nat) : List (List Int):=[] :: brn n [] 0
theorem brn_srt {n : Nat} : ∀ (d : Nat) (l : List Int) (i : Nat),i + d = n → Srt n 0 l → (∀ y ∈ l,y < (i : Int)) → ∀ s ∈ brn d l i,Srt n 0 s
 |0,_,_,_,_,_,s,hs=>by cases hs
 |d + 1,l,i,hi,hl,hy,s,hs=>by
  have h1 : Srt n 0 (l ++ [(i : Int)]):=hl.snoc (by omega) (by omega) hy
  have h2 : ∀ y ∈ l ++ [(i : Int)],y < ((i + 1 : Nat) : Int):=fun y hy'=>by
   rcases List.mem_append.1 hy' with q | q
   ·have:=hy y q;omega
   ·rw [List.mem_singleton] at q;omega
  simp only [brn,List.cons_append,List.mem_cons,List.mem_append] at hs
  rcases hs with rfl | hs | hs
  ·exact h1
  ·exact brn_srt d _ (i + 1) (by omega) h1 h2 s hs
  ·exact brn_srt d l (i + 1) (by omega) hl (fun y q=>by have:=hy y q;omega) s hs
theorem sets_srt {n : Nat} : ∀ s ∈ setsM n,Srt n 0 s:=by
 intro s hs
 rcases List.mem_cons.1 hs with rfl | hs
 ·trivial
 ·exact brn_srt n [] 0 (by omega) trivial (fun y hy=>by cases hy) s hs
def lstep (f : List Int → Int) (ok : List Int → Bool) (b : Option (List Int × Int)) (x : List Int) : Option (List Int × Int):=
 if ok x = true then (match b with
  |none=>some (x,f x)
  |some (y,n)=>if f x < n then some (x,f x) else some (y,n)) else b
def leastL (f : List Int → Int) (ok : List Int → Bool) (l : List (List Int)) : Option (List Int × Int):=l.foldl (lstep f ok) none
theorem stp_le (o : List Int) (e : Edg) (hy : e.y < o.length) (i : Nat) : gi (stp o e) i ≤ gi o i:=by
 unfold stp
 split
 ·rename_i q
  rw [gi_set hy]
  split
  ·rename_i r;rw [r];omega
  ·exact Int.le_refl _
 ·exact Int.le_refl _
theorem pas_le : ∀ (es : List Edg) (o : List Int),(∀ e ∈ es,e.y < o.length) → ∀ i,gi (pas o es) i ≤ gi o i
 |[],o,_,i=>Int.le_refl _
 |e :: es,o,h,i=>by
  have h1:=pas_le es (stp o e) (fun x hx=>by rw [stp_len];exact h x (List.mem_cons_of_mem _ hx)) i
  have h2:=stp_le o e (h e List.mem_cons_self) i
  show gi (pas (stp o e) es) i ≤ _
  omega
theorem pas_use : ∀ (es : List Edg) (o : List Int),(∀ e ∈ es,e.y < o.length) → ∀ e ∈ es,0 ≤ e.c → gi o e.x < far → gi (pas o es) e.y ≤ gi o e.x + e.c
 |[],o,_,e,he,_,_=>by cases he
 |f :: es,o,h,e,he,hc,hf=>by
  have hs : ∀ e ∈ es,e.y < (stp o f).length:=fun x hx=>by rw [stp_len];exact h x (List.mem_cons_of_mem _ hx)
  show gi (pas (stp o f) es) e.y ≤ _
  rcases List.mem_cons.1 he with rfl | he
  ·have h1:=pas_le es (stp o e) hs e.y
   have h2 : gi (stp o e) e.y ≤ gi o e.x + e.c:=by
    unfold stp
    split
    ·rw [gi_set (h e List.mem_cons_self),if_pos rfl];exact Int.le_refl _
    ·rename_i q
     by_cases z : gi o e.x + e.c < gi o e.y
     ·exact absurd ⟨hc,hf,z⟩ q
     ·omega
   omega
  ·have h1:=stp_le o f (h f List.mem_cons_self) e.x
   have:=pas_use es (stp o f) hs e he hc (by omega)
   omega
theorem stp_tot (o : List Int) (e : Edg) (hy : e.y < o.length) : tot (stp o e) ≤ tot o ∧ (tot (stp o e) = tot o → stp o e = o):=by
 unfold stp
 split
 ·rename_i q
  rw [tot_set _ _ _ hy]
  exact ⟨by omega,fun r=>by omega⟩
 ·exact ⟨Int.le_refl _,fun _=>rfl⟩
theorem pas_tot : ∀ (es : List Edg) (o : List Int),(∀ e ∈ es,e.y < o.length) → tot (pas o es) ≤ tot o ∧ (tot (pas o es) = tot o → ∀ e ∈ es,stp o e = o)
 |[],o,_=>⟨Int.le_refl _,fun _ e he=>by cases he⟩
 |e :: es,o,h=>by
  obtain ⟨h1,h2⟩:=stp_tot o e (h e List.mem_cons_self)
  obtain ⟨h3,h4⟩:=pas_tot es (stp o e) (fun x hx=>by rw [stp_len];exact h x (List.mem_cons_of_mem _ hx))
  show tot (pas (stp o e) es) ≤ _ ∧ (tot (pas (stp o e) es) = _ → _)
  refine ⟨by omega,fun q f hf=>?_⟩
  have e1:=h2 (by omega)
  rcases List.mem_cons.1 hf with rfl | hf
  ·exact e1
  ·have:=h4 (by omega) f hf
   rwa [e1] at this
theorem pas_same : ∀ (es : List Edg) (o : List Int),(∀ e ∈ es,stp o e = o) → pas o es = o
 |[],o,_=>rfl
 |e :: es,o,h=>by
  show pas (stp o e) es = o
  rw [h e List.mem_cons_self]
  exact pas_same es o (fun x hx=>h x (List.mem_cons_of_mem _ hx))
theorem fix_stp {es : List Edg} {o : List Int} (hl : ∀ e ∈ es,e.y < o.length) (h : ∀ e ∈ es,stp o e = o) : Fix es o:=by
 intro e he hc hf
 have h1:=h e he
 unfold stp at h1
 by_cases z : gi o e.x + e.c < gi o e.y
 ·rw [if_pos ⟨hc,hf,z⟩] at h1
  have h2 : gi (o.set e.y (gi o e.x + e.c)) e.y = gi o e.y:=by rw [h1]
  rw [gi_set (hl e he),if_pos rfl] at h2
  omega
 ·omega
def ini (n s : Nat) : List Int:=(List.replicate n far).set s 0
theorem ini_dst {es : List Edg} {n s : Nat} (hs : s < n) : Dst es s n (ini n s):=by
 have hl : s < (List.replicate n far).length:=by rw [List.length_replicate];exact hs
 have hg : ∀ i,gi (ini n s) i = if i = s then 0 else gi (List.replicate n far) i:=fun i=>gi_set hl
 refine ⟨by simp [ini],by rw [hg,if_pos rfl],fun y hy=>?_⟩
 by_cases q : y = s
 ·right
  rw [hg,if_pos q,q]
  exact ⟨by decide,.nil⟩
 ·left
  rw [hg,if_neg q]
  simp [gi,List.getD,hy]
theorem fix_exists {es : List Edg} {n s : Nat} (hr : ∀ e ∈ es,e.x < n ∧ e.y < n) : ∀ (k : Nat) (o : List Int),Dst es s n o → (tot o).toNat ≤ k → ∃ u,Dst es s n u ∧ Fix es u
 |0,o,h,hk=>by
  have hl : ∀ e ∈ es,e.y < o.length:=fun e he=>by rw [h.len];exact (hr e he).2
  have hp:=pas_dst hr es o (fun e he=>he) h
  have h1:=pas_tot es o hl
  have h2:=tot_nn (pas o es) (fun j hj=>(hp.le (by rw [hp.len] at hj;exact hj)).1)
  exact ⟨o,h,fix_stp hl (h1.2 (by omega))⟩
 |k + 1,o,h,hk=>by
  have hl : ∀ e ∈ es,e.y < o.length:=fun e he=>by rw [h.len];exact (hr e he).2
  have hp:=pas_dst hr es o (fun e he=>he) h
  have h1:=pas_tot es o hl
  have h2:=tot_nn (pas o es) (fun j hj=>(hp.le (by rw [hp.len] at hj;exact hj)).1)
  by_cases q : tot (pas o es) = tot o
  ·exact ⟨o,h,fix_stp hl (h1.2 q)⟩
  ·exact fix_exists hr k (pas o es) hp (by omega)
def rnds (es : List Edg) (o : List Int) : Nat → List Int
 |0=>o
 |k + 1=>pas (rnds es o k) es
theorem rnds_dst {es : List Edg} {n s : Nat} {o : List Int} (hr : ∀ e ∈ es,e.x < n ∧ e.y < n) (h : Dst es s n o) : ∀ k,Dst es s n (rnds es o k)
 |0=>h
 |k + 1=>pas_dst hr es _ (fun e he=>he) (rnds_dst hr h k)
theorem countP_lt {α : Type} {p q : α → Bool} : ∀ {l : List α},(∀ z ∈ l,p z = true → q z = true) → (∃ x ∈ l,q x = true ∧ p x = false) → l.countP p < l.countP q
 |[],_,h=>by obtain ⟨x,hx,_⟩:=h;cases hx
 |a :: l,hpq,h=>by
  have hle : l.countP p ≤ l.countP q:=List.countP_mono_left (fun z hz=>hpq z (List.mem_cons_of_mem _ hz))
  rw [List.countP_cons,List.countP_cons]
  obtain ⟨x,hx,h1,h2⟩:=h
  rcases List.mem_cons.1 hx with rfl | hx
  ·rw [h1,h2];simp;omega
  ·have:=countP_lt (fun z hz=>hpq z (List.mem_cons_of_mem _ hz)) ⟨x,hx,h1,h2⟩
   have h3:=hpq a List.mem_cons_self
   by_cases c : p a = true
   ·rw [c,h3 c];simp;omega
   ·rw [if_neg c]
    split <;> omega
def rk (os : List Int) (n y : Nat) : Nat:=(List.range n).countP (fun z=>decide (gi os z < gi os y))
theorem rk_le (os : List Int) (n y : Nat) : rk os n y ≤ n:=by
 have:=List.countP_le_length (p:=fun z=>decide (gi os z < gi os y)) (l:=List.range n)
 rwa [List.length_range] at this
theorem rk_lt {os : List Int} {n x y : Nat} (hx : x < n) (h : gi os x < gi os y) : rk os n x < rk os n y:=
 countP_lt (fun z hz q=>by rw [decide_eq_true_eq] at q ⊢;omega) ⟨x,List.mem_range.2 hx,by rw [decide_eq_true_eq];exact h,by rw [decide_eq_false_iff_not];omega⟩
theorem last_road {es : List Edg} {s n : Nat} {os : List Int} (hr : ∀ e ∈ es,e.x < n ∧ e.y < n) (h : Dst es s n os) (hf : Fix es os) {y : Nat} (hy : y < n) (hl : gi os y < far) : y = s ∨ ∃ e ∈ es,e.y = y ∧ 0 ≤ e.c ∧ gi os y = gi os e.x + e.c:=by
 rcases h.ach y hy with h1 | ⟨_,h1⟩
 ·omega
 ·generalize hd : gi os y = d at h1
  cases h1 with
  |nil=>exact .inl rfl
  |snoc h2 h3 h4=>
   rename_i e d' hl'
   right
   have h5:=fix_le hr h hf h2
   have h6:=hf e h3 h4 (by omega)
   exact ⟨e,h3,rfl,h4,by omega⟩
theorem rnds_final {es : List Edg} {s n : Nat} {os o : List Int} (hr : ∀ e ∈ es,e.x < n ∧ e.y < n) (hp : ∀ e ∈ es,0 ≤ e.c → 1 ≤ e.c) (h : Dst es s n os) (hf : Fix es os) (ho : Dst es s n o) : ∀ (k y : Nat),y < n → rk os n y ≤ k → gi (rnds es o k) y = gi os y:=by
 have hge : ∀ k y,y < n → gi os y ≤ gi (rnds es o k) y:=fun k y hy=>by
  have hd:=rnds_dst hr ho k
  rcases hd.ach y hy with h1 | ⟨_,h1⟩
  ·rw [h1];exact (h.le hy).2
  ·exact fix_le hr h hf h1
 intro k
 induction k with
 |zero=>
  intro y hy hk
  have hd:=rnds_dst hr ho 0
  by_cases q : gi os y < far
  ·rcases last_road hr h hf hy q with rfl | ⟨e,he,rfl,hc,h1⟩
   ·rw [hd.src,h.src]
   ·have:=rk_lt (os:=os) (hr e he).1 (y:=e.y) (by have:=hp e he hc;omega)
    omega
  ·have:=hge 0 y hy
   have:=(hd.le hy).2
   omega
 |succ k ih=>
  intro y hy hk
  have hd:=rnds_dst hr ho (k + 1)
  have hdk:=rnds_dst hr ho k
  by_cases q : gi os y < far
  ·rcases last_road hr h hf hy q with rfl | ⟨e,he,rfl,hc,h1⟩
   ·rw [hd.src,h.src]
   ·have hc1:=hp e he hc
    have h2:=rk_lt (os:=os) (hr e he).1 (y:=e.y) (by omega)
    have h3:=ih e.x (hr e he).1 (by omega)
    have h4:=pas_use es (rnds es o k) (fun e he=>by rw [hdk.len];exact (hr e he).2) e he hc (by omega)
    have h5:=hge (k + 1) e.y hy
    have h6 : gi (rnds es o (k + 1)) e.y = gi (pas (rnds es o k) es) e.y:=rfl
    omega
  ·have:=hge (k + 1) y hy
   have:=(hd.le hy).2
   omega
theorem rnds_fix {es : List Edg} {s n : Nat} {o : List Int} (hr : ∀ e ∈ es,e.x < n ∧ e.y < n) (hp : ∀ e ∈ es,0 ≤ e.c → 1 ≤ e.c) (ho : Dst es s n o) : Fix es (rnds es o n):=by
 obtain ⟨os,h1,h2⟩:=fix_exists hr _ o ho (Nat.le_refl _)
 have he : ∀ y,y < n → gi (rnds es o n) y = gi os y:=fun y hy=>rnds_final hr hp h1 h2 ho n y hy (rk_le os n y)
 intro e hm hc hl
 rw [he _ (hr e hm).1] at hl ⊢
 rw [he _ (hr e hm).2]
 exact h2 e hm hc hl
theorem dst_ext {es : List Edg} {s n : Nat} {o u : List Int} (hr : ∀ e ∈ es,e.x < n ∧ e.y < n) (h : Dst es s n o) (hf : Fix es o) (h2 : Dst es s n u) (hf2 : Fix es u) : o = u:=by
 apply List.ext_getElem (by rw [h.len,h2.len])
 intro i h3 h4
 have hi : i < n:=by rw [h.len] at h3;exact h3
 have:=dist_eq hr h hf h2 hf2 hi
 simp [gi,List.getD,h3,h4] at this
 exact this.symm
def dst (es : List Edg) (n s : Nat) : List Int:=rnds es (ini n s) n
theorem dst_dst {es : List Edg} {s n : Nat} (hr : ∀ e ∈ es,e.x < n ∧ e.y < n) (hs : s < n) : Dst es s n (dst es n s):=rnds_dst hr (ini_dst hs) n
theorem dst_fix {es : List Edg} {s n : Nat} (hr : ∀ e ∈ es,e.x < n ∧ e.y < n) (hp : ∀ e ∈ es,0 ≤ e.c → 1 ≤ e.c) (hs : s < n) : Fix es (dst es n s):=rnds_fix hr hp (ini_dst hs)
def costL (m : Mp) (l : List Int) : Int:=l.foldl (fun n x=>n + (gw m x.toNat).c) 0
theorem costL_snoc (m : Mp) (l : List Int) (x : Int) : costL m (l ++ [x]) = costL m l + (gw m x.toNat).c:=by
 unfold costL;rw [List.foldl_append];rfl
theorem costL_aux {m : Mp} (h : OkM m) : ∀ (l : List Int) (a : Int),(∀ x ∈ l,0 ≤ x ∧ x < m.ws.length) → a ≤ l.foldl (fun n x=>n + (gw m x.toNat).c) a ∧ l.foldl (fun n x=>n + (gw m x.toNat).c) a ≤ a + l.length * 1073741824
 |[],a,_=>by simp
 |x :: l,a,hx=>by
  have h1:=costL_aux h l (a + (gw m x.toNat).c) (fun y hy=>hx y (List.mem_cons_of_mem _ hy))
  have h2:=hx x List.mem_cons_self
  have h3:=(workB_ok (h.w x.toNat (by omega))).c
  simp only [List.foldl_cons,List.length_cons]
  omega
theorem costL_rng {m : Mp} (h : OkM m) {l : List Int} (hx : ∀ x ∈ l,0 ≤ x ∧ x < m.ws.length) : 0 ≤ costL m l ∧ costL m l ≤ l.length * 1073741824:=by
 have:=costL_aux h l 0 hx
 unfold costL
 omega
def limS (m : Mp) (road k : Nat) (n : Int) (i : Nat) : Int:=if (gw m i).k = k ∧ (road : Int) ∈ (gw m i).rs then max n (gw m i).l else n
def limL (m : Mp) (l : List Int) (road k : Nat) : Int:=l.foldl (fun n x=>limS m road k n x.toNat) ((gr m road).lim k)
theorem limL_snoc (m : Mp) (l : List Int) (road k i : Nat) : limL m (l ++ [(i : Int)]) road k = limS m road k (limL m l road k) i:=by
 unfold limL;rw [List.foldl_append];rfl
def usB (m : Mp) (f : Nat → Int) (l : List Int) (road : Nat) : Bool:=(List.range 6).all fun k=>decide (f k ≤ limL m l road k)
theorem usN_iff {m : Mp} {f : Nat → Int} {l : List Int} {road : Nat} : usB m f l road = true ↔ ∀ k,k < 6 → f k ≤ limL m l road k:=by
 unfold usB
 rw [List.all_eq_true]
 constructor
 ·intro h k hk
  exact of_decide_eq_true (h k (List.mem_range.2 hk))
 ·intro h k hk
  exact decide_eq_true (h k (List.mem_range.1 hk))
def edB (m : Mp) (us : Nat → Bool) (i : Nat) : Edg:=⟨(gr m i).t.toNat,(gr m i).f.toNat,if us i = true then (gr m i).c else -1⟩
end Go.Proofs.YtgiedelaebdooaaGreat.R
namespace Go.Proofs.YtgiedelaebdooaaGreat.R
open Go Sy
set_option maxRecDepth 100000
set_option maxHeartbeats 4000000
set_option linter.unusedVariables false
set_option linter.unusedSimpArgs false
theorem mixed : Tryz.prog.follows .mixedOrders = true:=by kernel_rfl
abbrev iv (n : Int) : AV:=.v (.int .i64 n)
abbrev bv (b : Bool) : AV:=.v (.bool b)
abbrev uv (n : Nat) : AV:=.v (.int .u64 n)
def cI (x : Int) : List AV:=[iv x]
theorem nI (x : Int) : nth (cI x) 0 = iv x:=rfl
theorem lI (x : Int) : (cI x).length = 1:=rfl
theorem frI (x : Int) : frzAll (cI x) = true:=rfl
theorem tI (x : Int) : List.take 1 (List.drop 0 (cI x)) = cI x:=rfl
abbrev aI (l : List Int) : AV:=.sl 1 0 cI l
def cR (r : Rd) : List AV:=[iv r.f,iv r.t,iv r.c,iv r.m,iv r.o,iv r.z,iv r.l0,iv r.l1,iv r.l2,iv r.l3,iv r.l4,iv r.l5]
theorem nR0 (r : Rd) : nth (cR r) 0 = iv r.f:=rfl
theorem nR1 (r : Rd) : nth (cR r) 1 = iv r.t:=rfl
theorem nR2 (r : Rd) : nth (cR r) 2 = iv r.c:=rfl
theorem nR3 (r : Rd) : nth (cR r) 3 = iv r.m:=rfl
theorem nR4 (r : Rd) : nth (cR r) 4 = iv r.o:=rfl
theorem nR5 (r : Rd) : nth (cR r) 5 = iv r.z:=rfl
theorem lR (r : Rd) : (cR r).length = 12:=rfl
theorem frR (r : Rd) : frzAll (cR r) = true:=rfl
theorem tR (r : Rd) : List.take 12 (List.drop 0 (cR r)) = cR r:=rfl
theorem iR {m : Nat → Option Blk} {n : Nat} (r : Rd) : List.flatMap (ids m n) (cR r) = []:=flat_frz n _ (frR r)
theorem vR {m : Nat → Option Blk} {n : Nat} (r : Rd) : List.map (view m n) (cR r) = cR r:=viewL_frz n _ (frR r)
def cW (w : Wrk) : List AV:=[aI w.rs,iv w.k,iv w.l,iv w.c]
theorem nW0 (w : Wrk) : nth (cW w) 0 = aI w.rs:=rfl
theorem nW1 (w : Wrk) : nth (cW w) 1 = iv w.k:=rfl
theorem nW2 (w : Wrk) : nth (cW w) 2 = iv w.l:=rfl
theorem nW3 (w : Wrk) : nth (cW w) 3 = iv w.c:=rfl
theorem lW (w : Wrk) : (cW w).length = 4:=rfl
theorem frW (w : Wrk) : frzAll (cW w) = true:=rfl
theorem tW (w : Wrk) : List.take 4 (List.drop 0 (cW w)) = cW w:=rfl
theorem iW {m : Nat → Option Blk} {n : Nat} (w : Wrk) : List.flatMap (ids m n) (cW w) = []:=flat_frz n _ (frW w)
theorem vW {m : Nat → Option Blk} {n : Nat} (w : Wrk) : List.map (view m n) (cW w) = cW w:=viewL_frz n _ (frW w)
abbrev aR (l : List Rd) : AV:=.sl 12 dR cR l
abbrev aW (l : List Wrk) : AV:=.sl 4 dW cW l
def cM (m : Mp) : List AV:=[iv m.n,aR m.rs,aW m.ws]
theorem nM0 (m : Mp) : nth (cM m) 0 = iv m.n:=rfl
theorem nM1 (m : Mp) : nth (cM m) 1 = aR m.rs:=rfl
theorem nM2 (m : Mp) : nth (cM m) 2 = aW m.ws:=rfl
theorem lM (m : Mp) : (cM m).length = 3:=rfl
theorem frM (m : Mp) : frzAll (cM m) = true:=rfl
theorem iM {f : Nat → Option Blk} {n : Nat} (m : Mp) : List.flatMap (ids f n) (cM m) = []:=flat_frz n _ (frM m)
theorem vM {f : Nat → Option Blk} {n : Nat} (m : Mp) : List.map (view f n) (cM m) = cM m:=viewL_frz n _ (frM m)
abbrev aM (m : Mp) : AV:=.agg (cM m)
def c6 (f : Nat → Int) : List AV:=[iv (f 0),iv (f 1),iv (f 2),iv (f 3),iv (f 4),iv (f 5)]
theorem l6 (f : Nat → Int) : (c6 f).length = 6:=rfl
theorem fr6 (f : Nat → Int) : frzAll (c6 f) = true:=rfl
theorem n6 (f : Nat → Int) (k : Nat) (h : k < 6) : nth (c6 f) k = iv (f k):=by
 rcases k with _ | _ | _ | _ | _ | _ | k <;> first | rfl | omega
theorem i6 {m : Nat → Option Blk} {n : Nat} (f : Nat → Int) : List.flatMap (ids m n) (c6 f) = []:=flat_frz n _ (fr6 f)
theorem v6 {m : Nat → Option Blk} {n : Nat} (f : Nat → Int) : List.map (view m n) (c6 f) = c6 f:=viewL_frz n _ (fr6 f)
theorem t6 (f : Nat → Int) : List.take 6 (c6 f) = c6 f:=rfl
theorem cutR (r : Rd) : List.take 6 (List.drop 6 (cR r)) = c6 r.lim:=rfl
theorem tR2 (r : Rd) : List.take 12 (cR r) = cR r:=rfl
theorem tW2 (w : Wrk) : List.take 4 (cW w) = cW w:=rfl
theorem tM2 (m : Mp) : List.take 3 (cM m) = cM m:=rfl
attribute [push_cast] tR2 tW2 tM2 nI lI frI tI nR0 nR1 nR2 nR3 nR4 nR5 lR frR tR iR vR nW0 nW1 nW2 nW3 lW frW tW iW vW nM0 nM1 nM2 lM frM iM vM l6 fr6 n6 i6 v6 t6 cutR
theorem fn267 (x lo hi : Int) : Sy.Fn Tryz.prog 267 [iv x,iv lo,iv hi] (bv (inR x lo hi)):=by
 refine Fn_of_W mixed Xt267 rfl ?_
 (refine go0 ?_;try exact tTI)
 exact W_ret ⟨[_],⟨rfl,rfl⟩,rfl⟩
theorem up_all {p : Nat → Prop} {n : Nat} (h : ∀ j,j < n → p j) (hn : p n) : ∀ j,j < n + 1 → p j:=fun j hj=>by
 rcases Nat.lt_succ_iff_lt_or_eq.1 hj with h1 | rfl
 ·exact h j h1
 ·exact hn
theorem setB_yes {l : List Int} {n : Int} (h : ∀ j,j < l.length → okAt l n j = true) : setB l n = true:=by
 unfold setB
 rw [List.all_eq_true]
 intro j hj
 exact h j (List.mem_range.1 hj)
theorem setB_no {l : List Int} {n : Int} {i : Nat} (hi : i < l.length) (h : okAt l n i = false) : setB l n = false:=by
 unfold setB
 rw [← Bool.not_eq_true,List.all_eq_true]
 intro q
 have:=q i (List.mem_range.2 hi)
 rw [h] at this;cases this
theorem fn269 (l : List Int) (n : Int) (hl : l.length ≤ 140737488355328) : Sy.Fn Tryz.prog 269 [aI l,iv n] (bv (setB l n)):=by
 refine Fn_of_W mixed Xt269 rfl ?_
 (refine go0 ?_;try exact tTI)
 refine W_loopU (fun i : Nat=>[(5,iv (lastI l i)),(10,iv i)]) (fun i=>[]) (fun i=>i ≤ l.length ∧ ∀ j,j < i → okAt l n j = true) (fun i=>l.length - i) 0 ⟨by omega,fun j hj=>by omega⟩ (by rfl) (by rfl) (fun i hi=>?_)
 obtain ⟨hi,hall⟩:=hi
 (refine sy1 ?_;try exact tTI)
 (refine go0 ?_;try exact tTI)
 refine W_condD (by rfl) (fun h5=>?_) (fun h5=>?_)
 ·have hlt : i < l.length:=by omega
  have hn1 : lastI l (i + 1) = gi l i:=by unfold lastI;rw [if_neg (by omega)];rfl
  have hgi : l.getD i 0 = gi l i:=rfl
  have hok : okAt l n i = (decide (lastI l i < gi l i) && decide (gi l i < n)):=rfl
  generalize gi l i = x at hn1 hgi hok
  (refine gof hgi ?_;try exact tTI)
  refine W_cond (by rfl) (fun hb=>?_) (fun hb=>?_)
  ·have e : okAt l n i = false:=by
    rw [hok,Bool.and_eq_false_iff,decide_eq_false_iff_not,decide_eq_false_iff_not]
    rw [Bool.or_eq_true,decide_eq_true_eq,decide_eq_true_eq] at hb
    omega
   rw [setB_no hlt e]
   (refine go0 ?_;try exact tTI)
   exact W_ret ⟨[_],⟨rfl,rfl⟩,rfl⟩
  ·have e : okAt l n i = true:=by
    rw [hok,Bool.and_eq_true,decide_eq_true_eq,decide_eq_true_eq]
    rw [Bool.or_eq_false_iff,decide_eq_false_iff_not,decide_eq_false_iff_not] at hb
    omega
   (refine go0 ?_;try exact tTI)
   refine ⟨i + 1,⟨by omega,up_all hall e⟩,by omega,by rfl,?_⟩
   rw [hn1]
   (refine syE ?_;try exact tTI)
 ·rw [setB_yes (fun j hj=>hall j (by omega))]
  (refine go0 ?_;try exact tTI)
  exact W_ret ⟨[_],⟨rfl,rfl⟩,rfl⟩
def idxF {α : Type} (p : α → Bool) : List α → Int → Int
 |[],_=>-1
 |x :: r,i=>if p x then i else idxF p r (i + 1)
theorem idxF_at {α : Type} (p : α → Bool) (d : α) : ∀ (l : List α) (i : Nat) (k : Int),i < l.length → (∀ j,j < i → p (l.getD j d) = false) → p (l.getD i d) = true → idxF p l k = k + i
 |[],i,k,h,_,_=>by simp at h
 |x :: r,0,k,_,_,h=>by simp at h;simp [idxF,h]
 |x :: r,i + 1,k,h,hj,hp=>by
  have h0 : p x = false:=by simpa using hj 0 (by omega)
  have:=idxF_at p d r i (k + 1) (by simpa using h) (fun j hlt=>by simpa using hj (j + 1) (by omega)) (by simpa using hp)
  simp only [idxF,h0,Bool.false_eq_true,if_false,this]
  omega
theorem idxF_none {α : Type} (p : α → Bool) (d : α) : ∀ (l : List α) (k : Int),(∀ j,j < l.length → p (l.getD j d) = false) → idxF p l k = -1
 |[],k,_=>rfl
 |x :: r,k,h=>by
  have h0 : p x = false:=by simpa using h 0 (by simp)
  have:=idxF_none p d r (k + 1) (fun j hlt=>by simpa using h (j + 1) (by simpa using hlt))
  simp only [idxF,h0,Bool.false_eq_true,if_false,this]
theorem idxF_any {α : Type} (p : α → Bool) : ∀ (l : List α) (k : Int),0 ≤ k → decide (0 ≤ idxF p l k) = l.any p
 |[],k,_=>by simp [idxF]
 |x :: r,k,h=>by
  simp only [idxF,List.any_cons]
  by_cases hp : p x = true
  ·simp [hp,h]
  ·simp only [hp]
   simpa using idxF_any p r (k + 1) (by omega)
theorem getD_mem {α : Type} (d : α) (l : List α) (i : Nat) (h : i < l.length) : l.getD i d ∈ l:=getD_mem' d l i h
theorem fn170 (l : List Int) (hl : l.length ≤ 1000000) (g : Nat) (fi ca : List AV) (p : Int → Bool) (hg : ∀ x ∈ l,Sy.Fn Tryz.prog g (fi ++ [iv x] ++ ca) (bv (p x))) : Sy.Fn Tryz.prog 170 [aI l,.clo g fi ca] (iv (idxF p l 0)):=by
 refine Fn_of_W mixed Xt170 rfl ?_
 (refine go0 ?_;try exact tTI)
 refine W_loopU (fun i : Nat=>[(8,iv i)]) (fun i=>[]) (fun i=>i ≤ l.length ∧ ∀ j,j < i → p (l.getD j 0) = false) (fun i=>l.length - i) 0 ⟨by omega,fun j hj=>by omega⟩ (by rfl) (by rfl) (fun i hi=>?_)
 obtain ⟨hi,hp⟩:=hi
 (refine sy1 ?_;try exact tTI)
 (refine go0 ?_;try exact tTI)
 refine W_condD (by rfl) (fun h=>?_) (fun h=>?_)
 ·have hlt : i < l.length:=by omega
  have cg:=hg _ (getD_mem 0 l i hlt)
  (refine go_c cg ?_;try exact tTI)
  refine W_cond (by rfl) (fun hb=>?_) (fun hb=>?_)
  ·(refine go0 ?_;try exact tTI)
   exact W_ret ⟨[_],⟨rfl,rfl⟩,by rw [idxF_at p 0 l i 0 hlt hp hb,Int.zero_add];rfl⟩
  ·(refine go0 ?_;try exact tTI)
   refine ⟨i + 1,⟨by omega,up_all hp hb⟩,by omega,by rfl,?_⟩
   (refine syE ?_;try exact tTI)
 ·(refine go0 ?_;try exact tTI)
  exact W_ret ⟨[_],⟨rfl,rfl⟩,by rw [idxF_none p 0 l 0 (fun j hj=>hp j (by omega))];rfl⟩
theorem fn112 (l : List Int) (hl : l.length ≤ 1000000) (g : Nat) (fi ca : List AV) (p : Int → Bool) (hg : ∀ x ∈ l,Sy.Fn Tryz.prog g (fi ++ [iv x] ++ ca) (bv (p x))) : Sy.Fn Tryz.prog 112 [aI l,.clo g fi ca] (bv (l.any p)):=by
 refine Fn_of_W mixed Xt112 rfl ?_
 (refine go_c (fn170 l hl g fi ca p hg) ?_;try exact tTI)
 exact W_ret ⟨[_],⟨rfl,rfl⟩,by rw [← idxF_any p l 0 (by omega)];rfl⟩
theorem fn195 (l : List Rd) (hl : l.length ≤ 1000000) (g : Nat) (fi ca : List AV) (p : Rd → Bool) (hg : ∀ x ∈ l,Sy.Fn Tryz.prog g (fi ++ [.agg (cR x)] ++ ca) (bv (p x))) : Sy.Fn Tryz.prog 195 [aR l,.clo g fi ca] (iv (idxF p l 0)):=by
 refine Fn_of_W mixed Xt195 rfl ?_
 (refine go0 ?_;try exact tTI)
 refine W_loopU (fun i : Nat=>[(8,iv i)]) (fun i=>[]) (fun i=>i ≤ l.length ∧ ∀ j,j < i → p (l.getD j dR) = false) (fun i=>l.length - i) 0 ⟨by omega,fun j hj=>by omega⟩ (by rfl) (by rfl) (fun i hi=>?_)
 obtain ⟨hi,hp⟩:=hi
 (refine sy1 ?_;try exact tTI)
 (refine go0 ?_;try exact tTI)
 refine W_condD (by rfl) (fun h=>?_) (fun h=>?_)
 ·have hlt : i < l.length:=by omega
  have cg:=hg _ (getD_mem dR l i hlt)
  (refine go_c cg ?_;try exact tTI)
  refine W_cond (by rfl) (fun hb=>?_) (fun hb=>?_)
  ·(refine go0 ?_;try exact tTI)
   exact W_ret ⟨[_],⟨rfl,rfl⟩,by rw [idxF_at p dR l i 0 hlt hp hb,Int.zero_add];rfl⟩
  ·(refine go0 ?_;try exact tTI)
   refine ⟨i + 1,⟨by omega,up_all hp hb⟩,by omega,by rfl,?_⟩
   (refine syE ?_;try exact tTI)
 ·(refine go0 ?_;try exact tTI)
  exact W_ret ⟨[_],⟨rfl,rfl⟩,by rw [idxF_none p dR l 0 (fun j hj=>hp j (by omega))];rfl⟩
theorem fn270 (l : List Rd) (hl : l.length ≤ 1000000) (g : Nat) (fi ca : List AV) (p : Rd → Bool) (hg : ∀ x ∈ l,Sy.Fn Tryz.prog g (fi ++ [.agg (cR x)] ++ ca) (bv (p x))) : Sy.Fn Tryz.prog 270 [aR l,.clo g fi ca] (bv (l.any p)):=by
 refine Fn_of_W mixed Xt270 rfl ?_
 (refine go_c (fn195 l hl g fi ca p hg) ?_;try exact tTI)
 exact W_ret ⟨[_],⟨rfl,rfl⟩,by rw [← idxF_any p l 0 (by omega)];rfl⟩
theorem fn299 (l : List Wrk) (hl : l.length ≤ 1000000) (g : Nat) (fi ca : List AV) (p : Wrk → Bool) (hg : ∀ x ∈ l,Sy.Fn Tryz.prog g (fi ++ [.agg (cW x)] ++ ca) (bv (p x))) : Sy.Fn Tryz.prog 299 [aW l,.clo g fi ca] (iv (idxF p l 0)):=by
 refine Fn_of_W mixed Xt299 rfl ?_
 (refine go0 ?_;try exact tTI)
 refine W_loopU (fun i : Nat=>[(8,iv i)]) (fun i=>[]) (fun i=>i ≤ l.length ∧ ∀ j,j < i → p (l.getD j dW) = false) (fun i=>l.length - i) 0 ⟨by omega,fun j hj=>by omega⟩ (by rfl) (by rfl) (fun i hi=>?_)
 obtain ⟨hi,hp⟩:=hi
 (refine sy1 ?_;try exact tTI)
 (refine go0 ?_;try exact tTI)
 refine W_condD (by rfl) (fun h=>?_) (fun h=>?_)
 ·have hlt : i < l.length:=by omega
  have cg:=hg _ (getD_mem dW l i hlt)
  (refine go_c cg ?_;try exact tTI)
  refine W_cond (by rfl) (fun hb=>?_) (fun hb=>?_)
  ·(refine go0 ?_;try exact tTI)
   exact W_ret ⟨[_],⟨rfl,rfl⟩,by rw [idxF_at p dW l i 0 hlt hp hb,Int.zero_add];rfl⟩
  ·(refine go0 ?_;try exact tTI)
   refine ⟨i + 1,⟨by omega,up_all hp hb⟩,by omega,by rfl,?_⟩
   (refine syE ?_;try exact tTI)
 ·(refine go0 ?_;try exact tTI)
  exact W_ret ⟨[_],⟨rfl,rfl⟩,by rw [idxF_none p dW l 0 (fun j hj=>hp j (by omega))];rfl⟩
theorem fn263 (l : List Wrk) (hl : l.length ≤ 1000000) (g : Nat) (fi ca : List AV) (p : Wrk → Bool) (hg : ∀ x ∈ l,Sy.Fn Tryz.prog g (fi ++ [.agg (cW x)] ++ ca) (bv (p x))) : Sy.Fn Tryz.prog 263 [aW l,.clo g fi ca] (bv (l.any p)):=by
 refine Fn_of_W mixed Xt263 rfl ?_
 (refine go_c (fn299 l hl g fi ca p hg) ?_;try exact tTI)
 exact W_ret ⟨[_],⟨rfl,rfl⟩,by rw [← idxF_any p l 0 (by omega)];rfl⟩
theorem fn272 (l : List Int) (hl : l.length ≤ 1000000) (g : Nat) (fi ca : List AV) (p : Int → Bool) (hg : ∀ x ∈ l,Sy.Fn Tryz.prog g (fi ++ [iv x] ++ ca) (bv (p x))) : Sy.Fn Tryz.prog 272 [aI l,.clo g fi ca] (iv (idxF p l 0)):=by
 refine Fn_of_W mixed Xt272 rfl ?_
 (refine go0 ?_;try exact tTI)
 refine W_loopU (fun i : Nat=>[(8,iv i)]) (fun i=>[]) (fun i=>i ≤ l.length ∧ ∀ j,j < i → p (l.getD j 0) = false) (fun i=>l.length - i) 0 ⟨by omega,fun j hj=>by omega⟩ (by rfl) (by rfl) (fun i hi=>?_)
 obtain ⟨hi,hp⟩:=hi
 (refine sy1 ?_;try exact tTI)
 (refine go0 ?_;try exact tTI)
 refine W_condD (by rfl) (fun h=>?_) (fun h=>?_)
 ·have hlt : i < l.length:=by omega
  have cg:=hg _ (getD_mem 0 l i hlt)
  (refine go_c cg ?_;try exact tTI)
  refine W_cond (by rfl) (fun hb=>?_) (fun hb=>?_)
  ·(refine go0 ?_;try exact tTI)
   exact W_ret ⟨[_],⟨rfl,rfl⟩,by rw [idxF_at p 0 l i 0 hlt hp hb,Int.zero_add];rfl⟩
  ·(refine go0 ?_;try exact tTI)
   refine ⟨i + 1,⟨by omega,up_all hp hb⟩,by omega,by rfl,?_⟩
   (refine syE ?_;try exact tTI)
 ·(refine go0 ?_;try exact tTI)
  exact W_ret ⟨[_],⟨rfl,rfl⟩,by rw [idxF_none p 0 l 0 (fun j hj=>hp j (by omega))];rfl⟩
theorem fn237 (l : List Int) (hl : l.length ≤ 1000000) (g : Nat) (fi ca : List AV) (p : Int → Bool) (hg : ∀ x ∈ l,Sy.Fn Tryz.prog g (fi ++ [iv x] ++ ca) (bv (p x))) : Sy.Fn Tryz.prog 237 [aI l,.clo g fi ca] (bv (l.any p)):=by
 refine Fn_of_W mixed Xt237 rfl ?_
 (refine go_c (fn272 l hl g fi ca p hg) ?_;try exact tTI)
 exact W_ret ⟨[_],⟨rfl,rfl⟩,by rw [← idxF_any p l 0 (by omega)];rfl⟩
theorem fn310 (l : List Int) (x : Int) (hl : l.length ≤ 1000000) : Sy.Fn Tryz.prog 310 [aI l,iv x] (iv (idxF (fun y=>x == y) l 0)):=by
 refine Fn_of_W mixed Xt310 rfl ?_
 (refine go0 ?_;try exact tTI)
 refine W_loopU (fun i : Nat=>[(8,iv i)]) (fun i=>[]) (fun i=>i ≤ l.length ∧ ∀ j,j < i → (x == l.getD j 0) = false) (fun i=>l.length - i) 0 ⟨by omega,fun j hj=>by omega⟩ (by rfl) (by rfl) (fun i hi=>?_)
 obtain ⟨hi,hp⟩:=hi
 (refine sy1 ?_;try exact tTI)
 (refine go0 ?_;try exact tTI)
 refine W_condD (by rfl) (fun h=>?_) (fun h=>?_)
 ·have hlt : i < l.length:=by omega
  (refine go0 ?_;try exact tTI)
  refine W_cond (by rfl) (fun hb=>?_) (fun hb=>?_)
  ·(refine go0 ?_;try exact tTI)
   exact W_ret ⟨[_],⟨rfl,rfl⟩,by rw [idxF_at (fun y=>x == y) 0 l i 0 hlt hp hb,Int.zero_add];rfl⟩
  ·(refine go0 ?_;try exact tTI)
   refine ⟨i + 1,⟨by omega,up_all hp hb⟩,by omega,by rfl,?_⟩
   (refine syE ?_;try exact tTI)
 ·(refine go0 ?_;try exact tTI)
  exact W_ret ⟨[_],⟨rfl,rfl⟩,by rw [idxF_none (fun y=>x == y) 0 l 0 (fun j hj=>hp j (by omega))];rfl⟩
theorem fn300 (l : List Int) (x : Int) (hl : l.length ≤ 1000000) : Sy.Fn Tryz.prog 300 [aI l,iv x] (bv (decide (x ∈ l))):=by
 refine Fn_of_W mixed Xt300 rfl ?_
 (refine go_c (fn310 l x hl) ?_;try exact tTI)
 refine W_ret ⟨[_],⟨rfl,rfl⟩,?_⟩
 have e : decide (0 ≤ idxF (fun y=>x == y) l 0) = decide (x ∈ l):=by
  rw [idxF_any _ l 0 (by omega),← List.contains_eq_any_beq]
  rw [Bool.eq_iff_iff,List.contains_iff_mem,decide_eq_true_eq]
 rw [← e];rfl
theorem fn271 (x : Int) : Sy.Fn Tryz.prog 271 [iv x] (bv (!inR x 0 1073741824)):=by
 refine Fn_of_W mixed Xt271 rfl ?_
 (refine go_c (fun x1 x2 x3=>fn267 x1 x2 x3) ?_;try exact tTI)
 exact W_ret ⟨[_],⟨rfl,rfl⟩,rfl⟩
def li6 (f : Nat → Int) : List Int:=[f 0,f 1,f 2,f 3,f 4,f 5]
theorem any6 (f : Nat → Int) : (List.any (li6 f) fun x=>!inR x 0 1073741824) = !szB f:=by
 unfold szB li6
 simp [List.range_succ,List.any_cons,List.all_append]
def szE (f : Nat → Int) : Int:=if szB f = true then 0 else 2
theorem fn236 (f : Nat → Int) : Sy.Fn Tryz.prog 236 [.agg (c6 f)] (iv (szE f)):=by
 refine Fn_of_W mixed Xt236 rfl ?_
 have c112:=fn112 (li6 f) (Nat.le_of_ble_eq_true rfl) 271 [] [] (fun x=>!inR x 0 1073741824) (fun x _=>fn271 x)
 rw [any6] at c112
 (refine go0 ?_;try exact tTI)
 refine ⟨Int,0,cI,li6 f,fun _=>⟨trivial,rfl,by omega,fun x _=>rfl,rfl⟩,?_⟩
 (refine sy1 ?_;try exact tTI)
 (refine go_c c112 ?_;try exact tTI)
 unfold szE
 cases szB f
 ·refine W_cond (by rfl) (fun _=>?_) (fun h=>by cases h)
  (refine go0 ?_;try exact tTI)
  exact W_ret ⟨[_],⟨rfl,rfl⟩,rfl⟩
 ·refine W_cond (by rfl) (fun h=>by cases h) (fun _=>?_)
  (refine go0 ?_;try exact tTI)
  exact W_ret ⟨[_],⟨rfl,rfl⟩,rfl⟩
structure Gm (m : Mp) : Prop where
 r : m.rs.length ≤ 300
 w : m.ws.length ≤ 20
 s : ∀ w ∈ m.ws,w.rs.length ≤ 40
theorem fn264 (w : Wrk) : Sy.Fn Tryz.prog 264 [.agg (cW w)] (bv (decide (16 < w.rs.length))):=by
 refine Fn_of_W mixed Xt264 rfl ?_
 have e : decide ((16 : Int) < (w.rs.length : Int)) = decide (16 < w.rs.length):=by
  rw [Bool.eq_iff_iff,decide_eq_true_eq,decide_eq_true_eq];omega
 rw [← e]
 (refine go0 ?_;try exact tTI)
 exact W_ret ⟨[_],⟨rfl,rfl⟩,rfl⟩
theorem fn265 (m : Mp) (x : Int) : Sy.Fn Tryz.prog 265 [iv x,.fp (cM m) 0] (bv (plB m.n x)):=by
 refine Fn_of_W mixed Xt265 rfl ?_
 (refine go0 ?_;try exact tTI)
 exact W_ret ⟨[_],⟨rfl,rfl⟩,rfl⟩
theorem hrs_wrap (r : Rd) : (decide (0 ≤ r.o) && decide (r.o < r.z) && decide (r.z ≤ 1440) && inR r.m 1 (min 1440 (IntKind.i64.wrap (r.z - r.o)))) = hrsB r:=by
 unfold hrsB
 by_cases h : 0 ≤ r.o ∧ r.o < r.z ∧ r.z ≤ 1440
 ·rw [wrap64 (by omega)]
 ·have e : (decide (0 ≤ r.o) && decide (r.o < r.z) && decide (r.z ≤ 1440)) = false:=by
   rw [← Bool.not_eq_true]
   simp only [Bool.and_eq_true,decide_eq_true_eq]
   omega
  rw [e];rfl
theorem fn266 (m : Mp) (r : Rd) : Sy.Fn Tryz.prog 266 [.agg (cR r),.fp [.clo 265 [] [.fp (cM m) 0]] 0] (bv (!roadB m.n r)):=by
 refine Fn_of_W mixed Xt266 rfl ?_
 (refine go_cg (fun x1 x2 x3=>fn267 x1 x2 x3) (fun x1 x2 x3=>fn267 x1 x2 x3) ?_;try exact tTI)
 rw [hrs_wrap]
 repeat' (first | refine w1g ?_ | refine w1l ?_ | refine w1q ?_ | refine w1b ?_ | refine w1p ?_ | ((first | refine w1r ?_ | refine w1k ?_ | refine w1e ?_ | refine CallC.now (fn265 _ _) ?_ | refine CallC.go _ (fun _=>⟨trivial,fn265 _ _⟩) rfl ?_ | refine CallC.go _ (fun _=>⟨trivial,fn267 _ _ _⟩) rfl ?_ | refine CallC.go _ (fun _=>⟨trivial,fn236 _⟩) rfl ?_);(refine sy1 ?_;try exact tTI)) | refine an2 ?_ | fail)
 refine W_ret ⟨[_],⟨rfl,rfl⟩,?_⟩
 have e : roadB m.n r = (plB m.n r.f && plB m.n r.t && !(r.f == r.t) && inR r.c 1 1073741824 && hrsB r && szB r.lim):=rfl
 rw [e]
 unfold szE
 generalize plB m.n r.f = b1
 generalize plB m.n r.t = b2
 generalize (r.f == r.t) = b3
 generalize inR r.c 1 1073741824 = b4
 generalize hrsB r = b5
 generalize szB r.lim = b6
 cases b1 <;> cases b2 <;> cases b3 <;> cases b4 <;> cases b5 <;> cases b6 <;> rfl
theorem workB_neg (n : Int) (w : Wrk) : ((w.rs.length : Int) == 0 || !setB w.rs n || decide (w.k < 0) || decide (5 < w.k) || !inR w.l 0 1073741824 || !inR w.c 1 1073741824) = !workB n w:=by
 have e : workB n w = (decide (0 < w.rs.length) && setB w.rs n && decide (0 ≤ w.k) && decide (w.k ≤ 5) && inR w.l 0 1073741824 && inR w.c 1 1073741824):=rfl
 rw [e,Bool.eq_iff_iff]
 generalize setB w.rs n = b1
 generalize inR w.l 0 1073741824 = b2
 generalize inR w.c 1 1073741824 = b3
 simp only [Bool.or_eq_true,Bool.not_eq_true',Bool.and_eq_false_iff,decide_eq_true_eq,decide_eq_false_iff_not,beq_iff_eq]
 cases b1 <;> cases b2 <;> cases b3 <;> simp only [true_or,or_true,false_or,or_false,reduceCtorEq] <;> omega
theorem fn268 (m : Mp) (w : Wrk) (hl : w.rs.length ≤ 1000000) : Sy.Fn Tryz.prog 268 [.agg (cW w),.fp (cM m) 0] (bv (!workB m.rs.length w)):=by
 refine Fn_of_W mixed Xt268 rfl ?_
 repeat' (first | refine w1g ?_ | refine w1l ?_ | refine w1q ?_ | refine w1b ?_ | refine w1p ?_ | ((first | refine w1r ?_ | refine w1k ?_ | refine w1e ?_ | refine CallC.go _ (fun _=>⟨trivial,fn269 _ _ (by omega)⟩) rfl ?_ | refine CallC.go _ (fun _=>⟨trivial,fn267 _ _ _⟩) rfl ?_);(refine sy1 ?_;try exact tTI)) | refine an2 ?_ | fail)
 rw [workB_neg]
 exact W_ret ⟨[_],⟨rfl,rfl⟩,rfl⟩
theorem manyB_eq {m : Mp} (hr : decide ((256 : Int) < (m.rs.length : Int)) = decide (256 < m.rs.length)) : manyB m = (decide ((256 : Int) < (m.rs.length : Int)) || decide ((10 : Int) < (m.ws.length : Int)) || m.ws.any fun w=>decide (16 < w.rs.length)):=by
 unfold manyB
 rw [hr]
 congr 2
 rw [Bool.eq_iff_iff,decide_eq_true_eq,decide_eq_true_eq];omega
theorem fn235 (m : Mp) (h : Gm m) : Sy.Fn Tryz.prog 235 [aM m] (iv (chkM m)):=by
 refine Fn_of_W mixed Xt235 rfl ?_
 have h1:=h.r
 have h2:=h.w
 have c81a:=fn263 m.ws (by omega) 264 [] [] (fun w=>decide (16 < w.rs.length)) (fun w _=>fn264 w)
 have c81b:=fn263 m.ws (by omega) 268 [] [.fp (cM m) 0] (fun w=>!workB m.rs.length w) (fun w hw=>fn268 m w (by have:=h.s w hw;omega))
 have c270:=fn270 m.rs (by omega) 266 [] [.fp [.clo 265 [] [.fp (cM m) 0]] 0] (fun r=>!roadB m.n r) (fun r _=>fn266 m r)
 (refine go_g c81a ?_;try exact tTI)
 have e1:=manyB_eq (m:=m) (by rw [Bool.eq_iff_iff,decide_eq_true_eq,decide_eq_true_eq];omega)
 rw [← e1]
 refine W_cond (by rfl) (fun hb=>?_) (fun hb=>?_)
 ·have e : chkM m = 6:=by unfold chkM;rw [if_pos hb]
  rw [e]
  (refine go0 ?_;try exact tTI)
  exact W_ret ⟨[_],⟨rfl,rfl⟩,rfl⟩
 have hmn : ¬ manyB m = true:=by rw [hb];decide
 (refine go_gg c270 c81b ?_;try exact tTI)
 have e2 : ((decide (m.n < 1) || decide (64 < m.n) || m.rs.any fun r=>!roadB m.n r) || m.ws.any fun w=>!workB (m.rs.length : Int) w) = badM m:=rfl
 rw [e2]
 refine W_cond (by rfl) (fun hb=>?_) (fun hb=>?_)
 ·have e : chkM m = 2:=by unfold chkM;rw [if_neg hmn,if_pos hb]
  rw [e]
  (refine go0 ?_;try exact tTI)
  exact W_ret ⟨[_],⟨rfl,rfl⟩,rfl⟩
 ·have e : chkM m = 0:=by unfold chkM;rw [if_neg hmn,if_neg (by rw [hb];decide)]
  rw [e]
  (refine go0 ?_;try exact tTI)
  exact W_ret ⟨[_],⟨rfl,rfl⟩,rfl⟩
def cAt (m : Mp) (f : Nat → Int) : List AV:=[iv m.n,aR m.rs,aW m.ws,iv (f 0),iv (f 1),iv (f 2),iv (f 3),iv (f 4),iv (f 5)]
theorem nAt0 (m : Mp) (f : Nat → Int) : nth (cAt m f) 0 = iv m.n:=rfl
theorem nAt1 (m : Mp) (f : Nat → Int) : nth (cAt m f) 1 = aR m.rs:=rfl
theorem nAt2 (m : Mp) (f : Nat → Int) : nth (cAt m f) 2 = aW m.ws:=rfl
theorem lAt (m : Mp) (f : Nat → Int) : (cAt m f).length = 9:=rfl
theorem frAt (m : Mp) (f : Nat → Int) : frzAll (cAt m f) = true:=rfl
theorem tAt3 (m : Mp) (f : Nat → Int) : List.take 3 (cAt m f) = cM m:=rfl
theorem tAt30 (m : Mp) (f : Nat → Int) : List.take 3 (List.drop 0 (cAt m f)) = cM m:=rfl
theorem tAt6 (m : Mp) (f : Nat → Int) : List.take 6 (List.drop 3 (cAt m f)) = c6 f:=rfl
theorem tAt9 (m : Mp) (f : Nat → Int) : List.take 9 (cAt m f) = cAt m f:=rfl
theorem tAt90 (m : Mp) (f : Nat → Int) : List.take 9 (List.drop 0 (cAt m f)) = cAt m f:=rfl
theorem iAt {g : Nat → Option Blk} {n : Nat} (m : Mp) (f : Nat → Int) : List.flatMap (ids g n) (cAt m f) = []:=flat_frz n _ (frAt m f)
theorem vAt {g : Nat → Option Blk} {n : Nat} (m : Mp) (f : Nat → Int) : List.map (view g n) (cAt m f) = cAt m f:=viewL_frz n _ (frAt m f)
theorem mkAt (m : Mp) (f : Nat → Int) : cM m ++ c6 f = cAt m f:=rfl
attribute [push_cast] nAt0 nAt1 nAt2 lAt frAt tAt3 tAt30 tAt6 tAt9 tAt90 iAt vAt mkAt
abbrev aAt (m : Mp) (f : Nat → Int) : AV:=.agg (cAt m f)
def zAt : List AV:=[iv 0,.v (.slice none 0 0),.v (.slice none 0 0),iv 0,iv 0,iv 0,iv 0,iv 0,iv 0]
def opE (m : Mp) (f : Nat → Int) : Int:=if chkM m = 0 then szE f else chkM m
def opV (m : Mp) (f : Nat → Int) : List AV:=if chkM m = 0 then cAt m f else zAt
theorem fn185 (m : Mp) (f : Nat → Int) (h : Gm m) : Sy.Fn Tryz.prog 185 [aM m,.agg (c6 f)] (.tup [.agg (opV m f),iv (opE m f)]):=by
 refine Fn_of_W mixed Xt185 rfl ?_
 unfold opE opV
 (refine go_c (fn235 m h) ?_;try exact tTI)
 refine W_cond (by rfl) (fun hb=>?_) (fun hb=>?_)
 ·rw [bne_iff_ne] at hb
  rw [if_neg hb,if_neg hb]
  (refine go0 ?_;try exact tTI)
  exact W_ret ⟨[_,_],⟨⟨by simp,rfl⟩,rfl,rfl⟩,rfl⟩
 ·rw [bne_eq_false_iff_eq] at hb
  rw [if_pos hb,if_pos hb]
  (refine go_c (fn236 f) ?_;try exact tTI)
  refine ⟨rfl,?_⟩
  exact W_ret ⟨[_,_],⟨⟨⟨trivial,Nat.le_of_ble_eq_true rfl⟩,rfl⟩,rfl,rfl⟩,rfl⟩
theorem fn238 (m : Mp) (x : Int) : Sy.Fn Tryz.prog 238 [iv x,.fp (cM m) 0] (bv (!plB m.n x)):=by
 refine Fn_of_W mixed Xt238 rfl ?_
 have e : (decide (x < 0) || decide (m.n ≤ x)) = !plB m.n x:=by
  unfold plB
  rw [Bool.eq_iff_iff]
  simp only [Bool.or_eq_true,Bool.not_eq_true',Bool.and_eq_false_iff,decide_eq_true_eq,decide_eq_false_iff_not]
  omega
 rw [← e]
 (refine go0 ?_;try exact tTI)
 exact W_ret ⟨[_],⟨rfl,rfl⟩,rfl⟩
def plsB (m : Mp) (l : List Int) : Bool:=!(l.any fun x=>!plB m.n x)
theorem fn186 (m : Mp) (l : List Int) (hl : l.length ≤ 1000000) : Sy.Fn Tryz.prog 186 [aM m,aI l] (iv (if plsB m l = true then 0 else 3)):=by
 refine Fn_of_W mixed Xt186 rfl ?_
 have c237:=fn237 l hl 238 [] [.fp (cM m) 0] (fun x=>!plB m.n x) (fun x _=>fn238 m x)
 unfold plsB
 (refine go_c c237 ?_;try exact tTI)
 cases l.any fun x=>!plB m.n x
 ·refine W_cond (by rfl) (fun h=>by cases h) (fun _=>?_)
  (refine go0 ?_;try exact tTI)
  exact W_ret ⟨[_],⟨rfl,rfl⟩,rfl⟩
 ·refine W_cond (by rfl) (fun _=>?_) (fun h=>by cases h)
  (refine go0 ?_;try exact tTI)
  exact W_ret ⟨[_],⟨rfl,rfl⟩,rfl⟩
def rdE (m : Mp) (l : List Int) : Int:=if 256 < l.length then 6 else if (l.any fun x=>!plB m.rs.length x) = true then 3 else 0
def greatB (m : Mp) : Bool:=decide (300 < m.rs.length) || decide (20 < m.ws.length) || (m.ws.any fun w=>decide (40 < w.rs.length)) || (chkM m == 0 && (decide (12 < m.n) || decide (30 < m.rs.length) || decide (5 < m.ws.length)))
theorem fn194 (s : Nat) : Sy.Fn Tryz.prog 194 [uv s] (.clo 243 [] [.fp [uv s] 0]):=by
 refine Fn_of_W mixed Xt194 rfl ?_
 (refine go0 ?_;try exact tTI)
 exact W_ret ⟨[_],⟨rfl,rfl⟩,rfl⟩
theorem shrS (s : Nat) {i : Nat} (hi : i ≤ 64) : (s : Int).fdiv (2 ^ min i IntKind.u64.bits) = ((s / 2 ^ i : Nat) : Int):=by
 have e : min i IntKind.u64.bits = i:=Nat.min_eq_left hi
 rw [e,Int.fdiv_eq_ediv_of_nonneg _ (Int.pow_nonneg (by omega))]
 rw [Int.natCast_ediv,Int.natCast_pow]
 rfl
theorem andS (x : Nat) (hx : x < 18446744073709551616) : bits .and .u64 (x : Int) 1 = ((x % 2 : Nat) : Int):=by
 have h:=bits_and_u64_nat x 1 hx (by omega)
 rw [Nat.and_one_is_mod] at h
 exact h
theorem div_lt64 {s : Nat} (h : s < 1024) (i : Nat) : s / 2 ^ i < 18446744073709551616:=by
 have:=Nat.div_le_self s (2 ^ i)
 omega
theorem pre_mem {l : List Int} {i : Nat} {x : Int} (h : x ∈ pre l i) : x ∈ l:=by
 unfold pre at h
 exact (List.mem_filter.1 h).1
structure SetW (m : Mp) (l : List Int) (s : Nat) : Prop where
 b : BitsOf s l
 s : Srt m.ws.length 0 l
theorem fn192 (m : Mp) (f : Nat → Int) (l : List Int) (s : Nat) (h : OkM m) (hs : SetW m l s) : Sy.Fn Tryz.prog 192 [aAt m f,uv s] (iv (costL m l)):=by
 refine Fn_of_W mixed Xt192 rfl ?_
 have hw:=h.nw
 have hlt:=bits_lt hs.b (fun x hx=>(hs.s.mem x hx).2)
 (refine go_c (fn194 s) ?_;try exact tTI)
 refine W_rfn (.inl rfl) (fun lp R hR=>Inl_of_W mixed Xt243 rfl (fun vs=>?_))
 (refine sy1 ?_;try exact tTI)
 (refine go0 ?_;try exact tTI)
 refine W_loopU (fun i : Nat=>[(3,iv i)]) (fun i=>[(2,.cells [iv (costL m (pre l i))])]) (fun i=>i ≤ 10) (fun i=>11 - i) 0 (by omega) (by rfl) (by rw [pre_zero hs.s];rfl) (fun i hi=>?_)
 have hs1 : s < 1024:=by
  have:=bits_lt (n:=10) hs.b (fun x hx=>by have:=(hs.s.mem x hx).2;omega)
  simpa using this
 obtain ⟨q,hq⟩ : ∃ q,q = s / 2 ^ i:=⟨_,rfl⟩
 have e1:=shrS s (i:=i) (by omega)
 have e2:=andS (s / 2 ^ i) (div_lt64 hs1 i)
 rw [bits_shr hs.b i] at e2
 rw [← hq] at e1 e2
 have e4:=pre_succ (i:=i) hs.s
 (refine sy1 ?_;try exact tTI)
 (refine gof e1 ?_;try exact tTI)
 refine W_cond (by rfl) (fun hb=>?_) (fun hb=>?_)
 ·have hi10 : i < 10:=bits_more hs.b (by rw [← hq];intro z;rw [z] at hb;simp at hb) (fun x hx=>by have:=(hs.s.mem x hx).2;omega)
  by_cases hm : (i : Int) ∈ l
  ·rw [if_pos hm] at e2 e4
   have e2 : bits .and .u64 (q : Int) 1 = 1:=e2
   have hir:=hs.s.mem _ hm
   have ec : costL m (pre l (i + 1)) = costL m (pre l i) + (gw m i).c:=by rw [e4,costL_snoc];rfl
   have hcr:=costL_rng h (l:=pre l i) (fun x hx=>hs.s.mem x (pre_mem hx))
   have hlen : (pre l i).length ≤ 10:=by
    have h1:=hs.s.len (by omega)
    have h2:=List.length_filter_le (fun x=>decide (x < (i : Int))) l
    unfold pre
    omega
   have hwc:=(workB_ok (h.w i (by omega))).c
   have hgw : m.ws.getD i dW = gw m i:=rfl
   generalize costL m (pre l i) = C at *
   (refine gof (ad2 e1 e2) ?_;try exact tTI)
   refine StopC.yld (fun hpc=>⟨trivial,Yl_of_W (k:=6) mixed hR rfl rfl rfl (fun vs2=>?_)⟩) (fun hpc=>absurd (by simp [Sy.pc]) hpc)
   (refine sy1 ?_;try exact tTI)
   (refine go0 ?_;try exact tTI)
   refine ⟨_,rfl,?_⟩
   (refine sy1 ?_;try exact tTI)
   (refine gof hgw ?_;try exact tTI)
   refine ⟨_,_,rfl,rfl,?_⟩
   (refine sy1 ?_;try exact tTI)
   (refine go0 ?_;try exact tTI)
   refine W_cond (by rfl) (fun h=>by cases h) (fun _=>?_)
   (refine go0 ?_;try exact tTI)
   refine ⟨i + 1,by omega,by omega,by rfl,?_⟩
   rw [ec]
   (refine syE ?_;try exact tTI)
  ·rw [if_neg hm] at e2 e4
   have e2 : bits .and .u64 (q : Int) 1 = 0:=e2
   have z01 : ((0 : Int) == 1) = false:=rfl
   (refine gof (ad3 e1 e2 z01) ?_;try exact tTI)
   refine StopC.yld (fun hpc=>absurd hpc (by simp [Sy.pc])) (fun hpc=>?_)
   (refine sy1 ?_;try exact tTI)
   (refine go0 ?_;try exact tTI)
   refine W_cond (by rfl) (fun h=>by cases h) (fun _=>?_)
   (refine go0 ?_;try exact tTI)
   refine ⟨i + 1,by omega,by omega,by rfl,?_⟩
   rw [e4,List.append_nil]
   (refine syE ?_;try exact tTI)
 ·have hq0 : s / 2 ^ i = 0:=by
   rw [← hq]
   have:=bne_eq_false_iff_eq.1 hb
   omega
  have hall:=pre_all (bits_end hs.b (fun x hx=>(hs.s.mem x hx).1) hq0)
  rw [hall]
  (refine go0 ?_;try exact tTI)
  refine ⟨_,_,rfl,rfl,⟨_,_,rfl,by rw [hR.st];simp,?_⟩⟩
  rw [hR.pe]
  (refine syN ?_;try exact tTI)
  (refine go0 ?_;try exact tTI)
  exact W_ret ⟨[_],⟨rfl,rfl⟩,rfl⟩
theorem fn274 (m : Mp) (f : Nat → Int) (l : List Int) (s : Nat) (road k : Nat) (h : OkM m) (hs : SetW m l s) (hr : road < m.rs.length) (hk : k < 6) : Sy.Fn Tryz.prog 274 [aAt m f,uv s,iv road,iv k] (iv (limL m l road k)):=by
 refine Fn_of_W mixed Xt274 rfl ?_
 have hw:=h.nw
 have hs1 : s < 1024:=by
  have:=bits_lt (n:=10) hs.b (fun x hx=>by have:=(hs.s.mem x hx).2;omega)
  simpa using this
 have hlim : nth (cR (gr m road)) (6 + k) = iv ((gr m road).lim k):=by
  rcases k with _ | _ | _ | _ | _ | _ | k <;> first | rfl | omega
 have hgr : m.rs.getD road dR = gr m road:=rfl
 repeat' (first | refine w1g ?_ | refine w1l ?_ | refine w1q ?_ | refine w1b ?_ | refine w1p ?_ | ((first | refine w1r ?_ | refine w1k ?_ | refine w1e ?_ | refine CallC.now (fn194 s) ?_);simp (maxSteps:=400000) (disch:=omega) only [push_cast,↓reduceIte,reduceCtorEq,Nat.reduceAdd,Nat.reduceSub,Nat.reduceEqDiff,Nat.reduceLeDiff,Nat.reduceLT,Nat.reduceBEq,Nat.reduceDiv,Nat.reduceMod,Nat.reducePow,Nat.reduceMul,Int.reduceToNat,Int.reduceLT,Int.reduceLE,hgr,hlim,Nat.mul_one,Nat.add_assoc]) | refine an2 ?_ | fail)
 refine W_rfn (.inl rfl) (fun lp R hR=>Inl_of_W mixed Xt243 rfl (fun vs=>?_))
 (refine sy1 ?_;try exact tTI)
 (refine go0 ?_;try exact tTI)
 refine W_loopU (fun i : Nat=>[(3,iv i)]) (fun i=>[(13,.cells [iv (limL m (pre l i) road k)])]) (fun i=>i ≤ 10) (fun i=>11 - i) 0 (by omega) (by rfl) (by rw [pre_zero hs.s];rfl) (fun i hi=>?_)
 obtain ⟨q,hq⟩ : ∃ q,q = s / 2 ^ i:=⟨_,rfl⟩
 have e1:=shrS s (i:=i) (by omega)
 have e2:=andS (s / 2 ^ i) (div_lt64 hs1 i)
 rw [bits_shr hs.b i] at e2
 rw [← hq] at e1 e2
 have e4:=pre_succ (i:=i) hs.s
 (refine sy1 ?_;try exact tTI)
 (refine gof e1 ?_;try exact tTI)
 refine W_cond (by rfl) (fun hb=>?_) (fun hb=>?_)
 ·have hi10 : i < 10:=bits_more hs.b (by rw [← hq];intro z;rw [z] at hb;simp at hb) (fun x hx=>by have:=(hs.s.mem x hx).2;omega)
  by_cases hm : (i : Int) ∈ l
  ·rw [if_pos hm] at e2 e4
   have e2 : bits .and .u64 (q : Int) 1 = 1:=e2
   have hir:=hs.s.mem _ hm
   have ec : limL m (pre l (i + 1)) road k = limS m road k (limL m (pre l i) road k) i:=by rw [e4,limL_snoc]
   have es : ∀ n : Int,limS m road k n i = if (gw m i).k = k ∧ (road : Int) ∈ (gw m i).rs then max n (gw m i).l else n:=fun _=>rfl
   have hgw : m.ws.getD i dW = gw m i:=rfl
   have hwl:=h.s i (by omega)
   have c300:=fn300 (gw m i).rs (road : Int) (by omega)
   rw [es] at ec
   generalize limL m (pre l i) road k = C at *
   generalize gw m i = w at *
   (refine gof (ad2 e1 e2) ?_;try exact tTI)
   refine StopC.yld (fun hpc=>⟨trivial,Yl_of_W (k:=17) mixed hR rfl rfl rfl (fun vs2=>?_)⟩) (fun hpc=>absurd (by simp [Sy.pc]) hpc)
   (refine sy1 ?_;try exact tTI)
   (refine go0 ?_;try exact tTI)
   refine ⟨_,rfl,?_⟩
   (refine sy1 ?_;try exact tTI)
   (refine gofg hgw c300 ?_;try exact tTI)
   refine W_cond (by rfl) (fun hz=>?_) (fun hz=>?_)
   ·rw [Bool.and_eq_true,beq_iff_eq,decide_eq_true_eq] at hz
    rw [if_pos hz] at ec
    (refine go0 ?_;try exact tTI)
    refine ⟨_,_,rfl,rfl,?_⟩
    (refine sy1 ?_;try exact tTI)
    (refine go0 ?_;try exact tTI)
    refine W_cond (by rfl) (fun h=>by cases h) (fun _=>?_)
    (refine go0 ?_;try exact tTI)
    refine ⟨i + 1,by omega,by omega,by rfl,?_⟩
    rw [ec]
    (refine syE ?_;try exact tTI)
   ·have hz : ¬ (w.k = k ∧ (road : Int) ∈ w.rs):=by
     rintro ⟨z1,z2⟩
     rw [z1,decide_eq_true z2] at hz
     simp at hz
    rw [if_neg hz] at ec
    (refine go0 ?_;try exact tTI)
    refine ⟨_,_,rfl,rfl,?_⟩
    (refine sy1 ?_;try exact tTI)
    (refine go0 ?_;try exact tTI)
    refine W_cond (by rfl) (fun h=>by cases h) (fun _=>?_)
    (refine go0 ?_;try exact tTI)
    refine ⟨i + 1,by omega,by omega,by rfl,?_⟩
    rw [ec]
    (refine syE ?_;try exact tTI)
  ·rw [if_neg hm] at e2 e4
   have e2 : bits .and .u64 (q : Int) 1 = 0:=e2
   have z01 : ((0 : Int) == 1) = false:=rfl
   (refine gof (ad3 e1 e2 z01) ?_;try exact tTI)
   refine StopC.yld (fun hpc=>absurd hpc (by simp [Sy.pc])) (fun hpc=>?_)
   (refine sy1 ?_;try exact tTI)
   (refine go0 ?_;try exact tTI)
   refine W_cond (by rfl) (fun h=>by cases h) (fun _=>?_)
   (refine go0 ?_;try exact tTI)
   refine ⟨i + 1,by omega,by omega,by rfl,?_⟩
   rw [e4,List.append_nil]
   (refine syE ?_;try exact tTI)
 ·have hq0 : s / 2 ^ i = 0:=by
   rw [← hq]
   have:=bne_eq_false_iff_eq.1 hb
   omega
  have hall:=pre_all (bits_end hs.b (fun x hx=>(hs.s.mem x hx).1) hq0)
  rw [hall]
  (refine go0 ?_;try exact tTI)
  refine ⟨_,_,rfl,rfl,⟨_,_,rfl,by rw [hR.st];simp,?_⟩⟩
  rw [hR.pe]
  (refine syN ?_;try exact tTI)
  (refine go0 ?_;try exact tTI)
  exact W_ret ⟨[_],⟨rfl,rfl⟩,rfl⟩
theorem fn244 (m : Mp) (f : Nat → Int) (s : Nat) (road : Int) : Sy.Fn Tryz.prog 244 [aAt m f,uv s,iv road] (.clo 273 [] [.fp (cAt m f) 0,.fp [uv s] 0,.fp [iv road] 0]):=by
 refine Fn_of_W mixed Xt244 rfl ?_
 (refine go0 ?_;try exact tTI)
 exact W_ret ⟨[_],⟨rfl,rfl⟩,rfl⟩
theorem fn197 (m : Mp) (f : Nat → Int) (l : List Int) (s : Nat) (road : Nat) (h : OkM m) (hs : SetW m l s) (hr : road < m.rs.length) : Sy.Fn Tryz.prog 197 [aAt m f,uv s,iv road] (bv (usB m f l road)):=by
 refine Fn_of_W mixed Xt197 rfl ?_
 (refine go_c (fn244 m f s road) ?_;try exact tTI)
 refine W_rfn (.inl rfl) (fun lp R hR=>Inl_of_W mixed Xt273 rfl (fun vs=>?_))
 (refine sy1 ?_;try exact tTI)
 (refine go0 ?_;try exact tTI)
 refine W_loopU (fun k : Nat=>[(10,iv k)]) (fun k=>[]) (fun k=>k ≤ 6 ∧ ∀ j,j < k → f j ≤ limL m l road j) (fun k=>6 - k) 0 ⟨by omega,fun j hj=>by omega⟩ (by rfl) (by rfl) (fun k hk=>?_)
 obtain ⟨hk,hall⟩:=hk
 (refine sy1 ?_;try exact tTI)
 (refine go0 ?_;try exact tTI)
 refine W_condD (by rfl) (fun h5=>?_) (fun h5=>?_)
 ·have hk6 : k < 6:=by omega
  have c274:=fn274 m f l s road k h hs hr hk6
  have us : limL m l road k < f k → usB m f l road = false:=fun q=>by
   rw [← Bool.not_eq_true]
   intro z
   have:=usN_iff.1 z k hk6
   omega
  obtain ⟨n,hnl⟩ : ∃ n,n = limL m l road k:=⟨_,rfl⟩
  rw [← hnl] at c274 us
  by_cases q : n < f k
  ·have qb : decide (n < f k) = true:=decide_eq_true q
   (refine gofc (ad3 Nat.mul_one Nat.zero_add qb) c274 ?_;try exact tTI)
   refine StopC.yld (fun hpc=>⟨trivial,Yl_of_W (k:=6) mixed hR rfl rfl rfl (fun vs2=>?_)⟩) (fun hpc=>absurd (by simp [Sy.pc]) hpc)
   refine W_skip ?_
   refine ⟨_,rfl,?_⟩
   (refine sy1 ?_;try exact tTI)
   (refine go0 ?_;try exact tTI)
   refine W_ret ?_
   refine ⟨_,_,rfl,rfl,?_⟩
   (refine sy1 ?_;try exact tTI)
   (refine go0 ?_;try exact tTI)
   refine W_cond (by rfl) (fun _=>?_) (fun h=>by cases h)
   (refine go0 ?_;try exact tTI)
   refine W_ret ?_
   refine ⟨_,_,rfl,rfl,⟨_,_,rfl,by simp [doneL],?_⟩⟩
   rw [us q]
   simp (maxSteps:=400000) (disch:=omega) only [push_cast,↓reduceIte,reduceCtorEq,Nat.reduceAdd,Nat.reduceSub,Nat.reduceEqDiff,Nat.reduceLeDiff,Nat.reduceLT,Nat.reduceBEq,Nat.reduceDiv,Nat.reduceMod,Nat.reducePow,Nat.reduceMul,Int.reduceToNat,Int.reduceLT,Int.reduceLE,doneL,EndP]
   exact ⟨[_],⟨⟨by simp,rfl⟩,rfl⟩,rfl⟩
  ·have qb : decide (n < f k) = false:=decide_eq_false q
   (refine gofc (ad3 Nat.mul_one Nat.zero_add qb) c274 ?_;try exact tTI)
   refine StopC.yld (fun hpc=>absurd hpc (by simp [Sy.pc])) (fun hpc=>?_)
   (refine sy1 ?_;try exact tTI)
   (refine go0 ?_;try exact tTI)
   refine W_cond (by rfl) (fun h=>by cases h) (fun _=>?_)
   (refine go0 ?_;try exact tTI)
   refine ⟨k + 1,⟨by omega,up_all hall (by rw [← hnl];omega)⟩,by omega,by rfl,?_⟩
   (refine syE ?_;try exact tTI)
 ·have e : usB m f l road = true:=usN_iff.2 (fun j hj=>hall j (by omega))
  rw [e]
  (refine go0 ?_;try exact tTI)
  refine ⟨_,_,rfl,rfl,⟨_,_,rfl,by rw [hR.st];simp,?_⟩⟩
  rw [hR.pe]
  (refine syN ?_;try exact tTI)
  (refine go0 ?_;try exact tTI)
  exact W_ret ⟨[_],⟨⟨by simp,rfl⟩,rfl⟩,rfl⟩
theorem fn191 (m : Mp) (f : Nat → Int) (s : Nat) : Sy.Fn Tryz.prog 191 [aAt m f,uv s] (.clo 241 [] [.fp (cAt m f) 0,.fp [uv s] 0]):=by
 refine Fn_of_W mixed Xt191 rfl ?_
 (refine go0 ?_;try exact tTI)
 exact W_ret ⟨[_],⟨rfl,rfl⟩,rfl⟩
theorem fn241 (m : Mp) (f : Nat → Int) (l : List Int) (s : Nat) (road : Nat) (h : OkM m) (hs : SetW m l s) (hr : road < m.rs.length) : Sy.Fn Tryz.prog 241 [iv road,.fp (cAt m f) 0,.fp [uv s] 0] (iv (edB m (usB m f l) road).c):=by
 refine Fn_of_W mixed Xt241 rfl ?_
 have hgr : m.rs.getD road dR = gr m road:=rfl
 have e : (edB m (usB m f l) road).c = if usB m f l road = true then (gr m road).c else -1:=rfl
 rw [e]
 (refine go_c (fn197 m f l s road h hs hr) ?_;try exact tTI)
 cases usB m f l road
 ·refine W_cond (by rfl) (fun _=>?_) (fun h=>by cases h)
  (refine go0 ?_;try exact tTI)
  exact W_ret ⟨[_],⟨rfl,rfl⟩,rfl⟩
 ·refine W_cond (by rfl) (fun h=>by cases h) (fun _=>?_)
  (refine gof hgr ?_;try exact tTI)
  exact W_ret ⟨[_],⟨rfl,rfl⟩,rfl⟩
def tbl (n : Nat) (g : Nat → Int) : List Int:=(List.range n).map g
theorem tbl_len (n : Nat) (g : Nat → Int) : (tbl n g).length = n:=by simp [tbl]
theorem tbl_at {n j : Nat} (g : Nat → Int) (h : j < n) : (tbl n g).getD j 0 = g j:=by simp [tbl,List.getD,h]
theorem tbl_congr {n : Nat} {g h : Nat → Int} (hh : ∀ i,i < n → g i = h i) : tbl n g = tbl n h:=List.map_congr_left (fun i hi=>hh i (List.mem_range.1 hi))
theorem tbl_set {n j : Nat} {g h : Nat → Int} {v : Int} (hj : h j = v) (hh : ∀ i,i < n → i ≠ j → g i = h i) : (tbl n g).set j v = tbl n h:=by
 apply List.ext_getElem (by rw [List.length_set,tbl_len,tbl_len])
 intro i h1 h2
 rw [tbl_len] at h2
 rw [List.getElem_set]
 split
 ·rename_i q;subst q;rw [← hj];simp [tbl]
 ·rename_i q
  simp only [tbl,List.getElem_map,List.getElem_range]
  exact hh i h2 (fun e=>q e.symm)
theorem tbl_rep (n : Nat) (v : Int) : tbl n (fun _=>v) = List.replicate n v:=by
 unfold tbl
 rw [List.eq_replicate_iff]
 refine ⟨by simp,fun b hb=>?_⟩
 obtain ⟨i,_,rfl⟩:=List.mem_map.1 hb
 rfl
def upT (g : Nat → Int) (j i : Nat) : Int:=if i < j then g i else 0
theorem upT_zero (g : Nat → Int) (n : Nat) : tbl n (upT g 0) = List.replicate n 0:=by
 rw [← tbl_rep]
 exact tbl_congr (fun i _=>by unfold upT;rw [if_neg (by omega)])
theorem upT_set (g : Nat → Int) {j n : Nat} : (tbl n (upT g j)).set j (g j) = tbl n (upT g (j + 1)):=tbl_set (by unfold upT;rw [if_pos (by omega)]) (fun i _ hi=>by
 unfold upT
 by_cases r : i < j
 ·rw [if_pos r,if_pos (by omega)]
 ·rw [if_neg r,if_neg (by omega)])
theorem upT_all (g : Nat → Int) (n : Nat) : tbl n (upT g n) = tbl n g:=tbl_congr (fun i hi=>by unfold upT;rw [if_pos hi])
def edC (m : Mp) (bk : Bool) (c : Nat → Int) (i : Nat) : Edg:=if bk = true then ⟨(gr m i).t.toNat,(gr m i).f.toNat,c i⟩ else ⟨(gr m i).f.toNat,(gr m i).t.toNat,c i⟩
def edgC (m : Mp) (bk : Bool) (c : Nat → Int) : List Edg:=(List.range m.rs.length).map (edC m bk c)
theorem edgC_ok {m : Mp} (h : OkM m) (bk : Bool) {c : Nat → Int} (hc : ∀ i,i < m.rs.length → 0 ≤ c i → 1 ≤ c i) : (∀ e ∈ edgC m bk c,e.x < m.n.toNat ∧ e.y < m.n.toNat) ∧ ∀ e ∈ edgC m bk c,0 ≤ e.c → 1 ≤ e.c:=by
 constructor
 ·intro e he
  obtain ⟨i,hi,rfl⟩:=List.mem_map.1 he
  have hr:=roadB_ok (h.r i (List.mem_range.1 hi))
  have:=hr.f
  have:=hr.t
  unfold edC
  split
  ·constructor
   ·show (gr m i).t.toNat < _;omega
   ·show (gr m i).f.toNat < _;omega
  ·constructor
   ·show (gr m i).f.toNat < _;omega
   ·show (gr m i).t.toNat < _;omega
 ·intro e he h0
  obtain ⟨i,hi,rfl⟩:=List.mem_map.1 he
  have hi:=List.mem_range.1 hi
  have e : (edC m bk c i).c = c i:=by unfold edC;split <;> rfl
  rw [e] at h0 ⊢
  exact hc i hi h0
theorem take_edC {m : Mp} {bk : Bool} {c : Nat → Int} {i : Nat} (h : i < m.rs.length) : (edgC m bk c).take (i + 1) = (edgC m bk c).take i ++ [edC m bk c i]:=by
 rw [List.take_succ_eq_append_getElem (by simp [edgC];exact h)]
 simp [edgC]
theorem pas_snoc (o : List Int) (es : List Edg) (e : Edg) : pas o (es ++ [e]) = stp (pas o es) e:=by
 unfold pas
 rw [List.foldl_append];rfl
def dstC (m : Mp) (bk : Bool) (c : Nat → Int) (a : Int) : List Int:=dst (edgC m bk c) m.n.toNat a.toNat
theorem w190 (m : Mp) (f : Nat → Int) (a : Int) (bk : Bool) (g : Nat) (fi ca : List AV) (c : Nat → Int) (h : OkM m) (ha : 0 ≤ a ∧ a < m.n) (hc : ∀ i,i < m.rs.length → 0 ≤ c i → 1 ≤ c i) (hcb : ∀ i,i < m.rs.length → -1099511627776 ≤ c i ∧ c i ≤ 1099511627776)
  (hg : ∀ i,i < m.rs.length → Sy.Fn Tryz.prog g (fi ++ [iv (i : Nat)] ++ ca) (iv (c i))) : W Tryz.prog 102 Xn190_0 (init [aAt m f,iv a,bv bk,.clo g fi ca]) (FinO [.t 8] 2 1 0 cI (dstC m bk c a)):=by
 have hn:=h.n
 have hnr:=h.nr
 obtain ⟨n,hnn⟩ : ∃ n : Nat,m.n = n:=⟨m.n.toNat,by omega⟩
 (refine gof hnn ?_;try exact tTI)
 refine ⟨rfl,⟨by omega,by omega,by omega⟩,Int,0,cI,0,rfl,rfl,by omega,rfl,?_⟩
 (refine syf Int.toNat_natCast ?_;try exact tTI)
 repeat' (first | refine w1g ?_ | refine w1l ?_ | refine w1q ?_ | refine w1b ?_ | refine w1p ?_ | ((first | refine w1r ?_ | refine w1k ?_ | refine w1e ?_);simp (maxSteps:=400000) (disch:=omega) only [push_cast,↓reduceIte,reduceCtorEq,Nat.reduceAdd,Nat.reduceSub,Nat.reduceEqDiff,Nat.reduceLeDiff,Nat.reduceLT,Nat.reduceBEq,Nat.reduceDiv,Nat.reduceMod,Nat.reducePow,Nat.reduceMul,Int.reduceToNat,Int.reduceLT,Int.reduceLE,List.length_replicate]) | refine an2 ?_ | fail)
 refine W_loopU (fun j : Nat=>[(25,iv j)]) (fun j=>[(5,.row 0 2 1 0 cI (tbl n (upT (fun _=>far) j)))]) (fun j=>j ≤ n) (fun j=>n - j) 0 (by omega) (by rfl) (by rw [upT_zero];rfl) (fun j hj=>?_)
 have tl:=tbl_len n (upT (fun _=>far) j)
 (refine sy1 ?_;try exact tTI)
 (refine go0 ?_;try exact tTI)
 refine W_condD (by rfl) (fun h5=>?_) (fun h5=>?_)
 ·have e3:=upT_set (fun _=>far) (j:=j) (n:=n)
  (refine gof tl ?_;try exact tTI)
  refine ⟨rfl,⟨Nat.le_of_ble_eq_true rfl,rfl⟩,by omega,far,rfl,rfl,?_⟩
  rw [e3]
  (refine sy1 ?_;try exact tTI)
  (refine go0 ?_;try exact tTI)
  refine ⟨j + 1,by omega,by omega,by rfl,?_⟩
  (refine syE ?_;try exact tTI)
 have hjn : j = n:=by omega
 subst hjn
 have ea : (a.toNat : Int) = a:=by omega
 have ei : (tbl j (upT (fun _=>far) j)).set a.toNat 0 = ini j a.toNat:=by rw [upT_all,tbl_rep];rfl
 (refine gof tl ?_;try exact tTI)
 refine ⟨rfl,⟨Nat.le_of_ble_eq_true rfl,rfl⟩,by omega,0,rfl,rfl,?_⟩
 rw [ei]
 (refine sy1 ?_;try exact tTI)
 (refine go0 ?_;try exact tTI)
 refine ⟨rfl,⟨by omega,by omega,by omega⟩,Int,0,cI,0,rfl,rfl,by omega,rfl,?_⟩
 (refine syf Int.toNat_natCast ?_;try exact tTI)
 repeat' (first | refine w1g ?_ | refine w1l ?_ | refine w1q ?_ | refine w1b ?_ | refine w1p ?_ | ((first | refine w1r ?_ | refine w1k ?_ | refine w1e ?_);simp (maxSteps:=400000) (disch:=omega) only [push_cast,↓reduceIte,reduceCtorEq,Nat.reduceAdd,Nat.reduceSub,Nat.reduceEqDiff,Nat.reduceLeDiff,Nat.reduceLT,Nat.reduceBEq,Nat.reduceDiv,Nat.reduceMod,Nat.reducePow,Nat.reduceMul,Int.reduceToNat,Int.reduceLT,Int.reduceLE,List.length_replicate]) | refine an2 ?_ | fail)
 refine W_loopU (fun i : Nat=>[(42,iv i)]) (fun i=>[(19,.row 0 2 1 0 cI (tbl m.rs.length (upT c i)))]) (fun i=>i ≤ m.rs.length) (fun i=>m.rs.length - i) 0 (by omega) (by rfl) (by rw [upT_zero];rfl) (fun i hi=>?_)
 have tc:=tbl_len m.rs.length (upT c i)
 (refine sy1 ?_;try exact tTI)
 (refine go0 ?_;try exact tTI)
 refine W_condD (by rfl) (fun h6=>?_) (fun h6=>?_)
 ·have hlt : i < m.rs.length:=by omega
  have e3:=upT_set c (j:=i) (n:=m.rs.length)
  have cg:=hg i hlt
  (refine gofc tc cg ?_;try exact tTI)
  refine ⟨rfl,⟨Nat.le_of_ble_eq_true rfl,rfl⟩,by omega,c i,rfl,rfl,?_⟩
  rw [e3]
  (refine sy1 ?_;try exact tTI)
  (refine go0 ?_;try exact tTI)
  refine ⟨i + 1,by omega,by omega,by rfl,?_⟩
  (refine syE ?_;try exact tTI)
 have hin : i = m.rs.length:=by omega
 rw [hin,upT_all]
 clear tc tl ei h5 hj h6 hi
 obtain ⟨es,hes⟩ : ∃ es,es = edgC m bk c:=⟨_,rfl⟩
 obtain ⟨k1,k2⟩:=edgC_ok h bk hc
 rw [← hes,hnn,Int.toNat_natCast] at k1
 rw [← hes] at k2
 have hsj : a.toNat < j:=by omega
 have hres : dstC m bk c a = dst es j a.toNat:=by unfold dstC;rw [← hes,hnn,Int.toNat_natCast]
 rw [hres]
 (refine go0 ?_;try exact tTI)
 refine W_loopU (fun u : List Int × Bool=>[(13,bv u.2)]) (fun u=>[(5,.row 0 2 1 0 cI u.1)]) (fun u=>Dst es a.toNat j u.1 ∧ (u.2 = false → ∀ e ∈ es,stp u.1 e = u.1)) (fun u=>2 * (tot u.1).toNat + (if u.2 = true then 1 else 0)) (ini j a.toNat,true) ⟨ini_dst hsj,fun q=>by cases q⟩ (by rfl) (by rfl) (fun u hu=>?_)
 obtain ⟨o,ch⟩:=u
 obtain ⟨hd,hch⟩:=hu
 dsimp only at hd hch ⊢
 have lo:=hd.len
 have gI : ∀ (l : List Int) i,l.getD i 0 = gi l i:=fun _ _=>rfl
 (refine sy1 ?_;try exact tTI)
 (refine go0 ?_;try exact tTI)
 refine W_cond (by rfl) (fun hb=>?_) (fun hb=>?_)
 ·subst hb
  (refine go0 ?_;try exact tTI)
  refine W_loopU (fun v : Nat × Bool=>[(13,bv v.2),(57,iv v.1)]) (fun v=>[(5,.row 0 2 1 0 cI (pas o (es.take v.1)))]) (fun v=>v.1 ≤ m.rs.length ∧ (v.2 = true → tot (pas o (es.take v.1)) < tot o) ∧ (v.2 = false → ∀ e ∈ es.take v.1,stp o e = o)) (fun v=>m.rs.length - v.1) (0,false) ⟨Nat.zero_le _,(fun q=>absurd q (by decide)),fun _ e he=>by rw [List.take_zero] at he;cases he⟩ (by rfl) (by rfl) (fun v hv=>?_)
  obtain ⟨i,cv⟩:=v
  obtain ⟨hi,hv1,hv2⟩:=hv
  dsimp only at hi hv1 hv2 ⊢
  (refine sy1 ?_;try exact tTI)
  (refine go0 ?_;try exact tTI)
  refine W_condD (by rfl) (fun h6=>?_) (fun h6=>?_)
  ·have hlt : i < m.rs.length:=by omega
   have hgr : m.rs.getD i dR = gr m i:=rfl
   have e3 : es.take (i + 1) = es.take i ++ [edC m bk c i]:=by rw [hes];exact take_edC hlt
   have e4 : pas o (es.take (i + 1)) = stp (pas o (es.take i)) (edC m bk c i):=by rw [e3,pas_snoc]
   have hci:=tbl_at c hlt
   have hcb:=hcb i hlt
   repeat' (first | refine w1g ?_ | refine w1l ?_ | refine w1q ?_ | refine w1b ?_ | refine w1p ?_ | ((first | refine w1r ?_ | refine w1k ?_ | refine w1e ?_);simp (maxSteps:=400000) (disch:=omega) only [push_cast,↓reduceIte,reduceCtorEq,Nat.reduceAdd,Nat.reduceSub,Nat.reduceEqDiff,Nat.reduceLeDiff,Nat.reduceLT,Nat.reduceBEq,Nat.reduceDiv,Nat.reduceMod,Nat.reducePow,Nat.reduceMul,Int.reduceToNat,Int.reduceLT,Int.reduceLE,hgr,hci,tbl_len]) | refine an2 ?_ | fail)
   have hdu:=pas_dst k1 (es.take i) o (fun e he=>List.mem_of_mem_take he) hd
   have hel : edC m bk c i ∈ es:=by rw [hes];exact List.mem_map.2 ⟨i,List.mem_range.2 hlt,rfl⟩
   obtain ⟨X,hX⟩ : ∃ X,X = if bk = true then (gr m i).t else (gr m i).f:=⟨_,rfl⟩
   obtain ⟨Y,hY⟩ : ∃ Y,Y = if bk = true then (gr m i).f else (gr m i).t:=⟨_,rfl⟩
   have hr:=roadB_ok (h.r i hlt)
   have hXr : 0 ≤ X ∧ X < j:=by have:=hr.f;have:=hr.t;rw [hX];split <;> omega
   have hYr : 0 ≤ Y ∧ Y < j:=by have:=hr.f;have:=hr.t;rw [hY];split <;> omega
   have hex : (edC m bk c i).x = X.toNat:=by unfold edC;rw [hX];split <;> rfl
   have hey : (edC m bk c i).y = Y.toNat:=by unfold edC;rw [hY];split <;> rfl
   have hec : (edC m bk c i).c = c i:=by unfold edC;split <;> rfl
   have htk : ∀ e ∈ es.take (i + 1),e ∈ es.take i ∨ e = edC m bk c i:=fun e he=>by
    rw [e3] at he
    rcases List.mem_append.1 he with he | he
    ·exact .inl he
    ·exact .inr (List.mem_singleton.1 he)
   have hsame : cv = false → pas o (es.take i) = o:=fun q=>pas_same _ _ (hv2 q)
   generalize edC m bk c i = e at *
   have hst : ∀ z,stp z e = if 0 ≤ c i ∧ gi z X.toNat < far ∧ gi z X.toNat + c i < gi z Y.toNat then z.set Y.toNat (gi z X.toNat + c i) else z:=fun z=>by unfold stp;rw [hec,hex,hey]
   have hux:=hdu.le (y:=X.toNat) (by omega)
   have huy:=hdu.le (y:=Y.toNat) (by omega)
   have hux2 : gi (pas o (es.take i)) X.toNat ≤ 1125899906842624:=hux.2
   have huy2 : gi (pas o (es.take i)) Y.toNat ≤ 1125899906842624:=huy.2
   have hlu:=hdu.len
   have htot:=stp_tot (pas o (es.take i)) e (by rw [hey];omega)
   have hto:=pas_tot (es.take i) o (fun e he=>by rw [lo];exact (k1 e (List.mem_of_mem_take he)).2)
   generalize pas o (es.take i) = u at *
   refine W_condD (by rfl) (fun h7=>?_) (fun h7=>?_)
   ·have hz : ∀ z,stp z e = z:=fun z=>by rw [hst,if_neg (by omega)]
    (refine go0 ?_;try exact tTI)
    refine ⟨(i + 1,cv),⟨by dsimp only;omega,fun q=>by dsimp only at q ⊢;rw [e4,hz];exact hv1 q,fun q e' he'=>?_⟩,by dsimp only;omega,by rfl,?_⟩
    ·rcases htk e' he' with he' | rfl
     ·exact hv2 q e' he'
     ·exact hz o
    dsimp only
    rw [e4,hz]
    (refine syE ?_;try exact tTI)
   (refine go0 ?_;try exact tTI)
   refine W_meet [(16,iv X),(17,iv Y)] [] ?_ ?_
   ·refine W_cond (by rfl) (fun hb=>?_) (fun hb=>?_)
    ·rw [hX,hY,hb,if_pos rfl,if_pos rfl]
     (refine go0 ?_;try exact tTI)
     first | exact ⟨rfl,by rfl⟩ | rfl
    ·rw [hX,hY,hb,if_neg (by decide),if_neg (by decide)]
     (refine go0 ?_;try exact tTI)
     first | exact ⟨rfl,by rfl⟩ | rfl
   (refine sy1 ?_;try exact tTI)
   repeat' (first | refine w1g ?_ | refine w1l ?_ | refine w1q ?_ | refine w1b ?_ | refine w1p ?_ | ((first | refine w1r ?_ | refine w1k ?_ | refine w1e ?_);simp (maxSteps:=400000) (disch:=omega) only [push_cast,↓reduceIte,reduceCtorEq,Nat.reduceAdd,Nat.reduceSub,Nat.reduceEqDiff,Nat.reduceLeDiff,Nat.reduceLT,Nat.reduceBEq,Nat.reduceDiv,Nat.reduceMod,Nat.reducePow,Nat.reduceMul,Int.reduceToNat,Int.reduceLT,Int.reduceLE,gI,hci,tbl_len,hlu]) | refine an2 ?_ | fail)
   refine W_cond (by rfl) (fun h8=>?_) (fun h8=>?_)
   ·rw [Bool.and_eq_true,decide_eq_true_eq,decide_eq_true_eq] at h8
    have hs1 : stp u e = u.set Y.toNat (gi u X.toNat + c i):=by rw [hst,if_pos ⟨by omega,h8.1,h8.2⟩]
    have ht1 : tot (stp u e) < tot u:=by
     rcases Int.lt_or_eq_of_le htot.1 with q | q
     ·exact q
     ·have q2:=htot.2 q
      rw [hs1] at q2
      have q3 : gi (u.set Y.toNat (gi u X.toNat + c i)) Y.toNat = gi u Y.toNat:=by rw [q2]
      rw [gi_set (by omega),if_pos rfl] at q3
      omega
    repeat' (first | refine w1g ?_ | refine w1l ?_ | refine w1q ?_ | refine w1b ?_ | refine w1p ?_ | ((first | refine w1r ?_ | refine w1k ?_ | refine w1e ?_);simp (maxSteps:=400000) (disch:=omega) only [push_cast,↓reduceIte,reduceCtorEq,Nat.reduceAdd,Nat.reduceSub,Nat.reduceEqDiff,Nat.reduceLeDiff,Nat.reduceLT,Nat.reduceBEq,Nat.reduceDiv,Nat.reduceMod,Nat.reducePow,Nat.reduceMul,Int.reduceToNat,Int.reduceLT,Int.reduceLE,tbl_len,hlu]) | refine an2 ?_ | fail)
    refine ⟨rfl,⟨Nat.le_of_ble_eq_true rfl,rfl⟩,by omega,gi u X.toNat + c i,rfl,rfl,?_⟩
    rw [← hs1,← e4]
    (refine sy1 ?_;try exact tTI)
    (refine go0 ?_;try exact tTI)
    refine ⟨(i + 1,true),⟨by dsimp only;omega,fun _=>by dsimp only;rw [e4];omega,fun q=>absurd (show true = false from q) (by decide)⟩,by dsimp only;omega,by rfl,?_⟩
    (refine syE ?_;try exact tTI)
   ·have hz : stp u e = u:=by
     rw [hst,if_neg]
     rintro ⟨q1,q2,q3⟩
     have q2 : gi u X.toNat < 1125899906842624:=q2
     rw [decide_eq_true q2,decide_eq_true q3] at h8
     cases h8
    (refine go0 ?_;try exact tTI)
    refine ⟨(i + 1,cv),⟨by dsimp only;omega,fun q=>by dsimp only at q ⊢;rw [e4,hz];exact hv1 q,fun q e' he'=>?_⟩,by dsimp only;omega,by rfl,?_⟩
    ·rcases htk e' he' with he' | rfl
     ·exact hv2 q e' he'
     ·rw [hsame q] at hz
      exact hz
    dsimp only
    rw [e4,hz]
    (refine syE ?_;try exact tTI)
  ·have hin2 : i = m.rs.length:=by omega
   have hall : es.take i = es:=by rw [hin2,hes];exact List.take_of_length_le (by simp [edgC])
   rw [hall] at hv1 hv2 ⊢
   have hdp:=pas_dst k1 es o (fun e he=>he) hd
   have hnn1:=tot_nn (pas o es) (fun q hq=>(hdp.le (by rw [hdp.len] at hq;exact hq)).1)
   (refine go0 ?_;try exact tTI)
   refine ⟨(pas o es,cv),⟨hdp,fun q=>?_⟩,?_,by rfl,?_⟩
   ·dsimp only at q ⊢
    have:=hv2 q
    rw [pas_same es o this]
    exact this
   ·dsimp only
    cases cv with
    |true=>
     have:=hv1 rfl
     simp only [if_true]
     omega
    |false=>
     rw [pas_same es o (hv2 rfl)]
     simp
   (refine syE ?_;try exact tTI)
 ·have hfix:=fix_stp (fun e he=>by rw [lo];exact (k1 e he).2) (hch hb)
  have hfin : o = dst es j a.toNat:=dst_ext k1 hd hfix (dst_dst k1 hsj) (dst_fix k1 k2 hsj)
  rw [← hfin]
  (refine go0 ?_;try exact tTI)
  exact W_ret ⟨_,_,⟨rfl,rfl⟩,rfl⟩
theorem fn190 (m : Mp) (f : Nat → Int) (a : Int) (bk : Bool) (g : Nat) (fi ca : List AV) (c : Nat → Int) (h : OkM m) (ha : 0 ≤ a ∧ a < m.n) (hc : ∀ i,i < m.rs.length → 0 ≤ c i → 1 ≤ c i) (hcb : ∀ i,i < m.rs.length → -1099511627776 ≤ c i ∧ c i ≤ 1099511627776)
  (hg : ∀ i,i < m.rs.length → Sy.Fn Tryz.prog g (fi ++ [iv (i : Nat)] ++ ca) (iv (c i))) : Sy.Fn Tryz.prog 190 [aAt m f,iv a,bv bk,.clo g fi ca] (aI (dstC m bk c a)):=by
 exact Fn_of_W mixed Xt190 rfl (W_mono' (w190 m f a bk g fi ca c h ha hc hcb hg) fin_of_finO)
end Go.Proofs.YtgiedelaebdooaaGreat.R
namespace Go.Proofs.YtgiedelaebdooaaGreat.R
set_option linter.unusedVariables false
def msk (l : List Int) : Nat:=l.foldl (fun s x=>s ||| 2 ^ x.toNat) 0
theorem msk_snoc (l : List Int) (i : Nat) : msk (l ++ [(i : Int)]) = msk l ||| 2 ^ i:=by
 unfold msk;rw [List.foldl_append];rfl
theorem msk_aux : ∀ (l p : List Int) (s : Nat),BitsOf s p → (∀ x ∈ l,0 ≤ x) → BitsOf (l.foldl (fun s x=>s ||| 2 ^ x.toNat) s) (p ++ l)
 |[],p,s,h,_=>by simpa using h
 |x :: l,p,s,h,hx=>by
  have h1:=bits_snoc h x.toNat
  have e : ((x.toNat : Nat) : Int) = x:=by have:=hx x List.mem_cons_self;omega
  rw [e] at h1
  have:=msk_aux l _ _ h1 (fun y hy=>hx y (List.mem_cons_of_mem _ hy))
  rwa [List.append_assoc] at this
theorem msk_bits {l : List Int} (h : ∀ x ∈ l,0 ≤ x) : BitsOf (msk l) l:=msk_aux l [] 0 bits_nil h
theorem msk_lt {n : Int} {l : List Int} (h : Srt n 0 l) (hn : n ≤ 10) : msk l < 1024:=by
 have:=bits_lt (n:=10) (msk_bits fun x hx=>(h.mem x hx).1) (fun x hx=>by have:=(h.mem x hx).2;omega)
 simpa using this
def bS : Option (List Int × Int) → Nat
 |none=>0
 |some p=>msk p.1
def bC : Option (List Int × Int) → Int
 |none=>0
 |some p=>p.2
def bF : Option (List Int × Int) → Bool
 |none=>false
 |some _=>true
theorem lstep_no {f : List Int → Int} {ok : List Int → Bool} {b : Option (List Int × Int)} {x : List Int} (h : ok x = false ∨ (bF b = true ∧ bC b ≤ f x)) : lstep f ok b x = b:=by
 unfold lstep
 by_cases q : ok x = true
 ·rw [if_pos q]
  rcases h with h | ⟨h1,h2⟩
  ·rw [q] at h;cases h
  ·cases b with
   |none=>cases h1
   |some p=>
    obtain ⟨y,n⟩:=p
    dsimp only
    rw [if_neg (by show ¬ f x < n;have : bC (some (y,n)) = n:=rfl;omega)]
 ·rw [if_neg q]
theorem lstep_yes {f : List Int → Int} {ok : List Int → Bool} {b : Option (List Int × Int)} {x : List Int} (h : ok x = true) (h2 : bF b = false ∨ f x < bC b) : lstep f ok b x = some (x,f x):=by
 unfold lstep
 rw [if_pos h]
 cases b with
 |none=>rfl
 |some p=>
  obtain ⟨y,n⟩:=p
  rcases h2 with h2 | h2
  ·cases h2
  ·dsimp only
   rw [if_pos (by have : bC (some (y,n)) = n:=rfl;omega)]
end Go.Proofs.YtgiedelaebdooaaGreat.R
namespace Go.Proofs.YtgiedelaebdooaaGreat.R
open Go Sy
set_option maxRecDepth 100000
set_option maxHeartbeats 4000000
set_option linter.unusedVariables false
set_option linter.unusedSimpArgs false
theorem fn188 (n : Int) : Sy.Fn Tryz.prog 188 [iv n] (.clo 239 [] [.fp [iv n] 0]):=by
 refine Fn_of_W mixed Xt188 rfl ?_
 (refine go0 ?_;try exact tTI)
 exact W_ret ⟨[_],⟨rfl,rfl⟩,rfl⟩
theorem shl_one {j : Nat} (h : j ≤ 9) : IntKind.u64.wrap (1 * 2 ^ min j IntKind.u64.bits) = ((2 ^ j : Nat) : Int):=by
 have : j = 0 ∨ j = 1 ∨ j = 2 ∨ j = 3 ∨ j = 4 ∨ j = 5 ∨ j = 6 ∨ j = 7 ∨ j = 8 ∨ j = 9:=by omega
 rcases this with rfl | rfl | rfl | rfl | rfl | rfl | rfl | rfl | rfl | rfl <;> decide
theorem or_msk {x : List Int} {j : Nat} (h : msk x < 1024) (hj : j ≤ 9) : bits .or .u64 (msk x : Int) (IntKind.u64.wrap (1 * 2 ^ min j IntKind.u64.bits)) = (msk (x ++ [(j : Int)]) : Int):=by
 rw [shl_one hj,msk_snoc]
 have : 2 ^ j ≤ 2 ^ 9:=Nat.pow_le_pow_right (by omega) hj
 exact bits_or_u64_nat _ _ (by omega) (by omega)
theorem walk_inl {ι : Type} (n : Nat) (hn : n ≤ 10) (B : ι → Mem) (step : ι → List Int → ι) (N0 kw l : Nat) (hBas : ∀ b,Bas N0 (B b))
  (hW : ∀ b,lm (B b) kw = some (.cells [.cq 240 [] [.fp [yv l] 0,.fp [iv n] 0,.own kw 0]]))
  (HY : ∀ b x,Srt n 0 x → ∀ tm R nx,Opq N0 R nx → Yl Tryz.prog l [uv (msk x)] ⟨tm,B b ++ R,nx⟩ (MidB N0 nx tm R (fun r B'=>r = true ∧ B' = B (step b x)))) :
  ∀ (d i : Nat) (x : List Int),i + d = n → Srt n 0 x → (∀ y ∈ x,y < (i : Int)) → ∀ b tm R nx,Opq N0 R nx →
   Inl Tryz.prog 240 [uv (msk x),iv i,.fp [yv l] 0,.fp [iv n] 0,.own kw 0] ⟨tm,B b ++ R,nx⟩ (MidR N0 nx tm R (fun r B'=>r = bv true ∧ B' = B ((x :: brn d x i).foldl step b))):=by
 intro d
 induction d using Nat.strongRecOn with
 |_ d ih=>
 intro i x hi hx hlt b tm R nx hR
 refine Inl_mid mixed Xt240 rfl hR (hBas b) (fun R' nx' hR'=>?_)
 have hWR : ∀ b,lm (B b ++ R') kw = some (.cells [.cq 240 [] [.fp [yv l] 0,.fp [iv n] 0,.own kw 0]]):=fun b=>by rw [lm_app,hW]
 (refine sy1 ?_;try exact tTI)
 (refine gof hWR ?_;try exact tTI)
 refine StopC.yld (fun hpc=>⟨trivial,Yl_le (HY b x hx _ R' _ (hR'.le (by omega))) (fun r s' hs=>?_)⟩) (fun hpc=>absurd trivial hpc)
 obtain ⟨B',_,⟨rfl,rfl⟩,hl⟩:=hs
 refine ⟨_,?_,hl⟩
 (refine sy1 ?_;try exact tTI)
 (refine gof hWR ?_;try exact tTI)
 refine W_cond (by rfl) (fun h=>by cases h) (fun _=>?_)
 (refine go0 ?_;try exact tTI)
 refine W_loopM (fun u : Nat × ι=>[(8,iv u.1)]) (fun u=>B u.2 ++ R') (fun u=>i ≤ u.1 ∧ u.1 ≤ n ∧ (brn (n - u.1) x u.1).foldl step u.2 = (x :: brn d x i).foldl step b) (fun u=>n - u.1) nx' (fun u _=>hR'.mem (hBas u.2)) (i,step b x) ⟨Nat.le_refl _,by omega,by rw [show n - i = d by omega];rfl⟩ (by rfl) (by rfl) (fun u hu=>?_)
 obtain ⟨j,c⟩:=u
 obtain ⟨h1,h2,h3⟩:=hu
 dsimp only at h1 h2 h3 ⊢
 (refine sy1 ?_;try exact tTI)
 (refine go0 ?_;try exact tTI)
 refine W_condD (by rfl) (fun h5=>?_) (fun h5=>?_)
 ·have e5:=or_msk (j:=j) (msk_lt hx (by omega)) (by omega)
  have hx1 : Srt (n : Int) 0 (x ++ [(j : Int)]):=hx.snoc (by omega) (by omega) (fun y hy=>by have:=hlt y hy;omega)
  have hx2 : ∀ y ∈ x ++ [(j : Int)],y < ((j + 1 : Nat) : Int):=fun y hy=>by
   rcases List.mem_append.1 hy with q | q
   ·have:=hlt y q;omega
   ·rw [List.mem_singleton] at q;omega
  have e6 : ((j + 1 : Nat) : Int) = (j : Int) + 1:=by omega
  obtain ⟨d',hd'⟩ : ∃ d',n - j = d' + 1:=⟨n - j - 1,by omega⟩
  have hI:=ih d' (by omega) (j + 1) (x ++ [(j : Int)]) (by omega) hx1 hx2 c
  rw [e6] at hI
  repeat' (first | refine w1g ?_ | refine w1l ?_ | refine w1q ?_ | refine w1b ?_ | refine w1p ?_ | ((first | refine W_regS 7 (by decide) (by decide) ?_ | refine w1r ?_ | refine w1k ?_ | refine w1e ?_);(refine syf (ad2 hWR e5) ?_;try exact tTI)) | refine an2 ?_ | fail)
  refine CallC.inl (Inl_le' (hI _ R' _ (hR'.le (by omega))) (fun r s2 hs=>?_))
  obtain ⟨B',_,⟨rfl,rfl⟩,hl2⟩:=hs
  refine ⟨_,?_,hl2⟩
  (refine sy1 ?_;try exact tTI)
  (refine gof hWR ?_;try exact tTI)
  refine W_cond (by rfl) (fun h=>by cases h) (fun _=>?_)
  (refine go0 ?_;try exact tTI)
  refine ⟨(j + 1,(((x ++ [(j : Int)]) :: brn d' (x ++ [(j : Int)]) (j + 1)).foldl step c)),⟨by dsimp only;omega,by dsimp only;omega,?_⟩,by dsimp only;omega,by rfl,rfl⟩
  dsimp only
  rw [← h3,hd',show n - (j + 1) = d' by omega]
  simp only [brn,List.foldl_append,List.foldl_cons,List.cons_append]
 ·have e7 : n - j = 0:=by omega
  rw [e7] at h3
  have h3 : c = (x :: brn d x i).foldl step b:=h3
  (refine go0 ?_;try exact tTI)
  refine W_ret ?_
  exact ⟨[_],_,⟨rfl,rfl⟩,rfl,hBas _,rfl,by rw [h3]⟩
def tmL (n g : Nat) (fi ca : List AV) : List (Nat × AV):=[(3,.fp [.clo g fi ca] 0),(4,.own 1 0),(5,.own 2 0),(6,.own 3 0),(10,.clo 239 [] [.fp [iv n] 0])]
def memL (n g : Nat) (fi ca : List AV) (vs : Array Value) (lp : Nat) (R : Loop) (b : Option (List Int × Int)) : Mem:=[(6,.oth (.fr vs (tmL n g fi ca))),(5,.oth (.lp lp R (tmL n g fi ca))),(1,.cells [uv (bS b)]),(2,.cells [iv (bC b)]),(3,.cells [bv (bF b)]),(8,.cells [.cq 240 [] [.fp [yv lp] 0,.fp [iv n] 0,.own 8 0]])]
theorem fn187 (n : Nat) (hn : n ≤ 10) (g : Nat) (fi ca : List AV) (f : List Int → Int) (ok : List Int → Bool) (hf : ∀ x,Srt n 0 x → -1099511627776000 ≤ f x ∧ f x ≤ 11258999068426240)
  (hg : ∀ x,Srt n 0 x → Sy.Fn Tryz.prog g (fi ++ [uv (msk x)] ++ ca) (.tup [iv (f x),bv (ok x)])) : Sy.Fn Tryz.prog 187 [.clo 239 [] [.fp [iv n] 0],.clo g fi ca] (.tup [uv (bS (leastL f ok (setsM n))),iv (bC (leastL f ok (setsM n))),bv (bF (leastL f ok (setsM n)))]):=by
 refine Fn_of_W mixed Xt187 rfl ?_
 (refine go0 ?_;try exact tTI)
 refine W_rfn (.inl rfl) (fun lp R hR=>Inl_of_W mixed Xt239 rfl (fun vs=>?_))
 (refine sy1 ?_;try exact tTI)
 (refine go0 ?_;try exact tTI)
 have HY : ∀ b x,Srt n 0 x → ∀ tm R' nx,Opq 12 R' nx → Yl Tryz.prog lp [uv (msk x)] ⟨tm,memL n g fi ca vs lp R b ++ R',nx⟩ (MidB 12 nx tm R' (fun r B'=>r = true ∧ B' = memL n g fi ca vs lp R (lstep f ok b x))):=fun b x hx tm R' nx hO=>by
  refine Yl_mid mixed (k:=5) (tml:=tmL n g fi ca) hR rfl rfl rfl hO (bas_of rfl) (fun R2 nx2 hO2=>?_)
  have cg:=hg x hx
  unfold memL tmL
  simp (maxSteps:=400000) (disch:=omega) only [push_cast,↓reduceIte,reduceCtorEq,Nat.reduceAdd,Nat.reduceSub,Nat.reduceEqDiff,Nat.reduceLeDiff,Nat.reduceLT,Nat.reduceBEq,Nat.reduceDiv,Nat.reduceMod,Nat.reducePow,Nat.reduceMul,Int.reduceToNat,Int.reduceLT,Int.reduceLE,List.cons_append,List.nil_append]
  (refine go0 ?_;try exact tTI)
  refine ⟨[_,_,_,_,_,_],_,rfl,rfl,?_⟩
  (refine sy1 ?_;try exact tTI)
  (refine go_c cg ?_;try exact tTI)
  refine W_cond (by rfl) (fun hb=>?_) (fun hb=>?_)
  ·have e : lstep f ok b x = some (x,f x):=by
    simp only [Bool.and_eq_true,Bool.or_eq_true,Bool.not_eq_true',decide_eq_true_eq] at hb
    exact lstep_yes hb.1 hb.2
   rw [e]
   (refine go0 ?_;try exact tTI)
   refine ⟨[_,_,_,_,_,_],_,rfl,bas_of rfl,rfl,rfl,rfl⟩
  ·have e : lstep f ok b x = b:=by
    refine lstep_no ?_
    cases h1 : ok x
    ·exact .inl rfl
    ·right
     rw [h1] at hb
     simp only [Bool.true_and,Bool.or_eq_false_iff,Bool.not_eq_false',decide_eq_false_iff_not] at hb
     exact ⟨hb.1,by omega⟩
   rw [e]
   (refine go0 ?_;try exact tTI)
   refine ⟨[_,_,_,_,_,_],_,rfl,bas_of rfl,rfl,rfl,rfl⟩
 refine CallC.inl (Inl_le' (walk_inl n hn (memL n g fi ca vs lp R) (lstep f ok) 12 8 lp (fun b=>bas_of rfl) (fun b=>rfl) HY n 0 [] (by omega) trivial (fun y hy=>by cases hy) none _ [] 12 (opq_nil 12)) (fun r s' hs=>?_))
 obtain ⟨B',_,⟨rfl,rfl⟩,hl2⟩:=hs
 refine ⟨_,?_,hl2⟩
 have el : (([] : List Int) :: brn n [] 0).foldl (lstep f ok) none = leastL f ok (setsM n):=rfl
 rw [el,List.append_nil]
 generalize leastL f ok (setsM n) = X
 unfold memL tmL
 (refine sy1 ?_;try exact tTI)
 refine ⟨_,_,rfl,rfl,⟨_,_,rfl,by rw [hR.st];simp,?_⟩⟩
 rw [hR.pe]
 (refine syN ?_;try exact tTI)
 (refine go0 ?_;try exact tTI)
 exact W_ret ⟨[_,_,_],⟨⟨by simp,rfl⟩,⟨by simp,rfl⟩,⟨by simp,rfl⟩,rfl⟩,rfl⟩
theorem setW_msk {m : Mp} {l : List Int} (h : Srt m.ws.length 0 l) : SetW m l (msk l):=⟨msk_bits fun x hx=>(h.mem x hx).1,h⟩
theorem fn242 (l : List Int) (n : Nat) (hn : n ≤ 10) (hs : Srt n 0 l) : Sy.Fn Tryz.prog 242 [.v (.slice none 0 0),.clo 243 [] [.fp [uv (msk l)] 0]] (aI l):=by
 refine Fn_of_W mixed Xt242 rfl ?_
 obtain ⟨s,hsm⟩ : ∃ s,s = msk l:=⟨_,rfl⟩
 have hb : BitsOf s l:=by rw [hsm];exact msk_bits fun x hx=>(hs.mem x hx).1
 have hs1 : s < 1024:=by rw [hsm];exact msk_lt hs (by omega)
 rw [← hsm]
 (refine go0 ?_;try exact tTI)
 refine W_rfn (.inl rfl) (fun lp R hR=>Inl_of_W mixed Xt243 rfl (fun vs=>?_))
 (refine sy1 ?_;try exact tTI)
 (refine go0 ?_;try exact tTI)
 refine W_le (le_adoptC 0 0 3 1 (0 : Int) cI (by omega) _ rfl rfl (by simp)) ?_
 (refine sy1 ?_;try exact tTI)
 refine W_loopU (fun i : Nat=>[(3,iv i)]) (fun i=>[(0,.cells [.row 6 (pre l i).length]),(6,.row (pre l i).length 3 1 0 cI (pre l i))]) (fun i=>i ≤ 10) (fun i=>11 - i) 0 (by omega) (by rfl) (by rw [pre_zero hs];rfl) (fun i hi=>?_)
 obtain ⟨q,hq⟩ : ∃ q,q = s / 2 ^ i:=⟨_,rfl⟩
 have e1:=shrS s (i:=i) (by omega)
 have e2:=andS (s / 2 ^ i) (div_lt64 hs1 i)
 rw [bits_shr hb i] at e2
 rw [← hq] at e1 e2
 have e4:=pre_succ (i:=i) hs
 have hlen : (pre l i).length ≤ 10:=by
  have h1:=hs.len (by omega)
  have h2:=List.length_filter_le (fun x=>decide (x < (i : Int))) l
  unfold pre
  omega
 (refine sy1 ?_;try exact tTI)
 (refine gof e1 ?_;try exact tTI)
 refine W_cond (by rfl) (fun hb2=>?_) (fun hb2=>?_)
 ·have hi10 : i < 10:=bits_more hb (by rw [← hq];intro z;rw [z] at hb2;simp at hb2) (fun x hx=>by have:=(hs.mem x hx).2;omega)
  by_cases hm : (i : Int) ∈ l
  ·rw [if_pos hm] at e2 e4
   have e2 : bits .and .u64 (q : Int) 1 = 1:=e2
   (refine gof (ad2 e1 e2) ?_;try exact tTI)
   refine StopC.yld (fun hpc=>⟨trivial,Yl_of_W (k:=3) mixed hR rfl rfl rfl (fun vs2=>?_)⟩) (fun hpc=>absurd (by simp [Sy.pc]) hpc)
   (refine sy1 ?_;try exact tTI)
   (refine go0 ?_;try exact tTI)
   refine ⟨_,rfl,?_⟩
   (refine sy1 ?_;try exact tTI)
   (refine go0 ?_;try exact tTI)
   refine ⟨rfl,trivial,Int,0,cI,[(i : Int)],rfl,by omega,fun x _=>⟨rfl,rfl⟩,rfl,?_⟩
   (refine sy1 ?_;try exact tTI)
   refine ⟨rfl,⟨Nat.le_of_ble_eq_true rfl,rfl⟩,trivial,[(i : Int)],rfl,by first | omega | (simp;omega),by first | omega | (simp;omega),?_⟩
   (refine sy1 ?_;try exact tTI)
   refine ⟨_,_,rfl,rfl,?_⟩
   (refine sy1 ?_;try exact tTI)
   refine W_cond (by rfl) (fun h=>by cases h) (fun _=>?_)
   (refine go0 ?_;try exact tTI)
   refine ⟨i + 1,by omega,by omega,by rfl,?_⟩
   rw [e4,List.length_append]
   (refine syE ?_;try exact tTI)
  ·rw [if_neg hm] at e2 e4
   have e2 : bits .and .u64 (q : Int) 1 = 0:=e2
   have z01 : ((0 : Int) == 1) = false:=rfl
   (refine gof (ad3 e1 e2 z01) ?_;try exact tTI)
   refine StopC.yld (fun hpc=>absurd hpc (by simp [Sy.pc])) (fun hpc=>?_)
   (refine sy1 ?_;try exact tTI)
   (refine go0 ?_;try exact tTI)
   refine W_cond (by rfl) (fun h=>by cases h) (fun _=>?_)
   (refine go0 ?_;try exact tTI)
   refine ⟨i + 1,by omega,by omega,by rfl,?_⟩
   rw [e4,List.append_nil]
   (refine syE ?_;try exact tTI)
 ·have hq0 : s / 2 ^ i = 0:=by
   rw [← hq]
   have:=bne_eq_false_iff_eq.1 hb2
   omega
  have hall:=pre_all (bits_end hb (fun x hx=>(hs.mem x hx).1) hq0)
  rw [hall]
  (refine go0 ?_;try exact tTI)
  refine ⟨_,_,rfl,rfl,⟨_,_,rfl,by rw [hR.st];simp,?_⟩⟩
  rw [hR.pe]
  (refine syN ?_;try exact tTI)
  (refine go0 ?_;try exact tTI)
  refine W_ret ⟨[_],⟨rfl,rfl⟩,?_⟩
  (refine syP ?_;try exact tTI)
theorem fn193 (l : List Int) (n : Nat) (hn : n ≤ 10) (hs : Srt n 0 l) : Sy.Fn Tryz.prog 193 [.clo 243 [] [.fp [uv (msk l)] 0]] (aI l):=by
 refine Fn_of_W mixed Xt193 rfl ?_
 (refine go_c (fn242 l n hn hs) ?_;try exact tTI)
 exact W_ret ⟨[_],⟨rfl,rfl⟩,rfl⟩
def cU (m : Mp) (f : Nat → Int) (s : List Int) (i : Nat) : Int:=(edB m (usB m f s) i).c
theorem cU_rng {m : Mp} (h : OkM m) (f : Nat → Int) (s : List Int) {i : Nat} (hi : i < m.rs.length) : (0 ≤ cU m f s i → 1 ≤ cU m f s i) ∧ -1 ≤ cU m f s i ∧ cU m f s i ≤ 1073741824:=by
 have hr:=(roadB_ok (h.r i hi)).c
 unfold cU edB
 dsimp only
 split <;> omega
def dL (m : Mp) (f : Nat → Int) (s : List Int) (to : Int) : List Int:=dstC m true (cU m f s) to
theorem dL_fn (m : Mp) (f : Nat → Int) (s : List Int) (to : Int) (bk : Bool) (h : OkM m) (hs : Srt m.ws.length 0 s) (ht : 0 ≤ to ∧ to < m.n) : Sy.Fn Tryz.prog 190 [aAt m f,iv to,bv bk,.clo 241 [] [.fp (cAt m f) 0,.fp [uv (msk s)] 0]] (aI (dstC m bk (cU m f s) to)):=
 fn190 m f to bk 241 [] _ (cU m f s) h ht (fun i hi=>(cU_rng h f s hi).1) (fun i hi=>by have:=(cU_rng h f s hi).2;omega) (fun i hi=>fn241 m f s (msk s) i h (setW_msk hs) hi)
theorem dL_dst {m : Mp} (h : OkM m) (f : Nat → Int) (s : List Int) (bk : Bool) {to : Int} (ht : 0 ≤ to ∧ to < m.n) : Dst (edgC m bk (cU m f s)) to.toNat m.n.toNat (dstC m bk (cU m f s) to) ∧ Fix (edgC m bk (cU m f s)) (dstC m bk (cU m f s) to):=by
 obtain ⟨k1,k2⟩:=edgC_ok h bk (c:=cU m f s) (fun i hi=>(cU_rng h f s hi).1)
 exact ⟨dst_dst k1 (by omega),dst_fix k1 k2 (by omega)⟩
theorem dL_rng {m : Mp} (h : OkM m) (f : Nat → Int) (s : List Int) (bk : Bool) {to : Int} (ht : 0 ≤ to ∧ to < m.n) {y : Nat} (hy : y < m.n.toNat) : 0 ≤ gi (dstC m bk (cU m f s) to) y ∧ gi (dstC m bk (cU m f s) to) y ≤ 1125899906842624:=(dL_dst h f s bk ht).1.le hy
theorem dL_len {m : Mp} (h : OkM m) (f : Nat → Int) (s : List Int) (bk : Bool) {to : Int} (ht : 0 ≤ to ∧ to < m.n) : (dstC m bk (cU m f s) to).length = m.n.toNat:=(dL_dst h f s bk ht).1.len
def cfS (m : Mp) (f : Nat → Int) (fr to : Int) (s : List Int) : Int:=gi (dL m f s to) fr.toNat + costL m s
def okS (m : Mp) (f : Nat → Int) (fr to : Int) (s : List Int) : Bool:=decide (gi (dL m f s to) fr.toNat < 1125899906842624)
theorem costL_set {m : Mp} (h : OkM m) {s : List Int} (hs : Srt m.ws.length 0 s) : 0 ≤ costL m s ∧ costL m s ≤ 10737418240:=by
 have h1:=costL_rng h (l:=s) (fun x hx=>hs.mem x hx)
 have h2:=hs.len (by omega)
 have:=h.nw
 have h3 : (s.length : Int) * 1073741824 ≤ 10 * 1073741824:=by omega
 omega
theorem fn189 (m : Mp) (f : Nat → Int) (fr to : Int) (s : List Int) (h : OkM m) (hs : Srt m.ws.length 0 s) (ht : 0 ≤ to ∧ to < m.n) (hf : 0 ≤ fr ∧ fr < m.n) : Sy.Fn Tryz.prog 189 [uv (msk s),.fp (cAt m f) 0,.fp [iv to] 0,.fp [iv fr] 0] (.tup [iv (cfS m f fr to s),bv (okS m f fr to s)]):=by
 refine Fn_of_W mixed Xt189 rfl ?_
 have c190:=dL_fn m f s to true h hs ht
 have c192:=fn192 m f s (msk s) h (setW_msk hs)
 have hr:=dL_rng h f s true ht (y:=fr.toNat) (by omega)
 have hl:=dL_len h f s true ht
 have hc:=costL_set h hs
 unfold cfS okS
 have e : dL m f s to = dstC m true (cU m f s) to:=rfl
 rw [e]
 generalize dstC m true (cU m f s) to = D at *
 have gI : ∀ (l : List Int) i,l.getD i 0 = gi l i:=fun _ _=>rfl
 (refine gofccc gI (fn191 m f (msk s)) c190 c192 ?_;try exact tTI)
 exact W_ret ⟨[_,_],⟨rfl,rfl,rfl⟩,rfl⟩
def fstN (p : Nat → Bool) : Nat → Nat → Nat
 |0,i=>i
 |k + 1,i=>if p i = true then i else fstN p k (i + 1)
theorem fst_eq {p : Nat → Bool} : ∀ (k i j : Nat),i ≤ j → j < i + k → p j = true → (∀ x,i ≤ x → x < j → p x = false) → fstN p k i = j
 |0,i,j,h1,h2,_,_=>by omega
 |k + 1,i,j,h1,h2,h3,h4=>by
  simp only [fstN]
  by_cases q : p i = true
  ·rw [if_pos q]
   apply Classical.byContradiction
   intro z
   rw [h4 i (Nat.le_refl _) (by omega)] at q
   cases q
  ·rw [if_neg q]
   have : i ≠ j:=fun e=>q (e ▸ h3)
   exact fst_eq k (i + 1) j (by omega) (by omega) h3 (fun x hx hy=>h4 x (by omega) hy)
theorem fst_ex {p : Nat → Bool} : ∀ (k i j : Nat),i ≤ j → j < i + k → p j = true → ∃ d,i ≤ d ∧ d < i + k ∧ p d = true ∧ (∀ x,i ≤ x → x < d → p x = false)
 |0,i,j,h1,h2,_=>by omega
 |k + 1,i,j,h1,h2,h3=>by
  by_cases q : p i = true
  ·exact ⟨i,Nat.le_refl _,by omega,q,fun x hx hy=>by omega⟩
  ·have : i ≠ j:=fun e=>q (e ▸ h3)
   obtain ⟨d,h4,h5,h6,h7⟩:=fst_ex k (i + 1) j (by omega) (by omega) h3
   refine ⟨d,by omega,by omega,h6,fun x hx hy=>?_⟩
   by_cases e : x = i
   ·rw [e];simpa using q
   ·exact h7 x (by omega) hy
def pB (left : List Int) (a : Int) (r : Rd) : Bool:=r.f == a && gi left a.toNat == r.c + gi left r.t.toNat
def hitB (m : Mp) (f : Nat → Int) (s left : List Int) (a : Int) (i : Nat) : Bool:=usB m f s i && pB left a (gr m i)
def nxt (m : Mp) (f : Nat → Int) (s left : List Int) (a : Int) : Nat:=fstN (hitB m f s left a) m.rs.length 0
def wayC (m : Mp) (f : Nat → Int) (s left : List Int) (to : Int) : Nat → Int → List Int
 |0,_=>[]
 |k + 1,a=>if a = to then [] else (nxt m f s left a : Int) :: wayC m f s left to k (gr m (nxt m f s left a)).t
def minL (m : Mp) (l : List Int) : Int:=l.foldl (fun n x=>n + (gr m x.toNat).m) 0
theorem minL_snoc (m : Mp) (l : List Int) (x : Int) : minL m (l ++ [x]) = minL m l + (gr m x.toNat).m:=by
 unfold minL;rw [List.foldl_append];rfl
structure AtW (m : Mp) (f : Nat → Int) (s left : List Int) (to a : Int) : Prop where
 r : 0 ≤ a ∧ a < m.n
 l : 0 ≤ gi left a.toNat ∧ gi left a.toNat < 1125899906842624
theorem hit_ex {m : Mp} {f : Nat → Int} {s : List Int} {to a : Int} (h : OkM m) (ht : 0 ≤ to ∧ to < m.n) (ha : AtW m f s (dL m f s to) to a) (hne : a ≠ to) : ∃ i,i < m.rs.length ∧ hitB m f s (dL m f s to) a i = true:=by
 obtain ⟨h1,h2⟩:=dL_dst h f s true ht
 obtain ⟨k1,k2⟩:=edgC_ok h true (c:=cU m f s) (fun i hi=>(cU_rng h f s hi).1)
 have hl:=ha.l
 have hr:=ha.r
 rcases last_road k1 h1 h2 (y:=a.toNat) (by omega) hl.2 with q | ⟨e,he,h3,h4,h5⟩
 ·omega
 ·obtain ⟨i,hi,rfl⟩:=List.mem_map.1 he
  have hi:=List.mem_range.1 hi
  have ok:=roadB_ok (h.r i hi)
  refine ⟨i,hi,?_⟩
  have e1 : (edC m true (cU m f s) i).y = (gr m i).f.toNat:=rfl
  have e2 : (edC m true (cU m f s) i).x = (gr m i).t.toNat:=rfl
  have e3 : (edC m true (cU m f s) i).c = cU m f s i:=rfl
  rw [e1] at h3
  rw [e2,e3] at h5
  rw [e3] at h4
  have hu : usB m f s i = true:=by
   apply Classical.byContradiction
   intro z
   have : cU m f s i = -1:=by unfold cU edB;simp [z]
   omega
  have hc : cU m f s i = (gr m i).c:=by unfold cU edB;simp [hu]
  have hf:=ok.f
  unfold hitB pB
  rw [hu,Bool.true_and,Bool.and_eq_true,beq_iff_eq,beq_iff_eq]
  refine ⟨by omega,?_⟩
  rw [hc] at h5
  show gi (dstC m true (cU m f s) to) a.toNat = _ + gi (dstC m true (cU m f s) to) _
  omega
theorem hit_step {m : Mp} {f : Nat → Int} {s : List Int} {to a : Int} (h : OkM m) (ht : 0 ≤ to ∧ to < m.n) (ha : AtW m f s (dL m f s to) to a) {i : Nat} (hi : i < m.rs.length) (hh : hitB m f s (dL m f s to) a i = true) :
  usB m f s i = true ∧ (gr m i).f = a ∧ gi (dL m f s to) a.toNat = (gr m i).c + gi (dL m f s to) (gr m i).t.toNat ∧ AtW m f s (dL m f s to) to (gr m i).t ∧ rk (dL m f s to) m.n.toNat (gr m i).t.toNat < rk (dL m f s to) m.n.toNat a.toNat:=by
 have ok:=roadB_ok (h.r i hi)
 unfold hitB pB at hh
 rw [Bool.and_eq_true,Bool.and_eq_true,beq_iff_eq,beq_iff_eq] at hh
 obtain ⟨h1,h2,h3⟩:=hh
 have hl:=ha.l
 have hc:=ok.c
 have htr:=ok.t
 have hb:=dL_rng h f s true ht (y:=(gr m i).t.toNat) (by omega)
 have hb : 0 ≤ gi (dL m f s to) (gr m i).t.toNat ∧ gi (dL m f s to) (gr m i).t.toNat ≤ 1125899906842624:=hb
 refine ⟨h1,h2,h3,⟨htr,by omega⟩,rk_lt (by omega) (by omega)⟩
theorem nxt_spec {m : Mp} {f : Nat → Int} {s : List Int} {to a : Int} (h : OkM m) (ht : 0 ≤ to ∧ to < m.n) (ha : AtW m f s (dL m f s to) to a) (hne : a ≠ to) :
  nxt m f s (dL m f s to) a < m.rs.length ∧ hitB m f s (dL m f s to) a (nxt m f s (dL m f s to) a) = true ∧ ∀ j,j < nxt m f s (dL m f s to) a → hitB m f s (dL m f s to) a j = false:=by
 obtain ⟨i,hi,hh⟩:=hit_ex h ht ha hne
 obtain ⟨d,h1,h2,h3,h4⟩:=fst_ex m.rs.length 0 i (by omega) (by omega) hh
 have e : nxt m f s (dL m f s to) a = d:=fst_eq m.rs.length 0 d (by omega) (by omega) h3 h4
 rw [e]
 exact ⟨by omega,h3,fun j hj=>h4 j (by omega) hj⟩
def bestS (m : Mp) (f : Nat → Int) (fr to : Int) : Option (List Int × Int):=leastL (cfS m f fr to) (okS m f fr to) (setsM m.ws.length)
def wayS (m : Mp) (f : Nat → Int) (fr to : Int) (s : List Int) : List Int:=wayC m f s (dL m f s to) to m.n.toNat fr
def bE : Option (List Int × Int) → Int
 |none=>15
 |some _=>0
def chV (m : Mp) (f : Nat → Int) (fr to : Int) : Option (List Int × Int):=if opE m f = 0 then (if plB m.n fr = true ∧ plB m.n to = true then bestS m f fr to else none) else none
def chE (m : Mp) (f : Nat → Int) (fr to : Int) : Int:=if opE m f = 0 then (if plB m.n fr = true ∧ plB m.n to = true then bE (bestS m f fr to) else 3) else opE m f
theorem leastL_mem {g : List Int → Int} {ok : List Int → Bool} : ∀ (l : List (List Int)) (b : Option (List Int × Int)) {s : List Int} {n : Int},l.foldl (lstep g ok) b = some (s,n) → b = some (s,n) ∨ (s ∈ l ∧ ok s = true ∧ n = g s)
 |[],b,s,n,h=>.inl h
 |x :: l,b,s,n,h=>by
  rcases leastL_mem l (lstep g ok b x) h with q | ⟨q1,q2,q3⟩
  ·unfold lstep at q
   by_cases c : ok x = true
   ·rw [if_pos c] at q
    rcases b with _ | ⟨y,k⟩
    ·cases q;exact .inr ⟨List.mem_cons_self,c,rfl⟩
    ·dsimp only at q
     split at q
     ·cases q;exact .inr ⟨List.mem_cons_self,c,rfl⟩
     ·exact .inl q
   ·rw [if_neg c] at q
    exact .inl q
  ·exact .inr ⟨List.mem_cons_of_mem _ q1,q2,q3⟩
theorem best_some {m : Mp} {f : Nat → Int} {fr to : Int} {s : List Int} {n : Int} (h : bestS m f fr to = some (s,n)) : s ∈ setsM m.ws.length ∧ Srt m.ws.length 0 s ∧ okS m f fr to s = true ∧ n = cfS m f fr to s:=by
 rcases leastL_mem _ _ h with q | ⟨q1,q2,q3⟩
 ·cases q
 ·exact ⟨q1,sets_srt s q1,q2,q3⟩
theorem fn196 (left : List Int) (a : Int) (r : Rd) (ha : 0 ≤ a ∧ a < left.length) (ht : 0 ≤ r.t ∧ r.t < left.length) (hc : 1 ≤ r.c ∧ r.c ≤ 1073741824) (hl : 0 ≤ gi left r.t.toNat ∧ gi left r.t.toNat ≤ 1125899906842624) : Sy.Fn Tryz.prog 196 [.agg (cR r),.fp [iv a] 0,.fp [aI left] 0] (bv (pB left a r)):=by
 refine Fn_of_W mixed Xt196 rfl ?_
 have gI : ∀ (l : List Int) i,l.getD i 0 = gi l i:=fun _ _=>rfl
 unfold pB
 cases hb : r.f == a
 ·repeat' (first | refine w1g ?_ | refine w1l ?_ | refine w1q ?_ | refine w1b ?_ | refine w1p ?_ | ((first | refine w1r ?_ | refine w1k ?_ | refine w1e ?_);simp (maxSteps:=400000) (disch:=omega) only [push_cast,↓reduceIte,reduceCtorEq,Nat.reduceAdd,Nat.reduceSub,Nat.reduceEqDiff,Nat.reduceLeDiff,Nat.reduceLT,Nat.reduceBEq,Nat.reduceDiv,Nat.reduceMod,Nat.reducePow,Nat.reduceMul,Int.reduceToNat,Int.reduceLT,Int.reduceLE,gI,hb]) | refine an2 ?_ | fail)
  exact W_ret ⟨[_],⟨rfl,rfl⟩,rfl⟩
 ·repeat' (first | refine w1g ?_ | refine w1l ?_ | refine w1q ?_ | refine w1b ?_ | refine w1p ?_ | ((first | refine w1r ?_ | refine w1k ?_ | refine w1e ?_);simp (maxSteps:=400000) (disch:=omega) only [push_cast,↓reduceIte,reduceCtorEq,Nat.reduceAdd,Nat.reduceSub,Nat.reduceEqDiff,Nat.reduceLeDiff,Nat.reduceLT,Nat.reduceBEq,Nat.reduceDiv,Nat.reduceMod,Nat.reducePow,Nat.reduceMul,Int.reduceToNat,Int.reduceLT,Int.reduceLE,gI,hb]) | refine an2 ?_ | fail)
  exact W_ret ⟨[_],⟨rfl,rfl⟩,rfl⟩
theorem fn198 (left : List Int) (a : Int) (r : Rd) (ha : 0 ≤ a ∧ a < left.length) (ht : 0 ≤ r.t ∧ r.t < left.length) (hc : 1 ≤ r.c ∧ r.c ≤ 1073741824) (hl : 0 ≤ gi left r.t.toNat ∧ gi left r.t.toNat ≤ 1125899906842624) : Sy.Fn Tryz.prog 198 [.agg (cR r),.fp [iv a] 0,.fp [aI left] 0] (bv (pB left a r)):=by
 refine Fn_of_W mixed Xt198 rfl ?_
 have gI : ∀ (l : List Int) i,l.getD i 0 = gi l i:=fun _ _=>rfl
 unfold pB
 cases hb : r.f == a
 ·repeat' (first | refine w1g ?_ | refine w1l ?_ | refine w1q ?_ | refine w1b ?_ | refine w1p ?_ | ((first | refine w1r ?_ | refine w1k ?_ | refine w1e ?_);simp (maxSteps:=400000) (disch:=omega) only [push_cast,↓reduceIte,reduceCtorEq,Nat.reduceAdd,Nat.reduceSub,Nat.reduceEqDiff,Nat.reduceLeDiff,Nat.reduceLT,Nat.reduceBEq,Nat.reduceDiv,Nat.reduceMod,Nat.reducePow,Nat.reduceMul,Int.reduceToNat,Int.reduceLT,Int.reduceLE,gI,hb]) | refine an2 ?_ | fail)
  exact W_ret ⟨[_],⟨rfl,rfl⟩,rfl⟩
 ·repeat' (first | refine w1g ?_ | refine w1l ?_ | refine w1q ?_ | refine w1b ?_ | refine w1p ?_ | ((first | refine w1r ?_ | refine w1k ?_ | refine w1e ?_);simp (maxSteps:=400000) (disch:=omega) only [push_cast,↓reduceIte,reduceCtorEq,Nat.reduceAdd,Nat.reduceSub,Nat.reduceEqDiff,Nat.reduceLeDiff,Nat.reduceLT,Nat.reduceBEq,Nat.reduceDiv,Nat.reduceMod,Nat.reducePow,Nat.reduceMul,Int.reduceToNat,Int.reduceLT,Int.reduceLE,gI,hb]) | refine an2 ?_ | fail)
  exact W_ret ⟨[_],⟨rfl,rfl⟩,rfl⟩
def cRt (rs ws : List Int) (c mi : Int) : List AV:=[aI rs,aI ws,iv c,iv mi]
def zRt : List AV:=[.v (.slice none 0 0),.v (.slice none 0 0),iv 0,iv 0]
def rtC (m : Mp) (f : Nat → Int) (fr to : Int) : Option (List Int × Int) → List AV
 |none=>zRt
 |some p=>cRt (wayS m f fr to p.1) p.1 p.2 (minL m (wayS m f fr to p.1))
theorem fn133 (m : Mp) (f : Nat → Int) (fr to : Int) (hm : Gm m) : Sy.Fn Tryz.prog 133 [aM m,.agg (c6 f),iv fr,iv to] (.tup [.agg (rtC m f fr to (chV m f fr to)),iv (chE m f fr to)]):=by
 refine Fn_of_W mixed Xt133 rfl ?_
 have c185:=fn185 m f hm
 by_cases h0 : opE m f = 0
 rotate_left
 ·have e1 : chV m f fr to = none:=by unfold chV;rw [if_neg h0]
  have e2 : chE m f fr to = opE m f:=by unfold chE;rw [if_neg h0]
  rw [e1,e2]
  have hv : opV m f = cAt m f ∨ opV m f = zAt:=by
   unfold opV
   split
   ·exact .inl rfl
   ·exact .inr rfl
  generalize opE m f = e at *
  rcases hv with hv | hv
  all_goals
   rw [hv] at c185
   try unfold zAt at c185
   (refine go_c c185 ?_;try exact tTI)
   refine W_cond (by rfl) (fun h=>?_) (fun h=>?_)
   ·(refine go0 ?_;try exact tTI)
    exact W_ret ⟨[_,_],⟨⟨by simp,rfl⟩,rfl,rfl⟩,rfl⟩
   ·exact absurd (by simpa using h) h0
 have hchk : chkM m = 0 ∧ szE f = 0:=by
  unfold opE at h0
  by_cases q : chkM m = 0
  ·rw [if_pos q] at h0;exact ⟨q,h0⟩
  ·rw [if_neg q] at h0;exact absurd h0 q
 have hv : opV m f = cAt m f:=by unfold opV;rw [if_pos hchk.1]
 have hok:=chkM_ok hchk.1
 rw [hv,h0] at c185
 have c186:=fn186 m [fr,to] (by simp)
 have hpl : plsB m [fr,to] = (plB m.n fr && plB m.n to):=by simp [plsB]
 rw [hpl] at c186
 by_cases hp : plB m.n fr = true ∧ plB m.n to = true
 rotate_left
 ·have e1 : chV m f fr to = none:=by unfold chV;rw [if_pos h0,if_neg hp]
  have e2 : chE m f fr to = 3:=by unfold chE;rw [if_pos h0,if_neg hp]
  have e3 : (plB m.n fr && plB m.n to) = false:=by rw [← Bool.not_eq_true,Bool.and_eq_true];exact hp
  rw [e3] at c186
  rw [e1,e2]
  (refine go_c c185 ?_;try exact tTI)
  refine W_cond (by rfl) (fun h=>by cases h) (fun h=>?_)
  (refine go_c c186 ?_;try exact tTI)
  refine ⟨rfl,trivial,Int,0,cI,[fr,to],rfl,by omega,fun x _=>⟨rfl,rfl⟩,rfl,?_⟩
  (refine sy1 ?_;try exact tTI)
  (refine go_g c186 ?_;try exact tTI)
  refine W_cond (by rfl) (fun h=>?_) (fun h=>by cases h)
  (refine go0 ?_;try exact tTI)
  exact W_ret ⟨[_,_],⟨⟨by simp,rfl⟩,rfl,rfl⟩,rfl⟩
 have hp1 : (0 ≤ fr ∧ fr < m.n) ∧ (0 ≤ to ∧ to < m.n):=by
  have:=hp.1;have:=hp.2
  unfold plB at *
  simp only [Bool.and_eq_true,decide_eq_true_eq] at *
  omega
 have e3 : (plB m.n fr && plB m.n to) = true:=by rw [hp.1,hp.2];rfl
 rw [e3] at c186
 have c187:=fn187 m.ws.length hok.nw 189 [] [.fp (cAt m f) 0,.fp [iv to] 0,.fp [iv fr] 0] (cfS m f fr to) (okS m f fr to) (fun x hx=>by
  have h1:=costL_set hok hx
  have h2:=dL_rng hok f x true hp1.2 (y:=fr.toNat) (by omega)
  have h2 : 0 ≤ gi (dL m f x to) fr.toNat ∧ gi (dL m f x to) fr.toNat ≤ 1125899906842624:=h2
  unfold cfS
  omega) (fun x hx=>fn189 m f fr to x hok hx hp1.2 hp1.1)
 have e1 : chV m f fr to = bestS m f fr to:=by unfold chV;rw [if_pos h0,if_pos hp]
 have e2 : chE m f fr to = bE (bestS m f fr to):=by unfold chE;rw [if_pos h0,if_pos hp]
 rw [e1,e2]
 have hbs : leastL (cfS m f fr to) (okS m f fr to) (setsM m.ws.length) = bestS m f fr to:=rfl
 rw [hbs] at c187
 (refine go_c c185 ?_;try exact tTI)
 refine W_cond (by rfl) (fun h=>by cases h) (fun h=>?_)
 (refine go_c c186 ?_;try exact tTI)
 refine ⟨rfl,trivial,Int,0,cI,[fr,to],rfl,by omega,fun x _=>⟨rfl,rfl⟩,rfl,?_⟩
 (refine sy1 ?_;try exact tTI)
 (refine go_g c186 ?_;try exact tTI)
 refine W_cond (by rfl) (fun h=>by cases h) (fun h=>?_)
 (refine go_cg (fun x1=>fn188 x1) c187 ?_;try exact tTI)
 rcases hb : bestS m f fr to with _ | ⟨s,n⟩
 ·refine W_cond (by rfl) (fun h=>?_) (fun h=>by cases h)
  (refine go0 ?_;try exact tTI)
  exact W_ret ⟨[_,_],⟨⟨by simp,rfl⟩,rfl,rfl⟩,rfl⟩
 obtain ⟨b1,b2,b3,b4⟩:=best_some hb
 have c193:=fn193 s m.ws.length hok.nw b2
 have c190:=dL_fn m f s to true hok b2 hp1.2
 have hl:=dL_len hok f s true hp1.2
 have hlr : ∀ y,y < m.n.toNat → 0 ≤ gi (dstC m true (cU m f s) to) y ∧ gi (dstC m true (cU m f s) to) y ≤ 1125899906842624:=fun y hy=>dL_rng hok f s true hp1.2 hy
 have hd : dL m f s to = dstC m true (cU m f s) to:=rfl
 rw [← hd] at c190 hl hlr
 have hA0 : AtW m f s (dL m f s to) to fr:=⟨hp1.1,(by have:=hlr fr.toNat (by omega);omega),(by unfold okS at b3;rw [decide_eq_true_eq] at b3;exact b3)⟩
 refine W_cond (by rfl) (fun h=>by cases h) (fun h=>?_)
 (refine go_cc (fun x1=>fn194 x1) c193 ?_;try exact tTI)
 (refine go_cc (fn191 m f (msk s)) c190 ?_;try exact tTI)
 have hN:=hok.n
 obtain ⟨left,hleft⟩ : ∃ left,left = dL m f s to:=⟨_,rfl⟩
 have hbC : bC (some (s,n)) = n:=rfl
 have hbS : bS (some (s,n)) = msk s:=rfl
 have hres : rtC m f fr to (some (s,n)) = cRt (wayS m f fr to s) s n (minL m (wayS m f fr to s)):=rfl
 have hway : wayS m f fr to s = wayC m f s left to m.n.toNat fr:=by rw [hleft];rfl
 have hres2 : bE (some (s,n)) = 0:=rfl
 rw [hres,hres2,hway]
 rw [hbC,hbS]
 rw [← hleft] at hl hlr hA0 ⊢
 refine W_le (le_adoptC 45 0 3 1 (0 : Int) cI (by omega) _ rfl rfl (by simp)) ?_
 (refine sy1 ?_;try exact tTI)
 refine W_loopU (fun u : Nat × Int × List Int=>[]) (fun u=>[(2,.cells [iv u.2.1]),(45,.cells [.row 55 u.2.2.length,aI s,iv n,iv (minL m u.2.2)]),(55,.row u.2.2.length 3 1 0 cI u.2.2)]) (fun u=>AtW m f s left to u.2.1 ∧ rk left m.n.toNat u.2.1.toNat ≤ u.1 ∧ u.2.2 ++ wayC m f s left to u.1 u.2.1 = wayC m f s left to m.n.toNat fr ∧ u.2.2.length + u.1 ≤ 64 ∧ 0 ≤ minL m u.2.2 ∧ minL m u.2.2 ≤ 1440 * u.2.2.length) (fun u=>u.1) (m.n.toNat,fr,[]) ⟨hA0,rk_le _ _ _,List.nil_append _,by simp;omega,by simp [minL],by simp [minL]⟩ (by rfl) (by rfl) (fun u hu=>?_)
 obtain ⟨k,a,acc⟩:=u
 obtain ⟨q1,q2,q3,q4,q5,q6⟩:=hu
 dsimp only at q1 q2 q3 q4 q5 q6 ⊢
 (refine sy1 ?_;try exact tTI)
 (refine go0 ?_;try exact tTI)
 refine W_cond (by rfl) (fun hb=>?_) (fun hb=>?_)
 ·have hne : a ≠ to:=by rw [bne_iff_ne] at hb;exact hb
  rw [hleft] at q1 q2
  obtain ⟨x1,x2,x3⟩:=nxt_spec hok hp1.2 q1 hne
  obtain ⟨y1,y2,y3,y4,y5⟩:=hit_step hok hp1.2 q1 x1 x2
  rw [← hleft] at q1 q2 x1 x2 x3 y1 y2 y3 y4 y5
  have ha:=q1.r
  have hcl : ∀ r ∈ m.rs,Sy.Fn Tryz.prog 196 ([] ++ [.agg (cR r)] ++ [.fp [iv a] 0,.fp [aI left] 0]) (bv (pB left a r)):=fun r hr=>by
   obtain ⟨i,hi,rfl⟩:=List.mem_iff_getElem.1 hr
   have hri:=roadB_ok (hok.r i hi)
   have e : gr m i = m.rs[i]:=by simp [gr,List.getD,hi]
   rw [e] at hri
   have:=hri.t
   exact fn196 left a _ (by rw [hl];omega) (by rw [hl];omega) hri.c (hlr _ (by omega))
  have hnr:=hok.nr
  have c195:=fn195 m.rs (by omega) 196 [] [.fp [iv a] 0,.fp [aI left] 0] (pB left a) hcl
  obtain ⟨x,hx⟩ : ∃ x,x = nxt m f s left a:=⟨_,rfl⟩
  rw [← hx] at x1 x2 x3 y1 y2 y3 y4 y5
  have hpx : pB left a (gr m x) = true:=by unfold hitB at x2;rw [Bool.and_eq_true] at x2;exact x2.2
  obtain ⟨i0,z1,z2,z3,z4⟩:=fst_ex (p:=fun i=>pB left a (gr m i)) m.rs.length 0 x (by omega) (by omega) hpx
  have hi0 : idxF (pB left a) m.rs 0 = (i0 : Int):=by
   rw [idxF_at (pB left a) dR m.rs i0 0 (by omega) (fun j hj=>z4 j (by omega) hj) z3];omega
  rw [hi0] at c195
  have hno : ∀ j,pB left a (gr m j) = false → hitB m f s left a j = false:=fun j hj=>by unfold hitB;rw [hj,Bool.and_false]
  (refine go_g c195 ?_;try exact tTI)
  refine W_loopU (fun i : Nat=>[(18,iv i)]) (fun i=>[]) (fun i=>i < m.rs.length ∧ pB left a (gr m i) = true ∧ ∀ j,j < i → hitB m f s left a j = false) (fun i=>m.rs.length - i) i0 ⟨by omega,z3,fun j hj=>hno j (z4 j (by omega) hj)⟩ (by rfl) (by rfl) (fun i hi=>?_)
  obtain ⟨w1,w2,w3⟩:=hi
  have c197:=fn197 m f s (msk s) i hok (setW_msk b2) w1
  (refine sy1 ?_;try exact tTI)
  (refine go_g c197 ?_;try exact tTI)
  refine W_cond (by rfl) (fun hu=>?_) (fun hu=>?_)
  ·have hu : usB m f s i = false:=by simpa using hu
   have hix : i < x:=by
    rcases Nat.lt_trichotomy i x with q | q | q
    ·exact q
    ·rw [← q,hu] at y1;cases y1
    ·rw [w3 x q] at x2;cases x2
   obtain ⟨i1,v1,v2,v3,v4⟩:=fst_ex (p:=fun i=>pB left a (gr m i)) (m.rs.length - (i + 1)) (i + 1) x (by omega) (by omega) hpx
   have hgd : ∀ j,(m.rs.drop (i + 1)).getD j dR = gr m (i + 1 + j):=fun j=>by simp [gr,List.getD]
   have c195:=fn195 (m.rs.drop (i + 1)) (by rw [List.length_drop];omega) 198 [] [.fp [iv a] 0,.fp [aI left] 0] (pB left a) (fun r hr=>by
    have hr:=List.mem_of_mem_drop hr
    obtain ⟨i,hi,rfl⟩:=List.mem_iff_getElem.1 hr
    have hri:=roadB_ok (hok.r i hi)
    have e : gr m i = m.rs[i]:=by simp [gr,List.getD,hi]
    rw [e] at hri
    have:=hri.t
    exact fn198 left a _ (by rw [hl];omega) (by rw [hl];omega) hri.c (hlr _ (by omega)))
   have hi1 : idxF (pB left a) (m.rs.drop (i + 1)) 0 = ((i1 - (i + 1) : Nat) : Int):=by
    rw [idxF_at (pB left a) dR (m.rs.drop (i + 1)) (i1 - (i + 1)) 0 (by rw [List.length_drop];omega) (fun j hj=>by rw [hgd];exact v4 (i + 1 + j) (by omega) (by omega)) (by rw [hgd,show i + 1 + (i1 - (i + 1)) = i1 by omega];exact v3)];omega
   rw [hi1] at c195
   (refine go_g c195 ?_;try exact tTI)
   refine ⟨i1,⟨by omega,v3,fun j hj=>?_⟩,by omega,by rfl,?_⟩
   ·rcases Nat.lt_trichotomy j i with q | q | q
    ·exact w3 j q
    ·rw [q];unfold hitB;rw [hu];rfl
    ·exact hno j (v4 j (by omega) hj)
   ·have e : (i : Int) + (1 + ((i1 : Int) - ((i : Int) + 1))) = i1:=by omega
    (refine eqf e ?_;try exact tTI)
  ·have hu : usB m f s i = true:=by simpa using hu
   have hhit : hitB m f s left a i = true:=by unfold hitB;rw [hu,w2];rfl
   have hix : i = x:=by
    rcases Nat.lt_trichotomy i x with q | q | q
    ·rw [x3 i q] at hhit;cases hhit
    ·exact q
    ·rw [w3 x q] at x2;cases x2
   subst hix
   have hgr : m.rs.getD i dR = gr m i:=rfl
   have hm1:=(roadB_ok (hok.r i w1)).m
   have hms : minL m (acc ++ [(i : Int)]) = minL m acc + (gr m i).m:=by rw [minL_snoc];rfl
   obtain ⟨k',hk'⟩ : ∃ k',k = k' + 1:=⟨k - 1,by omega⟩
   have hw1 : wayC m f s left to k a = (i : Int) :: wayC m f s left to k' (gr m i).t:=by
    rw [hk']
    simp only [wayC]
    rw [if_neg hne,← hx]
   (refine go0 ?_;try exact tTI)
   refine ⟨rfl,trivial,Int,0,cI,[(i : Int)],rfl,by omega,fun x _=>⟨rfl,rfl⟩,rfl,?_⟩
   (refine sy1 ?_;try exact tTI)
   refine ⟨rfl,⟨Nat.le_of_ble_eq_true rfl,rfl⟩,trivial,[(i : Int)],rfl,by first | omega | (simp;omega),by first | omega | (simp;omega),?_⟩
   (refine sy1 ?_;try exact tTI)
   (refine gof hgr ?_;try exact tTI)
   refine ⟨(k',(gr m i).t,acc ++ [(i : Int)]),⟨y4,by dsimp only;omega,?_,?_,?_,?_⟩,by dsimp only;omega,by rfl,?_⟩
   ·dsimp only
    rw [← q3,hw1,List.append_assoc];rfl
   ·dsimp only;rw [List.length_append];simp only [List.length_singleton];omega
   ·dsimp only;rw [hms];omega
   ·dsimp only;rw [hms,List.length_append];simp only [List.length_singleton];omega
   ·dsimp only
    rw [hms,List.length_append]
    (refine syE ?_;try exact tTI)
 ·have hat : a = to:=by simpa using hb
  have hw1 : wayC m f s left to k a = []:=by
   cases k with
   |zero=>rfl
   |succ k=>simp only [wayC];rw [if_pos hat]
  rw [hw1,List.append_nil] at q3
  rw [← q3]
  (refine go0 ?_;try exact tTI)
  refine W_ret ⟨[_,_],⟨⟨by simp,rfl⟩,rfl,rfl⟩,?_⟩
  (refine syP ?_;try exact tTI)
  rfl
theorem take_snoc {l : List Int} {i : Nat} (h : i < l.length) : l.take (i + 1) = l.take i ++ [gi l i]:=by
 rw [List.take_succ_eq_append_getElem h]
 simp [gi,List.getD,h]
def exV (a b c : Int) (j : Nat) : Rd:=⟨a,b,c,if 1 ≤ j then 60 else 0,if 2 ≤ j then 480 else 0,if 3 ≤ j then 600 else 0,if 4 ≤ j then 5000 else 0,if 4 ≤ j then 5000 else 0,if 4 ≤ j then 5000 else 0,if 4 ≤ j then 5000 else 0,if 4 ≤ j then 5000 else 0,if 4 ≤ j then 5000 else 0⟩
theorem Srt.more {n n' : Int} (hn : n ≤ n') : ∀ {l : List Int} {lo : Int},Srt n lo l → Srt n' lo l
 |[],_,_=>trivial
 |x :: l,lo,h=>⟨h.1,by have:=h.2.1;omega,Srt.more hn h.2.2⟩
structure Big (m : Mp) : Prop where
 r : m.rs.length ≤ 140737488355328
 w : m.ws.length ≤ 140737488355328
 s : ∀ w ∈ m.ws,w.rs.length ≤ 140737488355328
structure Val (m : Mp) (f : Nat → Int) (fr to : Int) : Prop where
 g : greatB m = false
 c : chkM m = 0
 z : szE f = 0
 f : 0 ≤ fr ∧ fr < m.n
 t : 0 ≤ to ∧ to < m.n
theorem Val.ok {m : Mp} {f : Nat → Int} {fr to : Int} (h : Val m f fr to) : OkM m:=chkM_ok h.c
theorem Val.op {m : Mp} {f : Nat → Int} {fr to : Int} (h : Val m f fr to) : opE m f = 0:=by unfold opE;rw [if_pos h.c];exact h.z
theorem plB_of {n x : Int} (h : 0 ≤ x ∧ x < n) : plB n x = true:=by unfold plB;rw [decide_eq_true h.1,decide_eq_true h.2];rfl
theorem Val.cv {m : Mp} {f : Nat → Int} {fr to : Int} (h : Val m f fr to) : chV m f fr to = bestS m f fr to:=by unfold chV;rw [if_pos h.op,if_pos ⟨plB_of h.f,plB_of h.t⟩]
def evL (n : Nat) : List Int:=(List.range n).map fun i : Nat=>(i : Int)
theorem Wk.pre {es : List Edg} {e : Edg} (he : e ∈ es) (hc : 0 ≤ e.c) {y : Nat} {d : Int} (h : Wk es e.y y d) : Wk es e.x y (e.c + d):=by
 induction h with
 |nil=>rw [show e.c + 0 = 0 + e.c by omega];exact .snoc .nil he hc
 |snoc _ h2 h3 ih=>rw [← Int.add_assoc];exact .snoc ih h2 h3
def cB (x : Bool) : List AV:=[bv x]
theorem nB (x : Bool) : nth (cB x) 0 = bv x:=rfl
theorem lB (x : Bool) : (cB x).length = 1:=rfl
theorem frB (x : Bool) : frzAll (cB x) = true:=rfl
theorem tB (x : Bool) : List.take 1 (List.drop 0 (cB x)) = cB x:=rfl
attribute [push_cast] nB lB frB tB
structure Cs where
 r : Int
 k : Int
 l : Int
 n : Int
def cC (c : Cs) : List AV:=[iv c.r,iv c.k,iv c.l,iv c.n]
theorem lC (c : Cs) : (cC c).length = 4:=rfl
theorem frC (c : Cs) : frzAll (cC c) = true:=rfl
theorem tC (c : Cs) : List.take 4 (List.drop 0 (cC c)) = cC c:=rfl
theorem tC2 (c : Cs) : List.take 4 (cC c) = cC c:=rfl
theorem iC {m : Nat → Option Blk} {n : Nat} (c : Cs) : List.flatMap (ids m n) (cC c) = []:=flat_frz n _ (frC c)
theorem vC {m : Nat → Option Blk} {n : Nat} (c : Cs) : List.map (view m n) (cC c) = cC c:=viewL_frz n _ (frC c)
attribute [push_cast] lC frC tC tC2 iC vC
def cL (l : List Int) : List AV:=[aI l]
theorem nL (l : List Int) : nth (cL l) 0 = aI l:=rfl
theorem lL (l : List Int) : (cL l).length = 1:=rfl
theorem frL (l : List Int) : frzAll (cL l) = true:=rfl
theorem tL (l : List Int) : List.take 1 (List.drop 0 (cL l)) = cL l:=rfl
attribute [push_cast] nL lL frL tL
def sumR (m : Mp) (l : List Int) : Int:=l.foldl (fun n x=>n + (gr m x.toNat).c) 0
inductive Pt (m : Mp) (fr : Int) : List Int → Int → Prop
 |nil : Pt m fr [] fr
 |snoc {l : List Int} {a : Int} {i : Nat} : Pt m fr l a → i < m.rs.length → (gr m i).f = a → Pt m fr (l ++ [(i : Int)]) (gr m i).t
theorem count_set : ∀ (l : List Bool) (i : Nat),i < l.length → l.getD i false = false → (l.set i true).count false + 1 = l.count false
 |[],i,h,_=>by simp at h
 |b :: l,0,h,hb=>by
  have : b = false:=by simpa using hb
  subst this
  simp
 |b :: l,i + 1,h,hb=>by
  have h1:=count_set l i (by simpa using h) (by simpa using hb)
  rw [List.set_cons_succ,List.count_cons,List.count_cons]
  omega
def vis (m : Mp) (fr : Int) (l : List Int) (i : Nat) : List Int:=fr :: (l.take i).map fun x=>(gr m x.toNat).t
def atP (m : Mp) (fr : Int) (l : List Int) (i : Nat) : Int:=if i = 0 then fr else (gr m (gi l (i - 1)).toNat).t
def rtK (m : Mp) (fr : Int) (l : List Int) (i : Nat) : Bool:=(gr m (gi l i).toNat).f == atP m fr l i && !decide ((gr m (gi l i).toNat).t ∈ vis m fr l i)
def rtB (m : Mp) (fr to : Int) (l : List Int) : Bool:=(List.range l.length).all (rtK m fr l) && atP m fr l l.length == to
def irE (m : Mp) (fr to : Int) (l : List Int) : Int:=if chkM m = 0 then (if plB m.n fr = true ∧ plB m.n to = true then rdE m l else 3) else chkM m
def irV (m : Mp) (fr to : Int) (l : List Int) : Bool:=decide (irE m fr to l = 0) && rtB m fr to l
theorem vis_succ (m : Mp) (fr : Int) {l : List Int} {i : Nat} (h : i < l.length) : vis m fr l (i + 1) = vis m fr l i ++ [(gr m (gi l i).toNat).t]:=by
 unfold vis
 rw [take_snoc h,List.map_append];rfl
theorem atP_succ (m : Mp) (fr : Int) (l : List Int) (i : Nat) : atP m fr l (i + 1) = (gr m (gi l i).toNat).t:=by
 unfold atP;rw [if_neg (by omega)];rfl
theorem Pt.cons {m : Mp} {a b : Int} {l : List Int} {i : Nat} (hi : i < m.rs.length) (h : Pt m (gr m i).t l b) (hf : (gr m i).f = a) : Pt m a ((i : Int) :: l) b:=by
 induction h with
 |nil=>
  have:=Pt.snoc (Pt.nil (m:=m) (fr:=a)) hi hf
  exact this
 |snoc _ h2 h3 ih=>exact .snoc ih h2 h3
structure Way (m : Mp) (f : Nat → Int) (s left : List Int) (to a : Int) (l : List Int) : Prop where
 u : ∀ x ∈ l,usB m f s x.toNat = true
 c : sumR m l = gi left a.toNat
 p : Pt m a l to
 f : ∀ i,i < l.length → (gr m (gi l i).toNat).f = atP m a l i
 d : ∀ i,i < l.length → gi left (gr m (gi l i).toNat).t.toNat < gi left (atP m a l i).toNat
 e : atP m a l l.length = to
theorem Way.rt {m : Mp} {f : Nat → Int} {s left : List Int} {to a : Int} {l : List Int} (h : Way m f s left to a l) : rtB m a to l = true:=by
 have key : ∀ i,i ≤ l.length → ∀ y ∈ vis m a l i,gi left (atP m a l i).toNat ≤ gi left y.toNat:=fun i=>by
  induction i with
  |zero=>
   intro _ y hy
   have : y = a:=by simpa [vis] using hy
   rw [this];exact Int.le_refl _
  |succ i ih=>
   intro hi y hy
   rw [vis_succ m a (by omega)] at hy
   rw [atP_succ]
   rcases List.mem_append.1 hy with hy | hy
   ·have h1:=ih (by omega) y hy
    have h2:=h.d i (by omega)
    omega
   ·rw [List.mem_singleton] at hy
    rw [hy];exact Int.le_refl _
 unfold rtB
 rw [Bool.and_eq_true,List.all_eq_true,beq_iff_eq]
 refine ⟨fun i hi=>?_,h.e⟩
 have hi:=List.mem_range.1 hi
 unfold rtK
 rw [Bool.and_eq_true,beq_iff_eq,Bool.not_eq_true',decide_eq_false_iff_not]
 refine ⟨h.f i hi,fun hv=>?_⟩
 have h1:=key i (by omega) _ hv
 have h2:=h.d i hi
 omega
structure Tr where
 f : Int
 t : Int
 c : Int
 w : Int
 a : Int
 h : Int
 o : Int
 l : Int
structure Fx where
 r : Int
 k : Int
 l : Int
 c : Int
def dTr : Tr:=⟨0,0,0,0,0,0,0,0⟩
def dFx : Fx:=⟨0,0,0,0⟩
structure OTr (x : Tr) : Prop where
 f : 0 ≤ x.f ∧ x.f ≤ 255
 t : 0 ≤ x.t ∧ x.t ≤ 255
 c : 0 ≤ x.c ∧ x.c ≤ 255
 w : 0 ≤ x.w ∧ x.w ≤ 255
 a : 0 ≤ x.a ∧ x.a ≤ 255
 h : 0 ≤ x.h ∧ x.h ≤ 255
 o : 0 ≤ x.o ∧ x.o ≤ 255
 l : 0 ≤ x.l ∧ x.l ≤ 255
structure OFx (x : Fx) : Prop where
 r : 0 ≤ x.r ∧ x.r ≤ 255
 k : 0 ≤ x.k ∧ x.k ≤ 255
 l : 0 ≤ x.l ∧ x.l ≤ 255
 c : 0 ≤ x.c ∧ x.c ≤ 255
def rdT (t : Tr) : Rd:=⟨t.f % 5,(t.f % 5 + 1 + t.t % 4) % 5,1 + t.c,10 + t.c % 50,t.o * 3,min 1440 (t.o * 3 + (10 + t.c % 50) + t.l * 4),1200 + 20 * t.h,100000,10000 + 200 * t.w,3000 + 50 * t.a,100000,100000⟩
def kdF (k : Int) : Int:=if k % 3 = 0 then 0 else if k % 3 = 1 then 2 else 3
def mxF (k : Int) : Int:=if k % 3 = 0 then 6000 else if k % 3 = 1 then 80000 else 20000
def wkF (n : Int) (x : Fx) : Wrk:=⟨[x.r % n],kdF x.k,mxF x.k * (1 + x.l) / 256,1 + x.c⟩
def rdA (l : List Tr) : List Rd:=(l.take 12).map rdT
def wkA (n : Nat) (fs : List Fx) : List Wrk:=if n = 0 then [] else (fs.take 4).map (wkF n)
def atl (l : List Tr) (fs : List Fx) : Mp:=⟨5,rdA l,wkA (rdA l).length fs⟩
theorem atl_len (l : List Tr) (fs : List Fx) : (atl l fs).rs.length ≤ 12 ∧ (atl l fs).ws.length ≤ 4 ∧ (rdA l).length = min 12 l.length:=by
 have h1 : (rdA l).length = min 12 l.length:=by simp [rdA]
 refine ⟨Nat.le_trans (Nat.le_of_eq h1) (Nat.min_le_left _ _),?_,h1⟩
 show (wkA _ fs).length ≤ 4
 unfold wkA
 split
 ·simp
 ·simp only [List.length_map,List.length_take];omega
theorem wkA_mem {n : Nat} {fs : List Fx} {w : Wrk} (h : w ∈ wkA n fs) : 0 < n ∧ ∃ x ∈ fs,w = wkF n x:=by
 unfold wkA at h
 split at h
 ·cases h
 ·obtain ⟨x,hx,rfl⟩:=List.mem_map.1 h
  exact ⟨by omega,x,List.mem_of_mem_take hx,rfl⟩
theorem atl_gm (l : List Tr) (fs : List Fx) : Gm (atl l fs):=by
 obtain ⟨h1,h2,_⟩:=atl_len l fs
 exact ⟨by omega,by omega,fun w hw=>by
  obtain ⟨_,x,_,rfl⟩:=wkA_mem hw
  simp [wkF]⟩
structure Rte (m : Mp) (f : Nat → Int) (fr to : Int) (s : List Int) (n : Int) : Prop where
 srt : Srt m.ws.length 0 s
 us : ∀ x ∈ wayS m f fr to s,usB m f s x.toNat = true
 rg : ∀ x ∈ wayS m f fr to s,0 ≤ x ∧ x < m.rs.length
 len : (wayS m f fr to s).length ≤ 64
 ir : irV m fr to (wayS m f fr to s) = true ∧ irE m fr to (wayS m f fr to s) = 0
set_option maxHeartbeats 8000000
abbrev cTr (t : Tr) : List AV:=[.v (.int .u8 t.f),.v (.int .u8 t.t),.v (.int .u8 t.c),.v (.int .u8 t.w),.v (.int .u8 t.a),.v (.int .u8 t.h),.v (.int .u8 t.o),.v (.int .u8 t.l)]
abbrev aTr (l : List Tr) : AV:=.sl 8 dTr cTr l
abbrev cFx (x : Fx) : List AV:=[.v (.int .u8 x.r),.v (.int .u8 x.k),.v (.int .u8 x.l),.v (.int .u8 x.c)]
abbrev aFx (l : List Fx) : AV:=.sl 4 dFx cFx l
def sl1 (b : Bool) (x : AV) : AV:=if b = true then x else .bad
theorem sl1_t (x : AV) : sl1 true x = x:=rfl
theorem sl1_f (x : AV) : sl1 false x = .bad:=rfl
theorem le_stk {s s' : S} (ks : List Nat) (nx : Nat) (h : ∀ j,nx ≤ j → lm s.mem j = none) (he : (⟨keepL s.tm ks,s.mem,nx⟩ : S) = s') : le s s':=he ▸ le_keepL ks nx h
theorem le_two {s t u : S} (h : le s t) (k : le t u) : le s u:=fun G E a w hS=>by
 obtain ⟨E2,h2⟩:=h G E a w hS
 exact k G E2 a w h2
theorem oB {bs : List Nat} {b : Bool} {x : AV} (h : onlyB bs x = true) : onlyB bs (sl1 b x) = true:=by
 cases b
 ·rfl
 ·exact h
theorem okc {bs : List Nat} {t : Nat} {a : AV} {r : List (Nat × AV)} (h : onlyB bs a = true) (k : okTm bs r = true) : okTm bs ((t,a) :: r) = true:=by
 show (onlyB bs a && okTm bs r) = true
 rw [h,k];rfl
theorem nOK {ks bs : List Nat} {nx : Nat} {s : S} (h1 : okTm bs (ks.map fun t=>(t,lk s.tm t)) = true) (h2 : okMem bs s.mem = true) (h3 : allLt nx bs = true) : normOK ks bs nx s = true:=by
 show (okTm bs (ks.map fun t=>(t,lk s.tm t)) && okMem bs s.mem && allLt nx bs) = true
 rw [h1,h2,h3];rfl
def fW (ws : List Wrk) (w : Wrk) (i : Nat) : Bool → Blk
 |true=>.row (i + 1) 363 4 dW cW (ws ++ [w])
 |false=>.row i 363 4 dW cW ws
def fC (n i : Nat) : Bool → Blk
 |true=>.cells [iv 5,.row 5 n,.row 6 (i + 1)]
 |false=>.cells [iv 5,.row 5 n,.row 6 i]
abbrev fZ : Blk:=.cells [iv 0,.v (.slice none 0 0),.v (.slice none 0 0)]
abbrev fM (RA : List Rd) (ws : List Wrk) (i : Nat) (b : Fx) (x y : Bool) : List (Nat × Blk):=[(6,fW ws (wkF RA.length b) i x),(5,.row RA.length 358 12 dR cR RA),(0,fZ),(2,fC RA.length i y),(34,.cells (cFx b))]
theorem fM_no (RA : List Rd) (ws : List Wrk) (i : Nat) (b : Fx) (x y : Bool) (q : Nat) (hq : 90 ≤ q) : lm (fM RA ws i b x y) q = none:=by
 simp only [lm]
 repeat rw [if_neg (by omega)]
def kS46 : List Nat:=[1,4,5,9,10,11,116,117,118,119,120,121,122,123,124,125,126,127,128,129,130,131,132,133,134,135,136,137,138,139,140,141,142,143,144,145,146]
def fS (fs : List Fx) (RA : List Rd) (ws : List Wrk) (i : Nat) (b : Fx) (D : Nat → Bool) : S:=
 ⟨[(1,aFx fs),(4,.own 0 0),(5,.own 2 0),(9,iv i),(10,.own 34 0),(11,iv (kdF b.k)),(116,sl1 (D 0) (.own 2 2)),(117,sl1 (D 1) (.row 6 i)),(118,sl1 (D 2) (.own 34 0)),(119,sl1 (D 3) (.v (.int .u8 b.r))),(120,sl1 (D 4) (iv b.r)),(121,sl1 (D 5) (.own 2 1)),(122,sl1 (D 6) (.row 5 RA.length)),(123,sl1 (D 7) (iv RA.length)),(124,sl1 (D 8) (iv (b.r % RA.length))),(125,sl1 (D 9) (aI [b.r % RA.length])),(126,sl1 (D 10) (iv (kdF b.k))),(127,sl1 (D 11) (.agg [iv 6000,iv 80000,iv 20000])),(128,sl1 (D 12) (.own 34 1)),(129,sl1 (D 13) (.v (.int .u8 b.k))),(130,sl1 (D 14) (iv b.k)),(131,sl1 (D 15) (iv (b.k % 3))),(132,sl1 (D 16) (iv (mxF b.k))),(133,sl1 (D 17) (.own 34 2)),(134,sl1 (D 18) (.v (.int .u8 b.l))),(135,sl1 (D 19) (iv b.l)),(136,sl1 (D 20) (iv (1 + b.l))),(137,sl1 (D 21) (iv (mxF b.k * (1 + b.l)))),(138,sl1 (D 22) (iv (mxF b.k * (1 + b.l) / 256))),(139,sl1 (D 23) (.own 34 3)),(140,sl1 (D 24) (.v (.int .u8 b.c))),(141,sl1 (D 25) (iv b.c)),(142,sl1 (D 26) (iv (1 + b.c))),(143,sl1 (D 27) (.agg (cW (wkF RA.length b)))),(144,sl1 (D 28) (aW [wkF RA.length b])),(145,sl1 (D 29) (.row 6 (i + 1))),(146,sl1 (D 30) (.own 2 2))],fM RA ws i b (D 29) (D 31),90⟩
theorem nth_mx {k : Int} (h : 0 ≤ k) : nth [iv 6000,iv 80000,iv 20000] ((k % 3).toNat * 1) = iv (mxF k):=by
 have : k % 3 = 0 ∨ k % 3 = 1 ∨ k % 3 = 2:=by omega
 unfold mxF
 rcases this with q | q | q <;> rw [q] <;> rfl
theorem nth_kd {k : Int} (h : 0 ≤ k) : nth [iv 0,iv 2,iv 3] ((k % 3).toNat * 1) = iv (kdF k):=by
 have : k % 3 = 0 ∨ k % 3 = 1 ∨ k % 3 = 2:=by omega
 unfold kdF
 rcases this with q | q | q <;> rw [q] <;> rfl
theorem t46 (fs : List Fx) (RA : List Rd) (ws : List Wrk) (i : Nat) (b : Fx) (hb : OFx b) (hR : 0 < RA.length ∧ RA.length ≤ 12) (hw : ws.length = i) (hi : i < 4) {Q : Ex → S → Prop}
  (hQ : Q .n ⟨[(1,aFx fs),(4,.own 0 0),(5,.own 2 0),(9,iv i)],fM RA ws i b true true,90⟩) :
  W Tryz.prog 148 Xn132_46 ⟨[(1,aFx fs),(4,.own 0 0),(5,.own 2 0),(9,iv i),(10,.own 34 0),(11,iv (kdF b.k))],[(6,.row i 363 4 dW cW ws),(5,.row RA.length 358 12 dR cR RA),(0,fZ),(2,.cells [iv 5,.row 5 RA.length,.row 6 i]),(34,.cells (cFx b))],43⟩ Q:=by
 obtain ⟨b1,b2,b3,b4⟩:=hb
 have e1 : b.k.tmod 3 = b.k % 3:=Int.tmod_eq_emod_of_nonneg b2.1
 have e2 : b.r.tmod RA.length = b.r % RA.length:=Int.tmod_eq_emod_of_nonneg b1.1
 have hm : 0 ≤ b.r % (RA.length : Int) ∧ b.r % (RA.length : Int) < RA.length:=⟨Int.emod_nonneg _ (by omega),Int.emod_lt_of_pos _ (by omega)⟩
 have hx : 0 ≤ mxF b.k ∧ mxF b.k ≤ 80000:=by unfold mxF;split <;> (try split) <;> omega
 have hp : 0 ≤ mxF b.k * (1 + b.l) ∧ mxF b.k * (1 + b.l) ≤ 80000 * 256:=⟨Int.mul_nonneg hx.1 (by omega),Int.mul_le_mul hx.2 (by omega) (by omega) (by omega)⟩
 have e3 : (mxF b.k * (1 + b.l)).tdiv 256 = mxF b.k * (1 + b.l) / 256:=Int.tdiv_eq_ediv_of_nonneg hp.1
 have em:=nth_mx b2.1
 have ew : cW (wkF RA.length b) = [aI [b.r % RA.length],iv (kdF b.k),iv (mxF b.k * (1 + b.l) / 256),iv (1 + b.c)]:=rfl
 refine W_regJ (fS fs RA ws i b) ?_ (fun D i' ro m hro hms hD ha hcl=>?_) (fun D hD=>?_)
 ·exact le_stk kS46 90 (fun z hz=>fM_no RA ws i b false false z hz) (by rfl)
 ·have off : ∀ (x y w : Nat),D y = false → [0,1,0,4,12,0,32,96,252,508,0,0,0,4096,12288,28672,63488,0,131072,393216,917504,2095104,4192256,0,8388608,25165824,58720256,134217724,268435452,536870911,1073741823,2147483647][x]? = some w → tb w y → D x = false:=fun x y w hy hw hb=>by
   rw [← Bool.not_eq_true]
   intro z
   rw [hcl x w z hw y hb] at hy
   cases hy
  have L : ∀ (x y : Bool) (z : Nat),90 ≤ z → lm (fM RA ws i b x y) z = none:=fun x y z hz=>fM_no RA ws i b x y z hz
  rcases i' with _ | _ | _ | _ | _ | _ | _ | _ | _ | _ | _ | _ | _ | _ | _ | _ | _ | _ | _ | _ | _ | _ | _ | _ | _ | _ | _ | _ | _ | _ | _ | _ | i'
  all_goals simp only [List.getElem?_cons_zero,List.getElem?_cons_succ,List.getElem?_nil,Option.some.injEq,reduceCtorEq] at hro hms
  all_goals subst hro
  all_goals subst hms
  all_goals unfold fS
  have h29:=off 29 0 536870911 hD rfl (by unfold tb;decide)
  have h31:=off 31 0 2147483647 hD rfl (by unfold tb;decide)
  simp only [h29,h31]
  rotate_left
  have a0:=ha 0 (by unfold tb;decide)
  have h29:=off 29 1 536870911 hD rfl (by unfold tb;decide)
  have h31:=off 31 1 2147483647 hD rfl (by unfold tb;decide)
  simp only [a0,h29,h31]
  rotate_left
  have h29:=off 29 2 536870911 hD rfl (by unfold tb;decide)
  have h31:=off 31 2 2147483647 hD rfl (by unfold tb;decide)
  simp only [h29,h31]
  rotate_left
  have a2:=ha 2 (by unfold tb;decide)
  have h29:=off 29 3 536870911 hD rfl (by unfold tb;decide)
  have h31:=off 31 3 2147483647 hD rfl (by unfold tb;decide)
  simp only [a2,h29,h31]
  rotate_left
  have a3:=ha 3 (by unfold tb;decide)
  have h29:=off 29 4 536870911 hD rfl (by unfold tb;decide)
  have h31:=off 31 4 2147483647 hD rfl (by unfold tb;decide)
  simp only [a3,h29,h31]
  rotate_left
  have h29:=off 29 5 536870911 hD rfl (by unfold tb;decide)
  have h31:=off 31 5 2147483647 hD rfl (by unfold tb;decide)
  simp only [h29,h31]
  rotate_left
  have a5:=ha 5 (by unfold tb;decide)
  have h29:=off 29 6 536870911 hD rfl (by unfold tb;decide)
  have h31:=off 31 6 2147483647 hD rfl (by unfold tb;decide)
  simp only [a5,h29,h31]
  rotate_left
  have a6:=ha 6 (by unfold tb;decide)
  have h29:=off 29 7 536870911 hD rfl (by unfold tb;decide)
  have h31:=off 31 7 2147483647 hD rfl (by unfold tb;decide)
  simp only [a6,h29,h31]
  rotate_left
  have a4:=ha 4 (by unfold tb;decide)
  have a7:=ha 7 (by unfold tb;decide)
  have h29:=off 29 8 536870911 hD rfl (by unfold tb;decide)
  have h31:=off 31 8 2147483647 hD rfl (by unfold tb;decide)
  simp only [a4,a7,h29,h31]
  rotate_left
  have a8:=ha 8 (by unfold tb;decide)
  have h29:=off 29 9 536870911 hD rfl (by unfold tb;decide)
  have h31:=off 31 9 2147483647 hD rfl (by unfold tb;decide)
  simp only [a8,h29,h31]
  simp (maxSteps:=400000) (disch:=omega) only [push_cast,↓reduceIte,reduceCtorEq,Nat.reduceAdd,Nat.reduceSub,Nat.reduceEqDiff,Nat.reduceLeDiff,Nat.reduceLT,Nat.reduceBEq,Nat.reduceDiv,Nat.reduceMod,Nat.reducePow,Nat.reduceMul,Int.reduceToNat,Int.reduceLT,Int.reduceLE,sl1_t,sl1_f,fW,fC,e1,e2,e3,em,hD]
  refine ⟨rfl,trivial,Int,0,cI,[b.r % RA.length],rfl,by omega,fun x _=>⟨rfl,rfl⟩,rfl,?_⟩
  simp (maxSteps:=400000) (disch:=omega) only [push_cast,↓reduceIte,reduceCtorEq,Nat.reduceAdd,Nat.reduceSub,Nat.reduceEqDiff,Nat.reduceLeDiff,Nat.reduceLT,Nat.reduceBEq,Nat.reduceDiv,Nat.reduceMod,Nat.reducePow,Nat.reduceMul,Int.reduceToNat,Int.reduceLT,Int.reduceLE,sl1_t,sl1_f,fW,fC,e1,e2,e3,em,hD]
  refine le_two (le_frzR 125 [1,4,5,9,10,11,116,117,118,119,120,121,122,123,124,126,127,128,129,130,131,132,133,134,135,136,137,138,139,140,141,142,143,144,145,146] [6,5,0,2,34] 91 90 0 3 1 0 cI [b.r % RA.length] rfl rfl rfl (nOK (by repeat (first | exact rfl | refine okc rfl ?_ | refine okc (oB rfl) ?_)) rfl rfl)) ?_
  first | exact le_stk kS46 90 (L false false) (by rfl) | exact ⟨by decide,le_stk kS46 90 (L false false) (by rfl)⟩ | exact ⟨by omega,le_stk kS46 90 (L false false) (by rfl)⟩
  have h29:=off 29 10 536870911 hD rfl (by unfold tb;decide)
  have h31:=off 31 10 2147483647 hD rfl (by unfold tb;decide)
  simp only [h29,h31]
  rotate_left
  have h29:=off 29 11 536870911 hD rfl (by unfold tb;decide)
  have h31:=off 31 11 2147483647 hD rfl (by unfold tb;decide)
  simp only [h29,h31]
  rotate_left
  have h29:=off 29 12 536870911 hD rfl (by unfold tb;decide)
  have h31:=off 31 12 2147483647 hD rfl (by unfold tb;decide)
  simp only [h29,h31]
  rotate_left
  have a12:=ha 12 (by unfold tb;decide)
  have h29:=off 29 13 536870911 hD rfl (by unfold tb;decide)
  have h31:=off 31 13 2147483647 hD rfl (by unfold tb;decide)
  simp only [a12,h29,h31]
  rotate_left
  have a13:=ha 13 (by unfold tb;decide)
  have h29:=off 29 14 536870911 hD rfl (by unfold tb;decide)
  have h31:=off 31 14 2147483647 hD rfl (by unfold tb;decide)
  simp only [a13,h29,h31]
  rotate_left
  have a14:=ha 14 (by unfold tb;decide)
  have h29:=off 29 15 536870911 hD rfl (by unfold tb;decide)
  have h31:=off 31 15 2147483647 hD rfl (by unfold tb;decide)
  simp only [a14,h29,h31]
  rotate_left
  have a11:=ha 11 (by unfold tb;decide)
  have a15:=ha 15 (by unfold tb;decide)
  have h29:=off 29 16 536870911 hD rfl (by unfold tb;decide)
  have h31:=off 31 16 2147483647 hD rfl (by unfold tb;decide)
  simp only [a11,a15,h29,h31]
  rotate_left
  have h29:=off 29 17 536870911 hD rfl (by unfold tb;decide)
  have h31:=off 31 17 2147483647 hD rfl (by unfold tb;decide)
  simp only [h29,h31]
  rotate_left
  have a17:=ha 17 (by unfold tb;decide)
  have h29:=off 29 18 536870911 hD rfl (by unfold tb;decide)
  have h31:=off 31 18 2147483647 hD rfl (by unfold tb;decide)
  simp only [a17,h29,h31]
  rotate_left
  have a18:=ha 18 (by unfold tb;decide)
  have h29:=off 29 19 536870911 hD rfl (by unfold tb;decide)
  have h31:=off 31 19 2147483647 hD rfl (by unfold tb;decide)
  simp only [a18,h29,h31]
  rotate_left
  have a19:=ha 19 (by unfold tb;decide)
  have h29:=off 29 20 536870911 hD rfl (by unfold tb;decide)
  have h31:=off 31 20 2147483647 hD rfl (by unfold tb;decide)
  simp only [a19,h29,h31]
  rotate_left
  have a16:=ha 16 (by unfold tb;decide)
  have a20:=ha 20 (by unfold tb;decide)
  have h29:=off 29 21 536870911 hD rfl (by unfold tb;decide)
  have h31:=off 31 21 2147483647 hD rfl (by unfold tb;decide)
  simp only [a16,a20,h29,h31]
  rotate_left
  have a21:=ha 21 (by unfold tb;decide)
  have h29:=off 29 22 536870911 hD rfl (by unfold tb;decide)
  have h31:=off 31 22 2147483647 hD rfl (by unfold tb;decide)
  simp only [a21,h29,h31]
  rotate_left
  have h29:=off 29 23 536870911 hD rfl (by unfold tb;decide)
  have h31:=off 31 23 2147483647 hD rfl (by unfold tb;decide)
  simp only [h29,h31]
  rotate_left
  have a23:=ha 23 (by unfold tb;decide)
  have h29:=off 29 24 536870911 hD rfl (by unfold tb;decide)
  have h31:=off 31 24 2147483647 hD rfl (by unfold tb;decide)
  simp only [a23,h29,h31]
  rotate_left
  have a24:=ha 24 (by unfold tb;decide)
  have h29:=off 29 25 536870911 hD rfl (by unfold tb;decide)
  have h31:=off 31 25 2147483647 hD rfl (by unfold tb;decide)
  simp only [a24,h29,h31]
  rotate_left
  have a25:=ha 25 (by unfold tb;decide)
  have h29:=off 29 26 536870911 hD rfl (by unfold tb;decide)
  have h31:=off 31 26 2147483647 hD rfl (by unfold tb;decide)
  simp only [a25,h29,h31]
  rotate_left
  have a9:=ha 9 (by unfold tb;decide)
  have a10:=ha 10 (by unfold tb;decide)
  have a22:=ha 22 (by unfold tb;decide)
  have a26:=ha 26 (by unfold tb;decide)
  have h29:=off 29 27 536870911 hD rfl (by unfold tb;decide)
  have h31:=off 31 27 2147483647 hD rfl (by unfold tb;decide)
  simp only [a9,a10,a22,a26,h29,h31]
  rotate_left
  have a27:=ha 27 (by unfold tb;decide)
  have h29:=off 29 28 536870911 hD rfl (by unfold tb;decide)
  have h31:=off 31 28 2147483647 hD rfl (by unfold tb;decide)
  simp only [a27,h29,h31]
  simp (maxSteps:=400000) (disch:=omega) only [push_cast,↓reduceIte,reduceCtorEq,Nat.reduceAdd,Nat.reduceSub,Nat.reduceEqDiff,Nat.reduceLeDiff,Nat.reduceLT,Nat.reduceBEq,Nat.reduceDiv,Nat.reduceMod,Nat.reducePow,Nat.reduceMul,Int.reduceToNat,Int.reduceLT,Int.reduceLE,sl1_t,sl1_f,fW,fC,e1,e2,e3,em,hD]
  refine ⟨rfl,trivial,Wrk,dW,cW,[wkF RA.length b],rfl,by omega,fun x _=>⟨rfl,rfl⟩,rfl,?_⟩
  simp (maxSteps:=400000) (disch:=omega) only [push_cast,↓reduceIte,reduceCtorEq,Nat.reduceAdd,Nat.reduceSub,Nat.reduceEqDiff,Nat.reduceLeDiff,Nat.reduceLT,Nat.reduceBEq,Nat.reduceDiv,Nat.reduceMod,Nat.reducePow,Nat.reduceMul,Int.reduceToNat,Int.reduceLT,Int.reduceLE,sl1_t,sl1_f,fW,fC,e1,e2,e3,em,hD]
  refine le_two (le_frzR 144 [1,4,5,9,10,11,116,117,118,119,120,121,122,123,124,125,126,127,128,129,130,131,132,133,134,135,136,137,138,139,140,141,142,143,145,146] [6,5,0,2,34] 91 90 0 363 4 dW cW [wkF RA.length b] rfl rfl rfl (nOK (by repeat (first | exact rfl | refine okc rfl ?_ | refine okc (oB rfl) ?_)) rfl rfl)) ?_
  first | exact le_stk kS46 90 (L false false) (by rfl) | exact ⟨by decide,le_stk kS46 90 (L false false) (by rfl)⟩ | exact ⟨by omega,le_stk kS46 90 (L false false) (by rfl)⟩
  have a1:=ha 1 (by unfold tb;decide)
  have a28:=ha 28 (by unfold tb;decide)
  have h31:=off 31 29 2147483647 hD rfl (by unfold tb;decide)
  simp only [a1,a28,h31]
  simp (maxSteps:=400000) (disch:=omega) only [push_cast,↓reduceIte,reduceCtorEq,Nat.reduceAdd,Nat.reduceSub,Nat.reduceEqDiff,Nat.reduceLeDiff,Nat.reduceLT,Nat.reduceBEq,Nat.reduceDiv,Nat.reduceMod,Nat.reducePow,Nat.reduceMul,Int.reduceToNat,Int.reduceLT,Int.reduceLE,sl1_t,sl1_f,fW,fC,e1,e2,e3,em,hD]
  refine ⟨rfl,⟨Nat.le_of_ble_eq_true rfl,rfl⟩,trivial,[wkF RA.length b],rfl,by first | omega | (simp;omega),by first | omega | (simp;omega),?_⟩
  (refine sy1 ?_;try exact tTI)
  exact le_stk kS46 90 (L true false) (by rfl)
  have a29:=ha 29 (by unfold tb;decide)
  have h31:=off 31 30 2147483647 hD rfl (by unfold tb;decide)
  simp only [a29,h31]
  rotate_left
  have a29:=ha 29 (by unfold tb;decide)
  have a30:=ha 30 (by unfold tb;decide)
  simp only [a29,a30]
  rotate_left
  all_goals simp (maxSteps:=400000) (disch:=omega) only [push_cast,↓reduceIte,reduceCtorEq,Nat.reduceAdd,Nat.reduceSub,Nat.reduceEqDiff,Nat.reduceLeDiff,Nat.reduceLT,Nat.reduceBEq,Nat.reduceDiv,Nat.reduceMod,Nat.reducePow,Nat.reduceMul,Int.reduceToNat,Int.reduceLT,Int.reduceLE,sl1_t,sl1_f,fW,fC,e1,e2,e3,em,hD]
  iterate 29 first | exact le_stk kS46 90 (L false false) (by rfl) | exact ⟨by decide,le_stk kS46 90 (L false false) (by rfl)⟩ | exact ⟨by omega,le_stk kS46 90 (L false false) (by rfl)⟩ | exact le_stk kS46 90 (L true false) (by rfl) | exact ⟨by decide,le_stk kS46 90 (L true false) (by rfl)⟩ | exact le_stk kS46 90 (L true true) (by rfl) | exact ⟨by decide,le_stk kS46 90 (L true true) (by rfl)⟩
 ·have d29:=hD 29 (by decide)
  have d31:=hD 31 (by decide)
  refine ⟨_,le.refl _,?_⟩
  unfold fS
  rw [d29,d31]
  exact hQ
end Go.Proofs.YtgiedelaebdooaaGreat.R
