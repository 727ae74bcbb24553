/- Part 3 of the proof of: The chapter's examples hold: begin, hold, end, close, tell and the plans between them. -/
import Derived.Test.YtmekmmgiamjfoaaP2
import Derived.Shelf.Sort.Plain
import Derived.Shelf.Slices.In.SortNone
import Derived.RecoverIn
namespace Sy
open Go Go.RowKit
set_option linter.unusedVariables false
set_option linter.unusedSimpArgs false
theorem le_moveC {s : S} (t K K2 : Nat) (ks bs : List Nat) (nx : Nat) (l : List AV) (ht : lk s.tm t = .own K2 0) (hm : lm s.mem K2 = some (.cells l)) (hl : frzAll l = true) (hK : has bs K = false) (hK2 : has bs K2 = false)
  (h1 : okTm bs (ks.map fun t=>(t,lk s.tm t)) = true) (h2 : okMem bs s.mem = true) (hn : allLt nx bs = true) (hKn : K < nx) :
  le s ⟨(t,.own K 0) :: ks.map (fun t=>(t,lk s.tm t)),(K,.cells l) :: keepM bs s.mem,nx⟩:=by
 intro G E a w hS
 let E' : Env:=⟨fun k=>if k = K then E.b K2 else if has bs k then E.b k else none,fun k s'=>if has bs k then E.h k s' else none,E.F⟩
 have hne : ∀ k,has bs k = true → k ≠ K:=fun k hk e=>by rw [e,hK] at hk;cases hk
 have hb : ∀ k,has bs k = true → E'.b k = E.b k:=fun k hk=>by simp [E',hk,hne k hk]
 have hh : ∀ k,has bs k = true → ∀ s,E'.h k s = E.h k s:=fun k hk s=>by simp [E',hk]
 have hle : (E.res bs).le E':={
  b:=fun k x hx=>by
   simp only [Env.res] at hx
   split at hx
   ·rename_i hk;rw [hb k hk];exact hx
   ·cases hx
  h:=fun k s x hx=>by
   simp only [Env.res] at hx
   split at hx
   ·rename_i hk;rw [hh k hk];exact hx
   ·cases hx
  F:=fun _ h=>h }
 have hres : ∀ (a : AV) (y : Value),onlyB bs a = true → sat E w a y → sat E' w a y:=fun a y ho hs=>sat_mono hle (fun _ _=>rfl) a y (sat_res a y ho hs)
 have hKh : E'.b K = E.b K2:=by simp [E']
 have hlm : ∀ k blk,lm ((K,Blk.cells l) :: keepM bs s.mem) k = some blk → (k = K ∧ blk = .cells l) ∨ (has bs k = true ∧ lm s.mem k = some blk):=fun k blk hk=>by
  simp only [lm] at hk
  split at hk
  ·rename_i h;cases hk;exact .inl ⟨h,rfl⟩
  ·rw [lm_keepM] at hk
   split at hk
   ·rename_i h;exact .inr ⟨h,hk⟩
   ·cases hk
 have hrow:=hS.st.memv K2 _ hm
 have hloc : blkLoc E' K (.cells l) = blkLoc E K2 (.cells l):=by simp only [blkLoc,hKh]
 refine ⟨E',⟨?_,fun k hk=>?_⟩⟩
 ·exact {
   ext:=hS.st.ext
   fz:=hS.st.fz
   tmv:=fun t'=>by
    simp only [lk]
    split
    ·rename_i h;subst h
     have:=hS.st.tmv t'
     rw [ht] at this
     simp only [sat] at this ⊢
     obtain ⟨x,q1,q2⟩:=this
     exact ⟨x,by rw [hKh];exact q1,q2⟩
    ·refine hres _ _ (okTm_spec h1) ?_
     rcases lk_keep ks (lk s.tm) t' with h | h
     ·rw [h];exact hS.st.tmv t'
     ·rw [h];simp only [sat]
   sz:=hS.st.sz
   memv:=fun k blk hk=>by
    rcases hlm k blk hk with ⟨rfl,rfl⟩ | ⟨hk1,hk2⟩
    ·obtain ⟨b,cs,T,q1,q2,q3,q4⟩:=hrow
     exact ⟨b,cs,T,by rw [hKh];exact q1,q2,q3,satL_mono hle (fun _ _=>rfl) _ _ (satL_res _ _ (onlyL_frz1 bs _ hl) q4)⟩
    have hbs:=hS.st.memv k blk hk2
    have ho:=okMem_spec h2 hk1 hk2
    cases blk with
    |cells l=>
     obtain ⟨b,cs,T,q1,q2,q3,q4⟩:=hbs
     exact ⟨b,cs,T,by rw [hb k hk1];exact q1,q2,q3,satL_mono hle (fun _ _=>rfl) _ _ (satL_res _ _ (by simpa only [okBlk] using ho) q4)⟩
    |row s' e n d f l=>
     obtain ⟨v,xs,q1,q2,q3,q4⟩:=hbs
     exact ⟨v,xs,by rw [hh k hk1];exact q1,q2,q3,q4⟩
    |oth x=>
     cases x with
     |fr vs tm=>exact fun t=>hres _ _ (okTm_spec ho) (hbs t)
     |lp l rec tm=>exact ⟨hbs.1,hbs.2.1,fun t=>hres _ _ (okTm_spec ho) (hbs.2.2 t)⟩
     |mp b kd g=>exact hbs
     |si b s pos=>exact hbs
     |nm k' b=>exact (hb k' ho).trans hbs
   inj:=fun k k' blk blk' b hk hk' hbl hbl'=>by
    rcases hlm k blk hk with ⟨rfl,rfl⟩ | ⟨hk1,hk2⟩
    ·rcases hlm k' blk' hk' with ⟨rfl,rfl⟩ | ⟨hk1',hk2'⟩
     ·rfl
     ·exfalso
      rw [hloc] at hbl
      rw [blkLoc_same (hb k' hk1') (hh k' hk1')] at hbl'
      have:=hS.st.inj K2 k' _ blk' b hm hk2' hbl hbl'
      rw [← this,hK2] at hk1';cases hk1'
    ·rcases hlm k' blk' hk' with ⟨rfl,rfl⟩ | ⟨hk1',hk2'⟩
     ·exfalso
      rw [hloc] at hbl'
      rw [blkLoc_same (hb k hk1) (hh k hk1)] at hbl
      have:=hS.st.inj k K2 blk _ b hk2 hm hbl hbl'
      rw [this,hK2] at hk1;cases hk1
     ·rw [blkLoc_same (hb k hk1) (hh k hk1)] at hbl
      rw [blkLoc_same (hb k' hk1') (hh k' hk1')] at hbl'
      exact hS.st.inj k k' blk blk' b hk2 hk2' hbl hbl'
   nF:=fun k blk b hk hbl=>by
    rcases hlm k blk hk with ⟨rfl,rfl⟩ | ⟨hk1,hk2⟩
    ·rw [hloc] at hbl
     exact hS.st.nF K2 _ b hm hbl
    ·rw [blkLoc_same (hb k hk1) (hh k hk1)] at hbl
     exact hS.st.nF k blk b hk2 hbl
   fresh:=fun k hk=>by
    have hkK : k ≠ K:=fun e=>by
     subst e
     simp [lm] at hk
    have hk' : lm (keepM bs s.mem) k = none:=by
     have : lm ((K,Blk.cells l) :: keepM bs s.mem) k = none:=hk
     simp only [lm] at this
     rwa [if_neg hkK] at this
    by_cases hx : has bs k = true
    ·rw [lm_keepM,if_pos hx] at hk'
     obtain ⟨q1,q2⟩:=hS.st.fresh k hk'
     exact ⟨by rw [hb k hx];exact q1,fun s=>by rw [hh k hx];exact q2 s⟩
    ·exact ⟨by simp [E',hx,hkK],fun s=>by simp [E',hx]⟩
   stampC:=fun k l s' hk=>by
    rcases hlm k _ hk with ⟨rfl,h⟩ | ⟨hk1,hk2⟩
    ·simp [E',hK]
    ·rw [hh k hk1];exact hS.st.stampC k l s' hk2
   stampR:=fun k s' e n' α' d' f' l' hk=>by
    rcases hlm k _ hk with ⟨rfl,h⟩ | ⟨hk1,hk2⟩
    ·cases h
    ·have:=hS.st.stampR k s' e n' α' d' f' l' hk2
     exact ⟨by rw [hb k hk1];exact this.1,fun s'' hs=>by rw [hh k hk1];exact this.2 s'' hs⟩
   stampO:=fun k x hk=>by
    rcases hlm k _ hk with ⟨_,h⟩ | ⟨hk1,hk2⟩
    ·cases h
    ·have:=hS.st.stampO k x hk2
     exact ⟨by rw [hb k hk1];exact this.1,fun s''=>by rw [hh k hk1];exact this.2 s''⟩
   df:=hS.st.df
   dn:=hS.st.dn
   bt:=hS.st.bt
   kd:=hS.st.kd
   kF:=hS.st.kF
   rd:=hS.st.rd }
 ·show lm ((K,Blk.cells l) :: keepM bs s.mem) k = none
  have hk' : nx ≤ k:=hk
  simp only [lm]
  rw [if_neg (by omega),lm_keepM]
  split
  ·rename_i hx
   have:=allLt_spec hn hx;omega
  ·rfl
theorem lm_end {K : Nat} {b : Blk} : ∀ {M : List (Nat × Blk)},lm M K = none → ∀ k,lm (M ++ [(K,b)]) k = lm ((K,b) :: M) k
 |[],_,k=>rfl
 |(s,a) :: M,h,k=>by
  simp only [lm] at h
  split at h
  ·cases h
  ·rename_i hne
   have ih:=lm_end (b:=b) h k
   simp only [List.cons_append,lm] at ih ⊢
   rw [ih]
   by_cases q : k = K
   ·subst q;simp [hne]
   ·simp [q]
theorem le_moveE {s : S} (t K K2 : Nat) (ks bs : List Nat) (nx : Nat) (l : List AV) (ht : lk s.tm t = .own K2 0) (hm : lm s.mem K2 = some (.cells l)) (hl : frzAll l = true) (hK : has bs K = false) (hK2 : has bs K2 = false)
  (h1 : okTm bs (ks.map fun t=>(t,lk s.tm t)) = true) (h2 : okMem bs s.mem = true) (hn : allLt nx bs = true) (hKn : K < nx) :
  le s ⟨(t,.own K 0) :: ks.map (fun t=>(t,lk s.tm t)),keepM bs s.mem ++ [(K,.cells l)],nx⟩:=by
 have h0 : lm (keepM bs s.mem) K = none:=by rw [lm_keepM,if_neg (by rw [hK];simp)]
 refine (le_moveC t K K2 ks bs nx l ht hm hl hK hK2 h1 h2 hn hKn).trans (leS_same (s:=⟨(t,.own K 0) :: ks.map (fun t=>(t,lk s.tm t)),(K,.cells l) :: keepM bs s.mem,nx⟩) (keepM bs s.mem ++ [(K,.cells l)]) nx (fun k=>lm_end h0 k) (fun k hk=>?_)).le
 rw [lm_end h0]
 simp only [lm]
 rw [if_neg (by omega),lm_keepM]
 split
 ·rename_i hx
  have:=allLt_spec hn hx;omega
 ·rfl
section
variable {P : Program} {N : Nat} {c : C} {s : S} {Q : Ex → S → Prop}
theorem le_slot (t : Nat) (x : AV) (h : ∀ (G : Gl) (E : Env) (a : Act) (w : World),SatS G s E a w → ∀ y,sat E w (lk s.tm t) y → sat E w x y) : le s ⟨(t,x) :: s.tm,s.mem,s.nx⟩:=
 le_tm _ fun G E a w hS t'=>by
  simp only [lk]
  split
  ·rename_i e
   rw [e]
   exact h G E a w hS _ (hS.st.tmv t)
  ·exact hS.st.tmv t'
end
structure Ext (nx : Nat) (R : Mem) (nx2 : Nat) (R2 : Mem) : Prop where
 n : nx ≤ nx2
 eq : ∀ j,j < nx → lm R2 j = lm R j
 hi : ∀ j,nx2 ≤ j → lm R2 j = none
theorem Ext.refl {N0 nx : Nat} {R : Mem} (h : Opq N0 R nx) : Ext nx R nx R:=⟨Nat.le_refl _,fun _ _=>rfl,h.hi⟩
theorem Ext.trans {a b c : Nat} {A B C : Mem} (h : Ext a A b B) (k : Ext b B c C) : Ext a A c C:=
 ⟨Nat.le_trans h.n k.n,fun j hj=>(k.eq j (Nat.lt_of_lt_of_le hj h.n)).trans (h.eq j hj),k.hi⟩
theorem Ext.opq {N0 nx nx2 : Nat} {R R2 : Mem} (h : Ext nx R nx2 R2) (k : Opq N0 R nx) : Opq N0 R2 nx2:=
 ⟨Nat.le_trans k.n h.n,fun j hj=>(h.eq j (Nat.lt_of_lt_of_le hj k.n)).trans (k.lo j hj),h.hi⟩
theorem Ext.push {a nx b nx2 : Nat} {R R2 : Mem} {g : Blk} (h : Ext a R nx R2) (h1 : nx ≤ b) (h2 : b < nx2) : Ext a R nx2 ((b,g) :: R2):=
 ⟨by have:=h.n;omega,fun j hj=>by have:=h.n;simp only [lm];rw [if_neg (by omega)];exact h.eq j hj,fun j hj=>by simp only [lm];rw [if_neg (by omega)];exact h.hi j (by omega)⟩
theorem Ext.set {a nx b nx2 : Nat} {R R2 : Mem} {g : Blk} (h : Ext a R nx R2) (h1 : nx ≤ b) (h2 : b < nx2) : Ext a R nx2 (setm R2 b g):=
 ⟨by have:=h.n;omega,fun j hj=>by have:=h.n;rw [lm_set_other _ _ (by omega)];exact h.eq j hj,fun j hj=>by rw [lm_set_other _ _ (by omega)];exact h.hi j (by omega)⟩
theorem Ext.up {a nx nx2 : Nat} {R R2 : Mem} (h : Ext a R nx R2) (h1 : nx ≤ nx2) : Ext a R nx2 R2:=⟨Nat.le_trans h.n h1,h.eq,fun j hj=>h.hi j (by omega)⟩
theorem Ext.dn {a a' b : Nat} {A B : Mem} (h : Ext a' A b B) (ha : a ≤ a') : Ext a A b B:=⟨Nat.le_trans ha h.n,fun j hj=>h.eq j (Nat.lt_of_lt_of_le hj ha),h.hi⟩
def sameM (m m' : Mem) : Prop:=∀ k,lm m k = lm m' k
theorem sameM.refl (m : Mem) : sameM m m:=fun _=>rfl
theorem sameM.trans {a b c : Mem} (h : sameM a b) (k : sameM b c) : sameM a c:=fun j=>(h j).trans (k j)
theorem sameM.cons {n : Nat} {g : Blk} {a b : Mem} (h : sameM a b) : sameM ((n,g) :: a) ((n,g) :: b):=fun k=>by simp only [lm];rw [h k]
theorem leS_sameM {s : S} (m : Mem) (nx : Nat) (h : sameM m s.mem) (hn : ∀ k,nx ≤ k → lm m k = none) : leS s ⟨s.tm,m,nx⟩:=leS_same m nx h hn
theorem ne_l {k s : Nat} (h : k < s) : (k = s) = False:=eq_false (by omega)
theorem ne_r {k s : Nat} (h : s < k) : (k = s) = False:=eq_false (by omega)
section
variable {P : Program} {N : Nat}
theorem W_loopJ {s : S} {Q : Ex → S → Prop} {c : C} {ks : List Nat} (J : S → Nat → Prop) (h₀ : ∃ s' n,le s s' ∧ J s' n)
  (h : ∀ s n,J s n → W P N c s (thenQ (fun s'=>∃ s'' m,m < n ∧ le s' s'' ∧ J s'' m) Q)) : W P N (loopL ks c) s Q:=by
 intro hm code fz ht r nf G E x w hG hS
 obtain ⟨c1,rfl,h1⟩:=trC_loop ht
 obtain ⟨s0,n0,hs,hJ0⟩:=h₀
 obtain ⟨E₀,hS₀⟩:=hs G E x w hS
 have key : ∀ (I' : Act → World → Prop) (μ' : Act → World → Nat),(∀ a w,I' a w → ∃ s,J s (μ' a w) ∧ ∃ E,SatS G s E a w) →
   (∀ s n E a w,J s n → SatS G s E a w → I' a w ∧ μ' a w ≤ n) → (Code.loop c1).wpIn (W1 r) nf P (WX G Q) x w:=by
  intro I' μ' hI1 hI2
  refine wpIn_loop I' μ' (hI2 s0 n0 E₀ x w hJ0 hS₀).1 (fun a' w' hI=>?_)
  obtain ⟨s1,hJ,E',hS'⟩:=hI1 a' w' hI
  refine wpIn_mono (h s1 _ hJ hm c1 fz h1 r nf G E' a' w' hG hS') (fun e a'' w'' hx=>?_)
  cases e <;> simp only [WX,thenQ] at hx <;> first
   |exact hx
   |exact hx.elim
   |(obtain ⟨s',E'',⟨s'',m,hlt,hle,hJ2⟩,h4⟩:=hx
     obtain ⟨E3,h5⟩:=hle G E'' a'' w'' h4
     obtain ⟨h6,h7⟩:=hI2 s'' m E3 a'' w'' hJ2 h5
     exact ⟨h6,by omega⟩)
 let Ok (a : Act) (w : World) (n : Nat) : Prop:=∃ s E,J s n ∧ SatS G s E a w
 have hleast : ∀ a w,(∃ n,Ok a w n) → ∃ m,Ok a w m ∧ ∀ n,Ok a w n → m ≤ n:=by
  intro a w ⟨n,hn⟩
  induction n using Nat.strongRecOn with
  |_ n ih=>
   by_cases hex : ∃ k,k < n ∧ Ok a w k
   ·obtain ⟨k,hk,hok⟩:=hex
    exact ih k hk hok
   ·exact ⟨n,hn,fun k hk=>Nat.le_of_not_lt fun hlt=>hex ⟨k,hlt,hk⟩⟩
 classical
 refine key (fun a w=>∃ n,Ok a w n) (fun a w=>if hx : ∃ n,Ok a w n then Classical.choose (hleast a w hx) else 0) (fun a w hI=>?_) (fun s n E a w hi hS=>?_)
 ·have hsp:=Classical.choose_spec (hleast a w hI)
  obtain ⟨s,E,h3,h4⟩:=hsp.1
  refine ⟨s,?_,E,h4⟩
  rw [dif_pos hI];exact h3
 ·have hex : ∃ n,Ok a w n:=⟨n,s,E,hi,hS⟩
  refine ⟨hex,?_⟩
  rw [dif_pos hex]
  exact (Classical.choose_spec (hleast a w hex)).2 _ ⟨s,E,hi,hS⟩
theorem W_loopX {s : S} {Q : Ex → S → Prop} {c : C} {ks : List Nat} {ι : Type} (N0 : Nat) (f : ι → List (Nat × AV)) (B : ι → Mem) (I : ι → Prop) (μ : ι → Nat) (hB : ∀ i,I i → Bas N0 (B i)) {R : Mem} {nx : Nat} (hR : Opq N0 R nx) (i₀ : ι) (h₀ : I i₀)
  (he : keepL s.tm ks = putAll (keepL s.tm ks) (f i₀)) (hm : sameM (B i₀ ++ R) s.mem)
  (h : ∀ i R1 nx1,I i → Ext nx R nx1 R1 → W P N c ⟨putAll (keepL s.tm ks) (f i),B i ++ R1,nx1⟩ (thenQ (fun s'=>∃ i' R2,I i' ∧ μ i' < μ i ∧ keepL s'.tm ks = putAll (keepL s.tm ks) (f i') ∧ sameM (B i' ++ R2) s'.mem ∧ Ext nx1 R1 s'.nx R2) Q)) : W P N (loopL ks c) s Q:=by
 have hno : ∀ i R1 nx1,I i → Ext nx R nx1 R1 → ∀ j,nx1 ≤ j → lm (B i ++ R1) j = none:=fun i R1 nx1 hi hx j hj=>by
  have:=(hx.opq hR).n
  rw [lm_app_r (hB i hi j (by omega))]
  exact hx.hi j hj
 refine W_loopJ (fun s' n=>∃ i R1 nx1,I i ∧ Ext nx R nx1 R1 ∧ n = μ i ∧ s' = ⟨putAll (keepL s.tm ks) (f i),B i ++ R1,nx1⟩) ⟨⟨putAll (keepL s.tm ks) (f i₀),B i₀ ++ R,nx⟩,μ i₀,?_,i₀,R,nx,h₀,Ext.refl hR,rfl,rfl⟩ (fun s' n hJ=>?_)
 ·rw [← he]
  refine le.trans (leS.le (leS_sameM (B i₀ ++ R) nx hm (hno i₀ R nx h₀ (Ext.refl hR)))) ?_
  exact le_keepL (s:=⟨s.tm,B i₀ ++ R,nx⟩) ks nx (hno i₀ R nx h₀ (Ext.refl hR))
 ·obtain ⟨i,R1,nx1,hi,hx,rfl,rfl⟩:=hJ
  refine W_mono' (h i R1 nx1 hi hx) fun e s'' hq=>?_
  cases e with
  |n=>
   obtain ⟨i',R2,h1,h2,h3,h4,h5⟩:=hq
   have h6:=hx.trans h5
   refine ⟨_,μ i',h2,?_,i',R2,s''.nx,h1,h6,rfl,rfl⟩
   rw [← h3]
   refine le.trans (leS.le (leS_sameM (B i' ++ R2) s''.nx h4 (hno i' R2 s''.nx h1 h6))) ?_
   exact le_keepL (s:=⟨s''.tm,B i' ++ R2,s''.nx⟩) ks s''.nx (hno i' R2 s''.nx h1 h6)
  |e id=>exact hq
  |r=>exact hq
end
section
variable {P : Program} {r : Option Nat} {nf N : Nat} {fz : List Nat} {G : Gl} {ops : Array Oper} {rl : List RO} {ms : List Nat}
theorem reg_invJ (hG : G.N = N) (hrl : trL P N fz ops ops.toList = some rl) (hms : ms = masks ops.toList []) (hE : edgeOK 0 ops.toList = true) (St : (Nat → Bool) → S) {Q : Exit → Act → World → Prop}
  (hstep : ∀ (D : Nat → Bool) (i : Nat) ro m,rl[i]? = some ro → ms[i]? = some m → D i = false → (∀ j,tb m j → D j = true) → (∀ i' m',D i' = true → ms[i']? = some m' → ∀ j,tb m' j → D j = true) → chain P none [ro] (St D) (fun s'=>le s' (St fun j=>if j = i then true else D j)))
  (hend : ∀ D : Nat → Bool,(∀ j,j < rl.length → D j = true) → ∀ E a w,SatS G (St D) E a w → Q .normal a w) :
  ∀ (fuel : Nat) (listed : Array Bool) (E : Env) (a : Act) (w : World),unl listed ≤ fuel → LI ops ms listed → SatS G (St fun j=>listed.getD j false) E a w → wpAnyIn (W1 r) nf P .any ops Q fuel listed a w:=by
 obtain ⟨hl,hsp⟩:=trL_spec hrl
 have hlen : rl.length = ops.size:=by rw [hl,Array.length_toList]
 have fin : ∀ (listed : Array Bool) (E : Env) (a : Act) (w : World),LI ops ms listed → Region.ready .any ops listed = [] → SatS G (St fun j=>listed.getD j false) E a w → Q .normal a w:=fun listed E a w inv hr hS=>
  hend _ (fun j hj=>all_listed hE inv hr j j (Nat.le_refl _) (by omega)) E a w hS
 intro fuel
 induction fuel with
 |zero=>
  intro listed E a w hf inv hS
  exact ⟨ready_nil hf,fin listed E a w inv (ready_nil hf) hS⟩
 |succ fuel ih=>
  intro listed E a w hf inv hS
  refine ⟨fun hr=>fin listed E a w inv hr hS,fun i hi=>?_⟩
  obtain ⟨hun,oi,hoi,hall⟩:=mem_ready.1 hi
  have hil : i < ops.size:=(Array.getElem?_eq_some_iff.1 hoi).1
  have hunf:=getD_ff hun
  obtain ⟨mi,hmi⟩:=masks_get hms hil
  obtain ⟨ro,hro,h2⟩:=hsp i oi (by simpa using hoi)
  have hc:=hstep (fun j=>listed.getD j false) i ro mi hro hmi hunf (fun j hj=>(anc hms hE inv i i (Nat.le_refl _) oi mi hoi hmi hall j hj).2) (fun i' m' hi' hm' j hj=>by
   have hi2 : i' < ops.size:=by
    rcases Nat.lt_or_ge i' listed.size with q | q
    ·rw [← inv.size];exact q
    ·simp [Array.getD,Nat.not_lt.2 q] at hi'
   have ho' : ops[i']? = some ops[i']:=Array.getElem?_eq_getElem hi2
   exact (anc hms hE inv i' i' (Nat.le_refl _) ops[i'] m' ho' hm' (inv.closed i' ops[i'] ho' hi') j hj).2)
  have hls : (fun j=>if j = i then true else listed.getD j false) = (fun j=>(listed.setIfInBounds i true).getD j false):=by
   funext j
   by_cases hij : j = i
   ·subst hij
    have : j < listed.size:=by rw [inv.size];exact hil
    simp [this]
   ·rw [if_neg hij,getD_set_ne false (Ne.symm hij)]
  rw [hls] at hc
  have hnext : ∀ s' E' a' w',le s' (St fun j=>(listed.setIfInBounds i true).getD j false) → SatS G s' E' a' w' → wpAnyIn (W1 r) nf P .any ops Q fuel (listed.setIfInBounds i true) a' w':=fun s' E' a' w' hc' hS'=>by
   obtain ⟨E2,h3⟩:=hc' G E' a' w' hS'
   exact ih _ E2 a' w' (by have:=unl_set hun;omega) (inv.set hi) h3
  rcases chain_step hc with ⟨p,out,u,_,hok,hc'⟩ | ⟨_,p,hp,hu,hsp'⟩
  rotate_left
  ·unfold wpOpIn
   simp only [hoi]
   exact sp_step hG h2 hS hp hu hsp' _ Q (fun s' E' a' w' hc' hS'=>hnext s' E' a' w' (by rw [chain_nil] at hc';exact hc') hS')
  have hslots : ∀ x,sat E w (ev (St fun j=>listed.getD j false).tm x) (a.eval x):=fun x=>ev_sat hS.st x (fun t _=>rfl)
  obtain ⟨f,hop⟩:=h2.op
  have hG1 : GOk P r nf G (lk (St fun j=>listed.getD j false).tm) (lm (St fun j=>listed.getD j false).mem) E a w ops oi (gdd p out) u:=by
   refine gok_of hS.st h2.gd (by rw [← pathOf_eq];exact hok.path) (fun g b hg=>hslots _) hok.okU (fun hpc=>?_)
   refine hok.sem r nf G _ _ E a w oi ?_ hpc
   rw [stepP_eq]
   exact stepQ_sem hS.st (hS.nx _ (Nat.le_refl _)) hop hpc (fun x _=>hslots x) (by rw [← underAll_eq];exact hok.under)
  unfold wpOpIn
  simp only [hoi]
  refine hG1 _ Q (fun E' w' v h3 h4 h5=>?_)
  have hS':=satS_app (dst:=oi.dst) (p:=p) hS.nx h4 h5 hok.okU (fun d hd=>by rw [hG];exact h2.lt d hd)
  rw [h2.dst] at hc'
  rw [chain_nil] at hc'
  exact hnext _ E' _ w' hc' hS'
end
section
variable {P : Program} {N : Nat} {s : S} {Q : Ex → S → Prop}
theorem W_regJ {ms : List Nat} {rl : List RO} {ks : List Nat} (St : (Nat → Bool) → S) (hs : le s (St fun _=>false))
  (hstep : ∀ (D : Nat → Bool) (i : Nat) ro m,rl[i]? = some ro → ms[i]? = some m → D i = false → (∀ j,tb m j → D j = true) → (∀ i' m',D i' = true → ms[i']? = some m' → ∀ j,tb m' j → D j = true) → chain P none [ro] (St D) (fun s'=>le s' (St fun j=>if j = i then true else D j)))
  (hend : ∀ D : Nat → Bool,(∀ j,j < rl.length → D j = true) → ∃ s',le (St D) s' ∧ Q .n (s'.keep ks)) : W P N (regL ks (some ms) rl) s Q:=by
 intro hm code fz ht r nf G E x w hG hS
 obtain ⟨id,ops,d,rfl,hrl,hd⟩:=trC_reg ht
 rcases hd with ⟨rfl,hx⟩ | ⟨rfl,hx,hE,hO⟩
 ·cases hx
 ·cases hx
  refine wpIn_region_any hm ?_
  have hrep : ∀ j,(Array.replicate ops.size false).getD j false = false:=fun j=>by
   rcases Nat.lt_or_ge j ops.size with h | h
   ·simp [h]
   ·simp [h]
  have hf : (fun j=>(Array.replicate ops.size false).getD j false) = fun _=>false:=funext hrep
  obtain ⟨E0,hS0⟩:=hs G E x _ ⟨hS.st.drew,hS.nx⟩
  refine reg_invJ hG.1 hrl rfl hE St hstep (fun D hD E a w hS'=>?_) ops.size _ E0 x _ (by simp [unl]) ⟨by simp,fun j oj hj hl=>by rw [hrep] at hl;cases hl⟩ (by rw [hf];exact hS0)
  obtain ⟨s',h1,h2⟩:=hend D hD
  obtain ⟨E2,h3⟩:=h1 G E a w hS'
  exact ⟨_,E2,h2,keep_sat ks h3⟩
end
theorem Ext.put {a nx b nx2 : Nat} {R R2 : Mem} {g : Blk} (h : Ext a R nx R2) (h1 : a ≤ b) (h2 : b < nx2) (h3 : nx ≤ nx2) : Ext a R nx2 (setm R2 b g):=
 ⟨Nat.le_trans h.n h3,fun j hj=>by rw [lm_set_other _ _ (by omega)];exact h.eq j hj,fun j hj=>by rw [lm_set_other _ _ (by omega)];exact h.hi j (by omega)⟩
section
variable {P : Program} {N : Nat}
end
section
variable {P : Program} {r : Option Nat} {nf N : Nat} {fz : List Nat} {G : Gl} {ops : Array Oper} {rl : List RO} {ms : List Nat}
end
section
variable {P : Program} {N : Nat} {s : S} {Q : Ex → S → Prop}
end
section
variable {P : Program} {r : Option Nat} {nf : Nat} {G : Gl} {tm : Nat → AV} {mem : Nat → Option Blk} {E : Env} {a : Act} {w : World} {o : Oper}
end
theorem le_frzP {s : S} (t : Nat) (x : AV) (ks bs : List Nat) (nx : Nat) (h : normOK ks bs nx s = true)
  (hx : ∀ G E a w,SatS G s E a w → ∃ b0 : Nat → Prop,(∀ b,b0 b → b < w.heap.size ∧ G.w0.heap.size ≤ b ∧ ∃ k blk,has bs k = false ∧ lm s.mem k = some blk ∧ blkLoc E k blk = some b ∧ blk.isOth = false) ∧ fsat (fun b=>E.F b ∨ b0 b) w x (a.tmps.getD t undef)) :
  le s ⟨(t,x) :: keepL s.tm ks,keepM bs s.mem,nx⟩:=by
 intro G E a w hS
 obtain ⟨b0,hb0,hsx⟩:=hx G E a w hS
 obtain ⟨E1,hS1⟩:=le_norm ks bs nx h G E a w hS
 simp only [normOK,Bool.and_eq_true] at h
 obtain ⟨⟨h1,h2⟩,h3⟩:=h
 have hb : ∀ k,has bs k = true → (E.res bs).b k = E.b k:=fun k hk=>by simp [Env.res,hk]
 have hh : ∀ k,has bs k = true → ∀ s,(E.res bs).h k s = E.h k s:=fun k hk s=>by simp [Env.res,hk]
 have hlm : ∀ k blk,lm (keepM bs s.mem) k = some blk → has bs k = true ∧ lm s.mem k = some blk:=fun k blk hk=>by
  rw [lm_keepM] at hk
  split at hk
  ·rename_i h;exact ⟨h,hk⟩
  ·cases hk
 have hpl : ∀ b,b0 b → plainB w b:=fun b hb=>by
  obtain ⟨q0,_,k0,blk0,_,q1,q2,q3⟩:=hb0 b hb
  have hc:=blkLoc_cells blk0 q3 (hS.st.memv k0 blk0 q1) b q2
  exact ⟨fun x hx=>(by have:=hc _ hx;cases this),fun r hr=>(by have:=hc _ hr;cases this)⟩
 let F' : Nat → Prop:=fun b=>E.F b ∨ b0 b
 let E' : Env:=⟨(E.res bs).b,(E.res bs).h,F'⟩
 have hle : (E.res bs).le E':=⟨fun _ _ h=>h,fun _ _ _ h=>h,fun _ h=>.inl h⟩
 have hkeq : ∀ l : List Nat,(l.map fun t=>(t,lk s.tm t)) = keepL s.tm l:=fun l=>by
  induction l with
  |nil=>rfl
  |cons a l ih=>simp only [List.map_cons,keepL,ih]
 refine ⟨E',⟨?_,fun k hk=>?_⟩⟩
 ·exact {
   ext:=hS.st.ext
   fz:=fun b hb=>by
    rcases hb with hb | hb
    ·exact hS.st.fz b hb
    ·obtain ⟨q1,q2,_⟩:=hb0 b hb
     exact ⟨q1,.inr q2⟩
   tmv:=fun t'=>by
    simp only [lk]
    split
    ·rename_i he;subst he
     exact sat_of_fsat (E:=E') _ _ hsx
    ·have hres : sat (E.res bs) w (lk (keepL s.tm ks) t') (a.tmps.getD t' undef):=by
      rw [← hkeq]
      refine sat_res _ _ (okTm_spec h1) ?_
      rcases lk_keep ks (lk s.tm) t' with h | h
      ·rw [h];exact hS.st.tmv t'
      ·rw [h];simp only [sat]
     exact sat_mono hle (fun _ _=>rfl) _ _ hres
   sz:=hS.st.sz
   memv:=fun k blk hk=>by
    obtain ⟨hk1,hk2⟩:=hlm k blk hk
    have hbs:=hS.st.memv k blk hk2
    have ho:=okMem_spec h2 hk1 hk2
    cases blk with
    |cells l=>
     obtain ⟨b,cs,T,q1,q2,q3,q4⟩:=hbs
     exact ⟨b,cs,T,(hb k hk1).trans q1,q2,q3,satL_mono hle (fun _ _=>rfl) _ _ (satL_res _ _ (by simpa only [okBlk] using ho) q4)⟩
    |row s' e n d f l=>
     obtain ⟨v,xs,q1,q2,q3,q4⟩:=hbs
     refine ⟨v,xs,(hh k hk1 s').trans q1,q2,q3,fun i x hx=>?_⟩
     obtain ⟨q5,q6⟩:=q4 i x hx
     exact ⟨q5,fsatL_mono (fun b hb=>.inl hb) (fun _ _=>rfl) _ _ q6⟩
    |oth x=>
     cases x with
     |fr vs tm=>exact fun t=>sat_mono hle (fun _ _=>rfl) _ _ (sat_res _ _ (okTm_spec ho) (hbs t))
     |lp l rec tm=>exact ⟨hbs.1,hbs.2.1,fun t=>sat_mono hle (fun _ _=>rfl) _ _ (sat_res _ _ (okTm_spec ho) (hbs.2.2 t))⟩
     |mp b kd g=>exact hbs
     |si b s pos=>exact hbs
     |nm k' b=>exact (hb k' ho).trans hbs
   inj:=fun k k' blk blk' b hk hk' hbl hbl'=>by
    obtain ⟨hk1,hk2⟩:=hlm k blk hk
    obtain ⟨hk1',hk2'⟩:=hlm k' blk' hk'
    rw [blkLoc_same (E:=E) (E':=E') (hb k hk1) (hh k hk1)] at hbl
    rw [blkLoc_same (E:=E) (E':=E') (hb k' hk1') (hh k' hk1')] at hbl'
    exact hS.st.inj k k' blk blk' b hk2 hk2' hbl hbl'
   nF:=fun k' blk b hk' hbl hF=>by
    obtain ⟨hk1,hk2⟩:=hlm k' blk hk'
    rw [blkLoc_same (E:=E) (E':=E') (hb k' hk1) (hh k' hk1)] at hbl
    rcases hF with hF | hF
    ·exact hS.st.nF k' blk b hk2 hbl hF
    ·obtain ⟨_,_,k0,blk0,q0,q1,q2,_⟩:=hb0 b hF
     have:=hS.st.inj k' k0 blk blk0 b hk2 q1 hbl q2
     subst this
     rw [q0] at hk1;cases hk1
   fresh:=fun k hk=>by
    by_cases hx : has bs k = true
    ·rw [lm_keepM,if_pos hx] at hk
     obtain ⟨q1,q2⟩:=hS.st.fresh k hk
     exact ⟨(hb k hx).trans q1,fun s=>(hh k hx s).trans (q2 s)⟩
    ·exact ⟨by simp [E',Env.res,hx],fun s=>by simp [E',Env.res,hx]⟩
   stampC:=fun k l s' hk=>by
    obtain ⟨hk1,hk2⟩:=hlm k _ hk
    exact (hh k hk1 s').trans (hS.st.stampC k l s' hk2)
   stampR:=fun k s' e n α d f l hk=>by
    obtain ⟨hk1,hk2⟩:=hlm k _ hk
    have:=hS.st.stampR k s' e n α d f l hk2
    exact ⟨(hb k hk1).trans this.1,fun s'' hs=>(hh k hk1 s'').trans (this.2 s'' hs)⟩
   stampO:=fun k x hk=>by
    obtain ⟨hk1,hk2⟩:=hlm k _ hk
    have:=hS.st.stampO k x hk2
    exact ⟨(hb k hk1).trans this.1,fun s''=>(hh k hk1 s'').trans (this.2 s'')⟩
   df:=fun d hd=>by
    rcases hS.st.df d hd with ⟨D,rfl,q1,q2,q3⟩ | hd2
    ·refine .inl ⟨D,rfl,q1,fun hF=>?_,q3⟩
     rcases hF with hF | hF
     ·exact q2 hF
     ·exact (hpl D hF).1 _ q3
    ·exact .inr hd2
   dn:=hS.st.dn
   bt:=hS.st.bt
   kd:=hS.st.kd
   kF:=fun b hF=>by
    rcases hF with hF | hF
    ·exact hS.st.kF b hF
    ·exact .inr (hS.st.kd.plain (hpl b hF))
   rd:=hS.st.rd }
 ·show lm (keepM bs s.mem) k = none
  rw [lm_keepM]
  split
  ·rename_i hx
   have hk' : nx ≤ k:=hk
   have:=allLt_spec h3 hx;omega
  ·rfl
section
variable {P : Program} {N : Nat} {s s' : S}
end
section
variable {P : Program} {N : Nat}
end
theorem syf {F p q : Prop} (f : F) (h : q) (e : F → p = q:=by intro f;conv=>lhs;simp (maxSteps:=400000) (disch:=omega) only [push_cast,↓reduceIte,reduceCtorEq,Nat.reduceAdd,Nat.reduceSub,Nat.reduceEqDiff,Nat.reduceLeDiff,Nat.reduceLT,Nat.reduceBEq,Nat.reduceDiv,Nat.reduceMod,Nat.reducePow,Nat.reduceMul,Int.reduceToNat,Int.reduceLT,Int.reduceLE,f]) : p:=(e f).mpr h
theorem syP {p q : Prop} (h : q) (e : p = q:=by conv=>lhs;simp (maxSteps:=400000) (disch:=omega) only [push_cast,↓reduceIte,reduceCtorEq,Nat.reduceAdd,Nat.reduceSub,Nat.reduceEqDiff,Nat.reduceLeDiff,Nat.reduceLT,Nat.reduceBEq,Nat.reduceDiv,Nat.reduceMod,Nat.reducePow,Nat.reduceMul,Int.reduceToNat,Int.reduceLT,Int.reduceLE,pack]) : p:=(e).mpr h
theorem syN {p q : Prop} (h : q) (e : p = q:=by conv=>lhs;simp (maxSteps:=400000) (disch:=omega) only [push_cast,↓reduceIte,reduceCtorEq,Nat.reduceAdd,Nat.reduceSub,Nat.reduceEqDiff,Nat.reduceLeDiff,Nat.reduceLT,Nat.reduceBEq,Nat.reduceDiv,Nat.reduceMod,Nat.reducePow,Nat.reduceMul,Int.reduceToNat,Int.reduceLT,Int.reduceLE,EndP]) : p:=(e).mpr h
theorem sCS {p q : Prop} (h : q) (e : p = q:=by conv=>lhs;simp (maxSteps:=400000) (disch:=omega) only [push_cast,↓reduceIte,reduceCtorEq,Nat.reduceAdd,Nat.reduceSub,Nat.reduceEqDiff,Nat.reduceLeDiff,Nat.reduceLT,Nat.reduceBEq,Nat.reduceDiv,Nat.reduceMod,Nat.reducePow,Nat.reduceMul,Int.reduceToNat,Int.reduceLT,Int.reduceLE,chainX,SpM,List.take_succ_cons,List.take_zero,List.drop_succ_cons,List.drop_zero]) : p:=(e).mpr h
theorem ad2 {a b : Prop} (ha : a) (hb : b) : a ∧ b:=⟨ha,hb⟩
theorem ad3 {a b c : Prop} (ha : a) (hb : b) (hc : c) : a ∧ b ∧ c:=⟨ha,hb,hc⟩
theorem go_c {A p q : Prop} (c : A) (h : q) (e : A → Hid q → p:=by intro c hq;(repeat' (first | refine w1g ?_ | refine w1l ?_ | refine w1q ?_ | refine w1b ?_ | refine w1p ?_ | ((first | refine w1r ?_ | refine w1k ?_ | refine w1e ?_ | refine CallC.now (c ..) ?_);(refine sy1 ?_;try exact tTI)) | refine an2 ?_ | fail));all_goals exact hq.get) : p:=e c ⟨h⟩
theorem go_g {A p q : Prop} (c : A) (h : q) (e : A → Hid q → p:=by intro c hq;(repeat' (first | refine w1g ?_ | refine w1l ?_ | refine w1q ?_ | refine w1b ?_ | refine w1p ?_ | ((first | refine w1r ?_ | refine w1k ?_ | refine w1e ?_ | refine CallC.go _ (fun _=>⟨trivial,c ..⟩) rfl ?_);(refine sy1 ?_;try exact tTI)) | refine an2 ?_ | fail));all_goals exact hq.get) : p:=e c ⟨h⟩
theorem go_cc {A B p q : Prop} (c : A) (d : B) (h : q) (e : A → B → Hid q → p:=by intro c d hq;(repeat' (first | refine w1g ?_ | refine w1l ?_ | refine w1q ?_ | refine w1b ?_ | refine w1p ?_ | ((first | refine w1r ?_ | refine w1k ?_ | refine w1e ?_ | refine CallC.now (c ..) ?_ | refine CallC.now (d ..) ?_);(refine sy1 ?_;try exact tTI)) | refine an2 ?_ | fail));all_goals exact hq.get) : p:=e c d ⟨h⟩
theorem go_cg {A B p q : Prop} (c : A) (d : B) (h : q) (e : A → B → Hid q → p:=by intro c d hq;(repeat' (first | refine w1g ?_ | refine w1l ?_ | refine w1q ?_ | refine w1b ?_ | refine w1p ?_ | ((first | refine w1r ?_ | refine w1k ?_ | refine w1e ?_ | refine CallC.now (c ..) ?_ | refine CallC.go _ (fun _=>⟨trivial,d ..⟩) rfl ?_);(refine sy1 ?_;try exact tTI)) | refine an2 ?_ | fail));all_goals exact hq.get) : p:=e c d ⟨h⟩
theorem go_gg {A B p q : Prop} (c : A) (d : B) (h : q) (e : A → B → Hid q → p:=by intro c d hq;(repeat' (first | refine w1g ?_ | refine w1l ?_ | refine w1q ?_ | refine w1b ?_ | refine w1p ?_ | ((first | refine w1r ?_ | refine w1k ?_ | refine w1e ?_ | refine CallC.go _ (fun _=>⟨trivial,c ..⟩) rfl ?_ | refine CallC.go _ (fun _=>⟨trivial,d ..⟩) rfl ?_);(refine sy1 ?_;try exact tTI)) | refine an2 ?_ | fail));all_goals exact hq.get) : p:=e c d ⟨h⟩
theorem go_ccc {A B C p q : Prop} (c : A) (d : B) (g : C) (h : q) (e : A → B → C → Hid q → p:=by intro c d g hq;(repeat' (first | refine w1g ?_ | refine w1l ?_ | refine w1q ?_ | refine w1b ?_ | refine w1p ?_ | ((first | refine w1r ?_ | refine w1k ?_ | refine w1e ?_ | refine CallC.now (c ..) ?_ | refine CallC.now (d ..) ?_ | refine CallC.now (g ..) ?_);(refine sy1 ?_;try exact tTI)) | refine an2 ?_ | fail));all_goals exact hq.get) : p:=e c d g ⟨h⟩
theorem gof {F p q : Prop} (f : F) (h : q) (e : F → Hid q → p:=by intro f hq;(repeat' (first | refine w1g ?_ | refine w1l ?_ | refine w1q ?_ | refine w1b ?_ | refine w1p ?_ | ((first | refine w1r ?_ | refine w1k ?_ | refine w1e ?_);(refine syf f ?_;try exact tTI)) | refine an2 ?_ | fail));all_goals exact hq.get) : p:=e f ⟨h⟩
theorem gofc {F A p q : Prop} (f : F) (c : A) (h : q) (e : F → A → Hid q → p:=by intro f c hq;(repeat' (first | refine w1g ?_ | refine w1l ?_ | refine w1q ?_ | refine w1b ?_ | refine w1p ?_ | ((first | refine w1r ?_ | refine w1k ?_ | refine w1e ?_ | refine CallC.now (c ..) ?_);(refine syf f ?_;try exact tTI)) | refine an2 ?_ | fail));all_goals exact hq.get) : p:=e f c ⟨h⟩
theorem gofg {F A p q : Prop} (f : F) (c : A) (h : q) (e : F → A → Hid q → p:=by intro f c hq;(repeat' (first | refine w1g ?_ | refine w1l ?_ | refine w1q ?_ | refine w1b ?_ | refine w1p ?_ | ((first | refine w1r ?_ | refine w1k ?_ | refine w1e ?_ | refine CallC.go _ (fun _=>⟨trivial,c ..⟩) rfl ?_);(refine syf f ?_;try exact tTI)) | refine an2 ?_ | fail));all_goals exact hq.get) : p:=e f c ⟨h⟩
theorem gofcc {F A B p q : Prop} (f : F) (c : A) (d : B) (h : q) (e : F → A → B → Hid q → p:=by intro f c d hq;(repeat' (first | refine w1g ?_ | refine w1l ?_ | refine w1q ?_ | refine w1b ?_ | refine w1p ?_ | ((first | refine w1r ?_ | refine w1k ?_ | refine w1e ?_ | refine CallC.now (c ..) ?_ | refine CallC.now (d ..) ?_);(refine syf f ?_;try exact tTI)) | refine an2 ?_ | fail));all_goals exact hq.get) : p:=e f c d ⟨h⟩
theorem gofcg {F A B p q : Prop} (f : F) (c : A) (d : B) (h : q) (e : F → A → B → Hid q → p:=by intro f c d hq;(repeat' (first | refine w1g ?_ | refine w1l ?_ | refine w1q ?_ | refine w1b ?_ | refine w1p ?_ | ((first | refine w1r ?_ | refine w1k ?_ | refine w1e ?_ | refine CallC.now (c ..) ?_ | refine CallC.go _ (fun _=>⟨trivial,d ..⟩) rfl ?_);(refine syf f ?_;try exact tTI)) | refine an2 ?_ | fail));all_goals exact hq.get) : p:=e f c d ⟨h⟩
theorem gofccc {F A B C p q : Prop} (f : F) (c : A) (d : B) (g : C) (h : q) (e : F → A → B → C → Hid q → p:=by intro f c d g hq;(repeat' (first | refine w1g ?_ | refine w1l ?_ | refine w1q ?_ | refine w1b ?_ | refine w1p ?_ | ((first | refine w1r ?_ | refine w1k ?_ | refine w1e ?_ | refine CallC.now (c ..) ?_ | refine CallC.now (d ..) ?_ | refine CallC.now (g ..) ?_);(refine syf f ?_;try exact tTI)) | refine an2 ?_ | fail));all_goals exact hq.get) : p:=e f c d g ⟨h⟩
inductive FrzC (m : List (Nat × Blk)) (bs : List Nat) : List AV → List AV → Prop
 |nil : FrzC m bs [] []
 |same {x : AV} {l l' : List AV} (hx : frzB x = true) (h : FrzC m bs l l') : FrzC m bs (x :: l) (x :: l')
 |row {k st T n : Nat} {α : Type} {d : α} {f : α → List AV} {r : List α} {l l' : List AV} (hm : lm m k = some (.row st T n d f r)) (hk : has bs k = false) (h : FrzC m bs l l') : FrzC m bs (.row k st :: l) (.sl n d f r :: l')
theorem frzC_sat {s : S} {bs : List Nat} {G : Gl} {E : Env} {a : Act} {w : World} (hS : SatS G s E a w) {F' : Nat → Prop} (hF : ∀ b,E.F b → F' b) (hB : ∀ b k blk,has bs k = false → lm s.mem k = some blk → blkLoc E k blk = some b → blk.isOth = false → F' b)
  {l l' : List AV} (h : FrzC s.mem bs l l') : ∀ vs,satL E w l vs → fsatL F' w l' vs:=by
 induction h with
 |nil=>exact fun vs hv=>hv
 |same hx _ ih=>
  rintro vs ⟨x,xs,rfl,h1,h2,h3⟩
  exact ⟨x,xs,rfl,h1,fsat_mono hF (fun _ _=>rfl) _ _ (fsat_of_sat _ _ hx h2),ih xs h3⟩
 |row hm hk _ ih=>
  rintro vs ⟨x,xs,rfl,h1,h2,h3⟩
  obtain ⟨b0,q1,q2⟩:=row_frz hS hm
  refine ⟨x,xs,rfl,h1,fsat_mono (fun b hb=>?_) (fun _ _=>rfl) _ _ (q2 x h2),ih xs h3⟩
  rcases hb with hb | hb
  ·exact hF b hb
  ·obtain ⟨_,_,blk,p1,p2,p3⟩:=q1 b hb
   exact hB b _ blk hk p1 p2 p3
theorem le_frzO {s : S} (t : Nat) (ks bs : List Nat) (nx D o : Nat) (l l' : List AV) (ht : lk s.tm t = .own D o) (hm : lm s.mem D = some (.cells l)) (hD : has bs D = false) (hl : FrzC s.mem bs l l') (h : normOK ks bs nx s = true) :
  le s ⟨(t,.fp l' o) :: keepL s.tm ks,keepM bs s.mem,nx⟩:=
 le_frzP t (.fp l' o) ks bs nx h fun G E a w hS=>by
  have h1:=hS.st.tmv t
  rw [ht] at h1
  simp only [sat] at h1
  obtain ⟨b,h2,h3⟩:=h1
  obtain ⟨b',cs,T,h4,h5,h6,h7⟩:=hS.st.memv D _ hm
  rw [h2] at h4;cases h4
  refine ⟨fun b=>∃ k blk,has bs k = false ∧ lm s.mem k = some blk ∧ blkLoc E k blk = some b ∧ blk.isOth = false,fun b ⟨k,blk,q1,q2,q3,q4⟩=>?_,?_⟩
  ·have:=blkLoc_lt blk (hS.st.memv k blk q2) b q3
   exact ⟨this.2,this.1,k,blk,q1,q2,q3,q4⟩
  ·simp only [fsat]
   refine ⟨b,0,cs.toList,by rw [h3,Nat.zero_add],.inr ⟨D,_,hD,hm,h2,rfl⟩,cellsAt_of_heap h6,?_⟩
   exact frzC_sat hS (fun b hb=>.inl hb) (fun b k blk q1 q2 q3 q4=>.inr ⟨k,blk,q1,q2,q3,q4⟩) hl _ h7
theorem le_frzG {s : S} (t : Nat) (ks bs : List Nat) (nx : Nat) (l l' : List AV) (ht : lk s.tm t = .agg l) (hl : FrzC s.mem bs l l') (h : normOK ks bs nx s = true) :
  le s ⟨(t,.agg l') :: keepL s.tm ks,keepM bs s.mem,nx⟩:=
 le_frzP t (.agg l') ks bs nx h fun G E a w hS=>by
  have h1:=hS.st.tmv t
  rw [ht] at h1
  simp only [sat] at h1
  obtain ⟨vs,h2,h3⟩:=h1
  refine ⟨fun b=>∃ k blk,has bs k = false ∧ lm s.mem k = some blk ∧ blkLoc E k blk = some b ∧ blk.isOth = false,fun b ⟨k,blk,q1,q2,q3,q4⟩=>?_,?_⟩
  ·have:=blkLoc_lt blk (hS.st.memv k blk q2) b q3
   exact ⟨this.2,this.1,k,blk,q1,q2,q3,q4⟩
  ·simp only [fsat]
   exact ⟨vs,h2,frzC_sat hS (fun b hb=>.inl hb) (fun b k blk q1 q2 q3 q4=>.inr ⟨k,blk,q1,q2,q3,q4⟩) hl _ h3⟩
inductive C2 : Type where
 |c (x : C)
 |seq (a : C) (b : C2)
 |dfr (t g : Nat) (b : C2)
def dfrB : List Oper → Option (Nat × Nat)
 |[o1,o2]=>match o1.op,o1.dst,o1.guard,o2.op,o2.dst,o2.guard with
  |.makeFunc (.func g) fi ca,some t,none,.defer c,none,none=>match c.callee with
   |.value (.tmp t')=>if (t = t' ∧ fi = #[]) ∧ c.args = #[] then some (t,g) else none
   |_=>none
  |_,_,_,_,_,_=>none
 |_=>none
def dfrA (N : Nat) : Code → Option (Nat × Nat)
 |.region _ ops false=>match dfrB ops.toList with
  |some (t,g)=>if t < N then some (t,g) else none
  |none=>none
 |_=>none
def tr2 (P : Program) (N : Nat) (fz : List Nat) : Code → Option C2
 |.seq a b=>match tr2 P N fz b with
  |some y=>match dfrA N a with
   |some (t,g)=>some (.dfr t g y)
   |none=>match trC P N fz a with
    |some x=>some (.seq x y)
    |none=>none
  |none=>none
 |c=>(trC P N fz c).map .c
def W2 (P : Program) (N : Nat) (c : C2) (s : S) (Q : Ex → S → Prop) : Prop:=
 P.follows .mixedOrders = true → ∀ code fz,tr2 P N fz code = some c → ∀ (nf : Nat) (G : Gl) (E : Env) (a : Act) (w : World),(G.N = N ∧ G.rd = none ∧ G.dd = AlwD P) → SatS G s E a w → code.wpIn (W1 none) nf P (WX G Q) a w
section
variable {P : Program} {N : Nat} {s : S} {Q : Ex → S → Prop}
theorem tr2_c {fz : List Nat} {code : Code} {x : C} (h : tr2 P N fz code = some (.c x)) : trC P N fz code = some x:=by
 unfold tr2 at h
 split at h
 ·split at h
  ·split at h
   ·cases h
   ·split at h
    ·cases h
    ·cases h
  ·cases h
 ·cases ht : trC P N fz code with
  |none=>rw [ht] at h;cases h
  |some y=>rw [ht] at h;injection h with h;injection h with h;rw [h]
theorem tr2_seq {fz : List Nat} {code : Code} {x : C} {y : C2} (h : tr2 P N fz code = some (.seq x y)) : ∃ a b,code = .seq a b ∧ trC P N fz a = some x ∧ tr2 P N fz b = some y:=by
 unfold tr2 at h
 split at h
 ·rename_i a b
  split at h
  ·rename_i y' hy
   split at h
   ·injection h with h;cases h
   ·split at h
    ·rename_i x' hx
     injection h with h
     injection h with h1 h2
     exact ⟨a,b,rfl,by rw [hx,h1],by rw [hy,h2]⟩
    ·cases h
  ·cases h
 ·cases ht : trC P N fz code with
  |none=>rw [ht] at h;cases h
  |some y=>rw [ht] at h;injection h with h;cases h
theorem dfrA_spec {a : Code} {t g : Nat} (h : dfrA N a = some (t,g)) : ∃ id ops,a = .region id ops false ∧ dfrB ops.toList = some (t,g) ∧ t < N:=by
 unfold dfrA at h
 split at h
 ·rename_i id ops
  split at h
  ·rename_i t' g' hd
   split at h
   ·rename_i hlt
    injection h with h
    injection h with h1 h2
    subst h1;subst h2
    exact ⟨id,ops,rfl,hd,hlt⟩
   ·cases h
  ·cases h
 ·cases h
theorem tr2_dfr {fz : List Nat} {code : Code} {t g : Nat} {y : C2} (h : tr2 P N fz code = some (.dfr t g y)) : ∃ id ops b,code = .seq (.region id ops false) b ∧ dfrB ops.toList = some (t,g) ∧ t < N ∧ tr2 P N fz b = some y:=by
 unfold tr2 at h
 split at h
 ·rename_i a b
  split at h
  ·rename_i y' hy
   split at h
   ·rename_i t' g' hd
    injection h with h
    injection h with h1 h2 h3
    subst h1;subst h2;subst h3
    obtain ⟨id,ops,rfl,q1,q2⟩:=dfrA_spec hd
    exact ⟨id,ops,b,rfl,q1,q2,hy⟩
   ·split at h
    ·injection h with h;cases h
    ·cases h
  ·cases h
 ·cases ht : trC P N fz code with
  |none=>rw [ht] at h;cases h
  |some y=>rw [ht] at h;injection h with h;cases h
theorem W2_c {x : C} (h : W P N x s Q) : W2 P N (.c x) s Q:=fun hm code fz ht nf G E a w hG hS=>h hm code fz (tr2_c ht) none nf G E a w ⟨hG.1,hG.2.1,by rw [hG.2.2];exact fun _ h=>h.2⟩ hS
theorem W2_seq {a : C} {b : C2} (h : W P N a s (thenQ (fun s'=>W2 P N b s' Q) Q)) : W2 P N (.seq a b) s Q:=by
 intro hm code fz ht nf G E x w hG hS
 obtain ⟨c1,c2,rfl,h1,h2⟩:=tr2_seq ht
 refine wpIn_seq (wpIn_mono (h hm c1 fz h1 none nf G E x w ⟨hG.1,hG.2.1,by rw [hG.2.2];exact fun _ h=>h.2⟩ hS) (fun e x' w' hx=>?_))
 cases e <;> simp only [WX,thenQ] at hx <;> first
  |exact hx
  |exact hx.elim
  |(obtain ⟨s',E',h3,h4⟩:=hx;exact h3 hm c2 fz h2 nf G E' x' w' hG h4)
theorem dfrB_spec {l : List Oper} {t g : Nat} (h : dfrB l = some (t,g)) : ∃ o1 o2 ca c,l = [o1,o2] ∧ o1.op = .makeFunc (.func g) #[] ca ∧ o1.dst = some t ∧ o1.guard = none ∧ o2.op = .defer c ∧ o2.dst = none ∧ o2.guard = none ∧ c.callee = .value (.tmp t) ∧ c.args = #[]:=by
 unfold dfrB at h
 split at h
 ·rename_i o1 o2
  split at h
  ·rename_i g' fi ca t1 c h1 h2 h3 h4 h5 h6
   split at h
   ·rename_i t' hc
    split at h
    ·rename_i hq
     injection h with h
     injection h with e1 e2
     subst e1;subst e2
     obtain ⟨⟨rfl,rfl⟩,hq2⟩:=hq
     exact ⟨o1,o2,ca,c,rfl,h1,h2,h3,h4,h5,h6,hc,hq2⟩
    ·cases h
   ·cases h
  ·cases h
 ·cases h
theorem W2_dfr {t g : Nat} {b : C2} (hN : ∀ caps,NopD P { target:=.fn (.func g) caps,args:=#[] }) (h : W2 P N b ⟨(t,.bad) :: s.tm,s.mem,s.nx⟩ Q) : W2 P N (.dfr t g b) s Q:=by
 intro hm code fz ht nf G E x w hG hS
 obtain ⟨id,ops,cb,rfl,hd,hlt,h2⟩:=tr2_dfr ht
 obtain ⟨o1,o2,ca,c,hl,q1,q2,q3,q4,q5,q6,q7,q8⟩:=dfrB_spec hd
 have hops : ops = #[o1,o2]:=by cases ops;simpa using hl
 subst hops
 refine wpIn_seq (wpIn_region ?_)
 show wpOpsIn (W1 none) nf P #[o1,o2] _ [0,1] x w
 have hz : t < x.tmps.size:=by rw [hS.st.sz,hG.1];exact hlt
 obtain ⟨v1,hv1⟩ : ∃ v1,v1 = Value.func (.func g) #[] (ca.map x.eval):=⟨_,rfl⟩
 have r1 : (o1.semAt (W1 none).round x.eval).run P w = .ok (.value v1) w:=by
  show (o1.semAt none x.eval).run P w = _
  rw [Oper.semAt_none,hv1]
  simp [execOp,q1,Instr.makeFunc]
 have ht1 : (x.put (some t) v1).eval (.tmp t) = v1:=by
  show (x.put (some t) v1).tmps.getD t undef = v1
  simp [Act.put,hz]
 have r2' : ∀ y : Act,y.eval (.tmp t) = Value.func (.func g) #[] (ca.map x.eval) → (o2.semAt (W1 none).round y.eval).run P w = .ok (.defer { target:=.fn (.func g) (ca.map x.eval),args:=#[] }) w:=fun y hy=>by
  show (o2.semAt none y.eval).run P w = _
  rw [Oper.semAt_none]
  simp [execOp,q4,resolve,q7,q8,hy,Deferred.ofValue]
 have r2:=r2' (x.put (some t) v1) (by rw [ht1,hv1])
 have w1 : ∀ y,Region.wanted o1 y = true:=fun y=>by simp [Region.wanted,q3]
 have w2 : ∀ y,Region.wanted o2 y = true:=fun y=>by simp [Region.wanted,q6]
 rw [wpOpsIn_cons]
 unfold wpOpIn
 simp only [List.getElem?_toArray,List.getElem?_cons_zero,w1,if_true]
 refine ⟨fun _ _=>trivial,?_⟩
 rw [r1,Oper.uponIn_value,q2,wpOpsIn_cons]
 unfold wpOpIn
 simp only [List.getElem?_toArray,List.getElem?_cons_succ,List.getElem?_cons_zero,w2,if_true]
 refine ⟨fun _ _=>trivial,?_⟩
 rw [r2,Oper.uponIn_defer,q5]
 have S1:=hS.st.put (av:=.bad) (y:=v1) (by rw [hG.1];exact hlt) (by simp only [sat])
 have e1 : upd (lk s.tm) t .bad = lk ((t,.bad) :: s.tm):=by
  funext i;simp only [lk,upd]
 rw [e1] at S1
 have e2 : ∀ a : Act,a.put none undef = a:=fun a=>by simp [Act.put]
 rw [e2]
 show cb.wpIn (W1 none) nf P (WX G Q) _ w
 refine h hm cb fz h2 nf G E _ w hG ⟨?_,hS.nx⟩
 exact {
  ext:=S1.ext
  fz:=S1.fz
  tmv:=S1.tmv
  sz:=S1.sz
  memv:=S1.memv
  inj:=S1.inj
  nF:=S1.nF
  fresh:=S1.fresh
  stampC:=S1.stampC
  stampR:=S1.stampR
  stampO:=S1.stampO
  df:=fun d hd=>by
   rcases List.mem_cons.1 hd with rfl | hd
   ·exact .inr ⟨⟨_,_,rfl⟩,by rw [hG.2.2];exact ⟨rfl,hN _⟩⟩
   ·exact S1.df d hd
  dn:=List.pairwise_cons.2 ⟨fun d _ _=>⟨_,_,rfl⟩,S1.dn⟩
  bt:=fun d hd=>⟨List.mem_cons_of_mem _ (S1.bt d hd).1,(S1.bt d hd).2⟩
  kd:=S1.kd
  kF:=S1.kF
  rd:=S1.rd }
end
structure Text2 (P : Program) (f : Nat) (c : C2) (N np : Nat) (rv : List RV) : Prop where
 mk ::
 ex : ∃ fn fz, P.funcs[f]? = some fn ∧ fn.body.bind (tr2 P N fz) = some c ∧ (fn.name == "runtime.NumGoroutine") = false ∧ N = np + (fn.ntmps - np) ∧ rvL P fn.results.toList = some rv
theorem calls_of_W2 {P : Program} {f : Nat} {c : C2} {N np : Nat} {rv : List RV} (hm : P.follows .mixedOrders = true) (ht : Text2 P f c N np rv) {s0 : S} {Q : Ex → S → Prop} (h : W2 P N c s0 Q)
  (hQ : ∀ e s,Q e s → (e = .n ∨ e = .r) ∧ ∃ xs,resOK s rv xs) {vs : List Value} (hlen : vs.length = np) {G : Gl} {E : Env} {w : World} (hG : G.N = N) (hrd : G.rd = none) (hdd : G.dd = AlwD P)
  (hS : ∀ a : Act,a.tmps.size = N → (∀ t v,vs[t]? = some v → a.tmps.getD t undef = v) → a.defers = [] → SatS G s0 E a w) (R : Ending → World → Prop)
  (hR : ∀ e s E' a' w' xs us,Q e s → resOK s rv xs → SatS G s E' a' w' → satT E' w' xs us → R (.returned (valOf us)) w') : Calls P f vs.toArray w R:=by
 obtain ⟨fn,fz,h1,h26,h3,h4,h5⟩:=ht.ex
 obtain ⟨code,h2,h6⟩ : ∃ code,fn.body = some code ∧ tr2 P N fz code = some c:=by
  cases hb : fn.body with
  |none=>rw [hb] at h26;cases h26
  |some code=>rw [hb] at h26;exact ⟨code,rfl,h26⟩
 refine callsIn_wide.1 (callsIn_of_wp_marks (F:=Fence.wide) (n:=0) h1 h2 trivial ?_)
 have key:=h hm code fz h6 0 G E { tmps:=vs.toArray ++ Array.replicate (fn.ntmps - vs.toArray.size) undef,defers:=[] } w ⟨hG,hrd,hdd⟩ (hS _ (by simp;omega) (fun t v hv=>by
  have hlt : t < vs.length:=(List.getElem?_eq_some_iff.1 hv).1
  have h0 : vs[t] = v:=by rw [List.getElem?_eq_getElem hlt] at hv;simpa using hv
  simp [Array.getD_eq_getD_getElem?,Array.getElem?_append,hlt,h0]) rfl)
 refine wpIn_mono key (fun e a' w' hx=>?_)
 have fin : ∀ (e : Ex) (s : S) (E' : Env),Q e s → SatS G s E' a' w' → LeavesInM Fence.wide 0 P fn a'.tmps R a'.defers .returning w':=by
  intro e s E' hq hS'
  obtain ⟨_,xs,hx1⟩:=hQ e s hq
  refine leavesM (G:=G) (tm:=lk s.tm) (mem:=lm s.mem) (by rw [hdd];exact fun _ h=>h.2) (by rw [hdd];exact fun _ h=>by cases h.1) a'.defers E' a' w' rfl hS'.st (fun E2 w2 S2=>?_)
  have hS2 : SatS G s E2 { a' with defers:=[] } w2:=⟨S2,hS'.nx⟩
  obtain ⟨us,h7,h8,h9⟩:=res_run (P:=P) hS2 fn.results.toList rv xs h5 hx1
  have hrun : (results fn a'.tmps).run P w2 = .ok (valOf us) w2:=by
   unfold results
   rw [Sem.run_bind]
   have hmm : Sem.run P (fn.results.mapM fun
     |.tmp t=>(pure (a'.tmps.getD t undef) : Sem Value)
     |.cell x t=>do loadVar t (← asAddr (a'.tmps.getD x undef))) w2 = .ok us.toArray w2:=by
    obtain ⟨l,hl⟩ : ∃ l,fn.results = List.toArray l:=⟨fn.results.toList,by simp⟩
    rw [hl] at h7 h9 ⊢
    rw [List.mapM_toArray,Sem.run_map]
    rw [mapM_list l us (by simpa using h7) (fun i x v hx hv=>by
     have:=h9 i x v (by simpa using hx) hv
     cases x <;> exact this)]
    rfl
   exact (congrArg (fun z : Result (Array Value)=>z.andThen fun a w'=>Sem.run P (pure (if h : a.size = 1 then a[0] else Value.tuple a)) w') hmm)
  exact ⟨_,hrun,hR e s E2 _ w2 xs us hq hx1 hS2 h8⟩
 cases e <;> simp only [WX] at hx <;> first
  |exact hx.elim
  |(obtain ⟨s,E',hq,hS'⟩:=hx;exact fin _ s E' hq hS')
  |(obtain ⟨s,E',hq,hS'⟩:=hx;have:=(hQ _ _ hq).1;simp at this)
section
variable {P : Program} {G : Gl} {E : Env} {a : Act} {w : World}
theorem Inl_of_W2 {P : Program} {f : Nat} {c : C2} {N np : Nat} {rv : List RV} (hm : P.follows .mixedOrders = true) (ht : Text2 P f c N np rv) {raw : List AV} (hn : raw.length = np) {s : S} {K : AV → S → Prop}
  (h : ∀ vs : Array Value,W2 P N c ⟨initT 0 raw,(s.nx,.oth (.fr vs s.tm)) :: s.mem,s.nx + 1⟩ (FinI rv s.nx vs K)) : Inl P f raw s K:=by
 refine ⟨?_,fun G E a w vs hS hT=>?_⟩
 ·obtain ⟨fn,fz,h1,h26,h3,h4,h5⟩:=ht.ex
  cases hb : fn.body with
  |none=>rw [hb] at h26;cases h26
  |some code=>simp [hasBody,h1,hb,h3]
 obtain ⟨hlen,hget⟩:=satT_get hT
 have hq : ∀ e s',FinI rv s.nx a.tmps K e s' → (e = .n ∨ e = .r) ∧ ∃ xs tmc,resOK s' rv xs ∧ lm s'.mem s.nx = some (.oth (.fr a.tmps tmc)) ∧ K (pack xs) ⟨tmc,delm s'.mem s.nx,s'.nx⟩:=fun e s' h=>by
  cases e with
  |e id=>exact h.elim
  |n=>exact ⟨.inl rfl,h⟩
  |r=>exact ⟨.inr rfl,h⟩
 refine calls_of_W2 hm ht (h a.tmps) (fun e s' h=>⟨(hq e s' h).1,by obtain ⟨_,xs,_,h1,_⟩:=hq e s' h;exact ⟨xs,h1⟩⟩) (by omega) (G:=⟨G.A,G.w0,N,none,w,E.F,AlwD P⟩) (E:=E) rfl rfl rfl
  (fun a0 hz hv hd=>enter hS N none a0 _ hz hd (fun t=>?_) (fun l hl=>by cases hl)) _ ?_
 ·rw [lk_initT]
  simp only [Nat.not_lt_zero,if_false,Nat.sub_zero]
  cases ha : raw[t]? with
  |none=>simp only [Option.getD_none,sat]
  |some av=>
   have hlt : t < raw.length:=(List.getElem?_eq_some_iff.1 ha).1
   have hx : vs[t]? = some vs[t]:=List.getElem?_eq_getElem (by omega)
   simp only [Option.getD_some]
   rw [hv t _ hx]
   exact hget t av _ ha hx
 ·intro e s' E' a' w' xs us hQ hr hS' hus
  obtain ⟨_,ys,tmc,h1,h2,h3⟩:=hq e s' hQ
  obtain rfl:=resOK_det hr h1
  exact ⟨_,pack xs,_,E',rfl,h3,restore hS hS' h2,pack_sat hus⟩
end
section
variable {P : Program} {r : Option Nat} {nf N : Nat} {fz : List Nat} {G : Gl} {ops : Array Oper} {rl : List RO} {ms : List Nat} {s : S} {st : Nat → S} {pp : Nat → Path} {out : Nat → AV} {u : Nat → Option (Nat × Blk)}
variable {E : Env} {a : Act} {w : World}
theorem inorderC {n : Nat} (hG : G.N = N) (hrl : trL P N fz ops ops.toList = some rl) (hn : n ≤ ops.size) {Q : Exit → Act → World → Prop} {K : S → Prop} (hK : ∀ s E a w,K s → SatS G s E a w → wpOpsIn (W1 r) nf P ops Q (List.range' n (ops.size - n)) a w) :
  ∀ (m i : Nat) (s : S) (E : Env) (a : Act) (w : World),i + m = n → chain P none ((rl.take n).drop i) s K → SatS G s E a w → wpOpsIn (W1 r) nf P ops Q (List.range' i (ops.size - i)) a w
 |0,i,s,E,a,w,hi,hc,hS=>by
  have hl:=(trL_spec hrl).1
  rw [List.drop_of_length_le (by rw [List.length_take];omega),chain_nil] at hc
  obtain rfl : i = n:=by omega
  exact hK s E a w hc hS
 |m + 1,i,s,E,a,w,hi,hc,hS=>by
  obtain ⟨hl,hsp⟩:=trL_spec hrl
  have hil : i < ops.size:=by omega
  obtain ⟨ro,h1,h2⟩:=hsp i ops[i] (by simp [hil])
  have hlt : i < (rl.take n).length:=by rw [List.length_take,hl,Array.length_toList];omega
  have hdrop : (rl.take n).drop i = ro :: (rl.take n).drop (i + 1):=by
   rw [List.drop_eq_getElem_cons hlt]
   congr 1
   have h3 : (rl.take n)[i]? = some ro:=by rw [List.getElem?_take,if_pos (by omega)];exact h1
   rw [List.getElem?_eq_getElem hlt] at h3
   simpa using h3
  rw [hdrop] at hc
  rw [show ops.size - i = (ops.size - (i + 1)) + 1 by omega,List.range'_succ,wpOpsIn_cons]
  unfold wpOpIn
  simp only [Array.getElem?_eq_getElem hil]
  rcases chain_step hc with ⟨p,out,u,_,hok,hc'⟩ | ⟨_,p,hp,hu,hsp⟩
  rotate_left
  ·exact sp_step hG h2 hS hp hu hsp _ Q (fun s' E' a' w' hc' hS'=>inorderC hG hrl hn hK m (i + 1) s' E' a' w' (by omega) hc' hS')
  have hslots : ∀ x,sat E w (ev s.tm x) (a.eval x):=fun x=>ev_sat hS.st x (fun t _=>rfl)
  obtain ⟨f,hop⟩:=h2.op
  have hG1 : GOk P r nf G (lk s.tm) (lm s.mem) E a w ops ops[i] (gdd p out) u:=by
   refine gok_of hS.st h2.gd (by rw [← pathOf_eq];exact hok.path) (fun g b hg=>hslots _) hok.okU (fun hpc=>?_)
   refine hok.sem r nf G _ _ E a w ops[i] ?_ hpc
   rw [stepP_eq]
   exact stepQ_sem hS.st (hS.nx _ (Nat.le_refl _)) hop hpc (fun x _=>hslots x) (by rw [← underAll_eq];exact hok.under)
  refine hG1 _ Q (fun E' w' v h3 h4 h5=>?_)
  have hS':=satS_app (dst:=ops[i].dst) (p:=p) hS.nx h4 h5 hok.okU (fun d hd=>by rw [hG];exact h2.lt d hd)
  rw [h2.dst] at hc'
  exact inorderC hG hrl hn hK m (i + 1) _ E' _ w' (by omega) hc' hS'
variable {x : Value} {c d : C} {K : S → Prop}
end
theorem frzP_sat {s : S} (ks bs : List Nat) (nx : Nat) (h : normOK ks bs nx s = true) {G : Gl} {E : Env} {a : Act} {w : World} (hS : SatS G s E a w) (b0 : Nat → Prop)
  (hb0 : ∀ b,b0 b → b < w.heap.size ∧ G.w0.heap.size ≤ b ∧ ∃ k blk,has bs k = false ∧ lm s.mem k = some blk ∧ blkLoc E k blk = some b ∧ blk.isOth = false) :
  ∃ E',SatS G ⟨keepL s.tm ks,keepM bs s.mem,nx⟩ E' a w ∧ ∀ b,E.F b ∨ b0 b → E'.F b:=by
 obtain ⟨E1,hS1⟩:=le_norm ks bs nx h G E a w hS
 simp only [normOK,Bool.and_eq_true] at h
 obtain ⟨⟨h1,h2⟩,h3⟩:=h
 have hb : ∀ k,has bs k = true → (E.res bs).b k = E.b k:=fun k hk=>by simp [Env.res,hk]
 have hh : ∀ k,has bs k = true → ∀ s,(E.res bs).h k s = E.h k s:=fun k hk s=>by simp [Env.res,hk]
 have hlm : ∀ k blk,lm (keepM bs s.mem) k = some blk → has bs k = true ∧ lm s.mem k = some blk:=fun k blk hk=>by
  rw [lm_keepM] at hk
  split at hk
  ·rename_i h;exact ⟨h,hk⟩
  ·cases hk
 have hpl : ∀ b,b0 b → plainB w b:=fun b hb=>by
  obtain ⟨q0,_,k0,blk0,_,q1,q2,q3⟩:=hb0 b hb
  have hc:=blkLoc_cells blk0 q3 (hS.st.memv k0 blk0 q1) b q2
  exact ⟨fun x hx=>(by have:=hc _ hx;cases this),fun r hr=>(by have:=hc _ hr;cases this)⟩
 let F' : Nat → Prop:=fun b=>E.F b ∨ b0 b
 let E' : Env:=⟨(E.res bs).b,(E.res bs).h,F'⟩
 have hle : (E.res bs).le E':=⟨fun _ _ h=>h,fun _ _ _ h=>h,fun _ h=>.inl h⟩
 have hkeq : ∀ l : List Nat,(l.map fun t=>(t,lk s.tm t)) = keepL s.tm l:=fun l=>by
  induction l with
  |nil=>rfl
  |cons a l ih=>simp only [List.map_cons,keepL,ih]
 refine ⟨E',⟨?_,fun k hk=>?_⟩,fun b hb=>hb⟩
 ·exact {
   ext:=hS.st.ext
   fz:=fun b hb=>by
    rcases hb with hb | hb
    ·exact hS.st.fz b hb
    ·obtain ⟨q1,q2,_⟩:=hb0 b hb
     exact ⟨q1,.inr q2⟩
   tmv:=fun t'=>by
    have hres : sat (E.res bs) w (lk (keepL s.tm ks) t') (a.tmps.getD t' undef):=by
     rw [← hkeq]
     refine sat_res _ _ (okTm_spec h1) ?_
     rcases lk_keep ks (lk s.tm) t' with h | h
     ·rw [h];exact hS.st.tmv t'
     ·rw [h];simp only [sat]
    exact sat_mono hle (fun _ _=>rfl) _ _ hres
   sz:=hS.st.sz
   memv:=fun k blk hk=>by
    obtain ⟨hk1,hk2⟩:=hlm k blk hk
    have hbs:=hS.st.memv k blk hk2
    have ho:=okMem_spec h2 hk1 hk2
    cases blk with
    |cells l=>
     obtain ⟨b,cs,T,q1,q2,q3,q4⟩:=hbs
     exact ⟨b,cs,T,(hb k hk1).trans q1,q2,q3,satL_mono hle (fun _ _=>rfl) _ _ (satL_res _ _ (by simpa only [okBlk] using ho) q4)⟩
    |row s' e n d f l=>
     obtain ⟨v,xs,q1,q2,q3,q4⟩:=hbs
     refine ⟨v,xs,(hh k hk1 s').trans q1,q2,q3,fun i x hx=>?_⟩
     obtain ⟨q5,q6⟩:=q4 i x hx
     exact ⟨q5,fsatL_mono (fun b hb=>.inl hb) (fun _ _=>rfl) _ _ q6⟩
    |oth x=>
     cases x with
     |fr vs tm=>exact fun t=>sat_mono hle (fun _ _=>rfl) _ _ (sat_res _ _ (okTm_spec ho) (hbs t))
     |lp l rec tm=>exact ⟨hbs.1,hbs.2.1,fun t=>sat_mono hle (fun _ _=>rfl) _ _ (sat_res _ _ (okTm_spec ho) (hbs.2.2 t))⟩
     |mp b kd g=>exact hbs
     |si b s pos=>exact hbs
     |nm k' b=>exact (hb k' ho).trans hbs
   inj:=fun k k' blk blk' b hk hk' hbl hbl'=>by
    obtain ⟨hk1,hk2⟩:=hlm k blk hk
    obtain ⟨hk1',hk2'⟩:=hlm k' blk' hk'
    rw [blkLoc_same (E:=E) (E':=E') (hb k hk1) (hh k hk1)] at hbl
    rw [blkLoc_same (E:=E) (E':=E') (hb k' hk1') (hh k' hk1')] at hbl'
    exact hS.st.inj k k' blk blk' b hk2 hk2' hbl hbl'
   nF:=fun k' blk b hk' hbl hF=>by
    obtain ⟨hk1,hk2⟩:=hlm k' blk hk'
    rw [blkLoc_same (E:=E) (E':=E') (hb k' hk1) (hh k' hk1)] at hbl
    rcases hF with hF | hF
    ·exact hS.st.nF k' blk b hk2 hbl hF
    ·obtain ⟨_,_,k0,blk0,q0,q1,q2,_⟩:=hb0 b hF
     have:=hS.st.inj k' k0 blk blk0 b hk2 q1 hbl q2
     subst this
     rw [q0] at hk1;cases hk1
   fresh:=fun k hk=>by
    by_cases hx : has bs k = true
    ·rw [lm_keepM,if_pos hx] at hk
     obtain ⟨q1,q2⟩:=hS.st.fresh k hk
     exact ⟨(hb k hx).trans q1,fun s=>(hh k hx s).trans (q2 s)⟩
    ·exact ⟨by simp [E',Env.res,hx],fun s=>by simp [E',Env.res,hx]⟩
   stampC:=fun k l s' hk=>by
    obtain ⟨hk1,hk2⟩:=hlm k _ hk
    exact (hh k hk1 s').trans (hS.st.stampC k l s' hk2)
   stampR:=fun k s' e n α d f l hk=>by
    obtain ⟨hk1,hk2⟩:=hlm k _ hk
    have:=hS.st.stampR k s' e n α d f l hk2
    exact ⟨(hb k hk1).trans this.1,fun s'' hs=>(hh k hk1 s'').trans (this.2 s'' hs)⟩
   stampO:=fun k x hk=>by
    obtain ⟨hk1,hk2⟩:=hlm k _ hk
    have:=hS.st.stampO k x hk2
    exact ⟨(hb k hk1).trans this.1,fun s''=>(hh k hk1 s'').trans (this.2 s'')⟩
   df:=fun d hd=>by
    rcases hS.st.df d hd with ⟨D,rfl,q1,q2,q3⟩ | hd2
    ·refine .inl ⟨D,rfl,q1,fun hF=>?_,q3⟩
     rcases hF with hF | hF
     ·exact q2 hF
     ·exact (hpl D hF).1 _ q3
    ·exact .inr hd2
   dn:=hS.st.dn
   bt:=hS.st.bt
   kd:=hS.st.kd
   kF:=fun b hF=>by
    rcases hF with hF | hF
    ·exact hS.st.kF b hF
    ·exact .inr (hS.st.kd.plain (hpl b hF))
   rd:=hS.st.rd }
 ·show lm (keepM bs s.mem) k = none
  rw [lm_keepM]
  split
  ·rename_i hx
   have hk' : nx ≤ k:=hk
   have:=allLt_spec h3 hx;omega
  ·rfl
abbrev rcB (v : Value) (x : AV) : Blk:=.oth (.fr #[v] [(0,x)])
theorem rc_sat {s : S} {G : Gl} {E : Env} {a : Act} {w : World} (hS : SatS G s E a w) {j : Nat} {v : Value} {x : AV} (h : lm s.mem j = some (rcB v x)) : sat E w x v:=by
 have h1:=hS.st.memv j _ h
 have h2 : sat E w (lk [(0,x)] 0) ((#[v] : Array Value).getD 0 undef):=h1 0
 exact h2
theorem rc_put {s : S} {G : Gl} {E : Env} {a : Act} {w : World} (hS : SatS G s E a w) {v : Value} {x : AV} (hx : sat E w x v) : SatS G ⟨s.tm,(s.nx,rcB v x) :: s.mem,s.nx + 1⟩ E a w:=by
 have hfr:=hS.st.fresh s.nx (hS.nx _ (Nat.le_refl _))
 have step:=hS.st.step s.nx (rcB v x) E w (Env.le.refl E) (fun _ _=>rfl) (KeepsOthers.refl w) hS.st.ext hS.st.fz (fun _ _=>⟨rfl,fun _=>rfl⟩)
  (fun k' blk b' _ hk hb=>⟨rfl,hS.st.nF k' blk b' hk hb⟩) (fun t=>by
   simp only [lk]
   split
   ·rename_i e;subst e;exact hx
   ·simp only [sat]) (fun b' hb=>by cases hb) (fun l' s' hh=>by cases hh) (fun s' e n α d f l' hh=>by cases hh) (fun y hy=>hfr)
 refine ⟨?_,fun j hj=>?_⟩
 ·have e1 : lm ((s.nx,rcB v x) :: s.mem) = upd (lm s.mem) s.nx (some (rcB v x)):=by funext j;simp only [lm,upd]
  show Sat G (lk s.tm) (lm ((s.nx,rcB v x) :: s.mem)) E a w
  rw [e1];exact step
 ·show lm ((s.nx,rcB v x) :: s.mem) j = none
  have hj' : s.nx + 1 ≤ j:=hj
  simp only [lm]
  rw [if_neg (by omega)]
  exact hS.nx j (by omega)
def leF {ι : Type} (s : S) (S2 : ι → S) : Prop:=∀ G E a w,SatS G s E a w → ∃ i E',SatS G (S2 i) E' a w
theorem leF_row {s : S} (t k : Nat) {st T n : Nat} {α : Type} {d : α} {f : α → List AV} {l : List α} (ht : lk s.tm t = .row k st) (hm : lm s.mem k = some (.row st T n d f l)) :
  leF s fun p : Option Addr × Nat=>⟨(t,.v (.slice p.1 l.length p.2)) :: s.tm,(s.nx,rcB (.slice p.1 l.length p.2) (.row k st)) :: s.mem,s.nx + 1⟩:=fun G E a w hS=>by
 obtain ⟨v,xs,h1,h2,h3,h4⟩:=hS.st.memv k _ hm
 have h5:=hS.st.tmv t
 rw [ht] at h5
 simp only [sat] at h5
 obtain ⟨v',h6,h7⟩:=h5
 rw [h1] at h6;cases h6
 have hlen : v.2.1 = l.length:=by
  rcases h2.2 with ⟨q1,q2⟩ | ⟨g,cap,cur,q1,_⟩
  ·unfold hv at q1
   simp only [Value.slice.injEq] at q1
   omega
  ·unfold hv at q1
   simp only [Value.slice.injEq] at q1
   exact q1.2.1
 have e : hv v = .slice v.1 l.length v.2.2:=by unfold hv;rw [hlen]
 have htm : ∀ t',sat E w (lk ((t,AV.v (.slice v.1 l.length v.2.2)) :: s.tm) t') (a.tmps.getD t' undef):=fun t'=>by
  simp only [lk]
  split
  ·rename_i e0;subst e0;simp only [sat];rw [h7,e]
  ·exact hS.st.tmv t'
 have hS1 : SatS G ⟨(t,.v (.slice v.1 l.length v.2.2)) :: s.tm,s.mem,s.nx⟩ E a w:=⟨{ hS.st with tmv:=htm },hS.nx⟩
 exact ⟨(v.1,v.2.2),E,rc_put hS1 (by simp only [sat];exact ⟨v,h1,e.symm⟩)⟩
theorem le_v_row {s : S} (t j : Nat) {v : Value} {x : AV} (ht : lk s.tm t = .v v) (hj : lm s.mem j = some (rcB v x)) : le s ⟨(t,x) :: s.tm,s.mem,s.nx⟩:=
 le_slot t _ fun G E a w hS y hy=>by
  rw [ht] at hy
  simp only [sat] at hy
  rw [hy]
  exact rc_sat hS hj
theorem le_frzV {s : S} (ks bs : List Nat) (nx j : Nat) {v : Value} {k st T n : Nat} {α : Type} {d : α} {f : α → List AV} {l : List α} (hj : lm s.mem j = some (rcB v (.row k st))) (hm : lm s.mem k = some (.row st T n d f l)) (hk : has bs k = false) (h : normOK ks bs nx s = true) :
  le s ⟨keepL s.tm ks,(nx,rcB v (.sl n d f l)) :: keepM bs s.mem,nx + 1⟩:=fun G E a w hS=>by
 obtain ⟨b0,q1,q2⟩:=row_frz hS hm
 obtain ⟨E',hS',hF⟩:=frzP_sat ks bs nx h hS (fun b=>b0 = some b) (fun b hb=>by
  obtain ⟨r1,r2,blk,r3,r4,r5⟩:=q1 b hb
  exact ⟨r1,r2,k,blk,hk,r3,r4,r5⟩)
 refine ⟨E',rc_put hS' ?_⟩
 have h1:=q2 v (rc_sat hS hj)
 exact sat_of_fsat (E:=E') _ _ (fsat_mono hF (fun _ _=>rfl) _ _ h1)
inductive CelV (v : Value) (y : AV) : List AV → List AV → Prop
 |nil : CelV v y [] []
 |same (x : AV) {l l' : List AV} (h : CelV v y l l') : CelV v y (x :: l) (x :: l')
 |rep {l l' : List AV} (h : CelV v y l l') : CelV v y (.v v :: l) (y :: l')
theorem celV_sat {F : Nat → Prop} {w : World} {v : Value} {y : AV} (hy : fsat F w y v) {l l' : List AV} (h : CelV v y l l') : l.length = l'.length ∧ ∀ vs,fsatL F w l vs → fsatL F w l' vs:=by
 induction h with
 |nil=>exact ⟨rfl,fun vs h=>h⟩
 |same x _ ih=>
  refine ⟨by simp [ih.1],fun vs h=>?_⟩
  simp only [fsatL] at h ⊢
  obtain ⟨u,us,rfl,h1,h2,h3⟩:=h
  exact ⟨u,us,rfl,h1,h2,ih.2 us h3⟩
 |rep _ ih=>
  refine ⟨by simp [ih.1],fun vs h=>?_⟩
  simp only [fsatL,fsat] at h ⊢
  obtain ⟨u,us,rfl,h1,h2,h3⟩:=h
  exact ⟨u,us,rfl,h1,by rw [h2];exact hy,ih.2 us h3⟩
theorem le_rowV {s : S} (j kL i : Nat) {v : Value} {y : AV} (hy : frzB y = true) {st T n : Nat} {α : Type} {d : α} {f : α → List AV} {l : List α} (x' : α) (hj : lm s.mem j = some (rcB v y)) (hm : lm s.mem kL = some (.row st T n d f l)) (hi : i < l.length) (hx : CelV v y (f (l.getD i d)) (f x')) :
  le s ⟨s.tm,setm s.mem kL (.row st T n d f (l.set i x')),s.nx⟩:=fun G E a w hS=>by
 have h0:=fsat_of_sat _ _ hy (rc_sat hS hj)
 obtain ⟨c1,c2⟩:=celV_sat h0 hx
 obtain ⟨h,xs,h1,h2,h3,h4⟩:=hS.st.memv kL _ hm
 have hst:=hS.st.stampR kL _ _ _ _ _ _ _ hm
 have step:=hS.st.step kL (.row st T n d f (l.set i x')) E w (Env.le.refl E) (fun _ _=>rfl) (KeepsOthers.refl w) hS.st.ext hS.st.fz (fun _ _=>⟨rfl,fun _=>rfl⟩)
  (fun k' blk b' _ hk hb=>⟨rfl,hS.st.nF k' blk b' hk hb⟩)
  ⟨h,xs,h1,by rw [List.length_set];exact h2,h3,fun i' x hx'=>by
   rw [List.getElem?_set] at hx'
   split at hx'
   ·rename_i e
    subst e
    cases hx'
    obtain ⟨q1,q2⟩:=h4 i (l.getD i d) (by simp [List.getD,hi])
    exact ⟨by rw [← c1];exact q1,c2 _ q2⟩
   ·exact h4 i' x hx'⟩
  (fun b' hb=>⟨hS.st.nF kL _ b' hm hb,fun k' blk hne hk' hb'=>hne (hS.st.inj k' kL blk _ b' hk' hm hb' hb)⟩)
  (fun l' s' hh=>by cases hh) (fun s' e n' α' d' f' l' hh=>by cases hh;exact hst) (fun y hy=>by cases hy)
 refine ⟨E,?_,fun j' hj'=>?_⟩
 ·have e1 : lm (setm s.mem kL (.row st T n d f (l.set i x'))) = upd (lm s.mem) kL (some (.row st T n d f (l.set i x'))):=lm_setm _ _ _
  show Sat G (lk s.tm) (lm (setm s.mem kL _)) E a w
  rw [e1];exact step
 ·have hne : j' ≠ kL:=fun e=>by
   have:=hS.nx j' hj'
   rw [e,hm] at this;cases this
  show lm (setm s.mem kL _) j' = none
  rw [lm_set_other _ _ hne]
  exact hS.nx j' hj'
def WO (P : Program) (N : Nat) (rl : List RO) (n : Nat) (s : S) (Q : Ex → S → Prop) : Prop:=
 ∀ (r : Option Nat) (nf : Nat) (fz : List Nat) (ops : Array Oper) (G : Gl) (E : Env) (a : Act) (w : World),trL P N fz ops ops.toList = some rl → (G.N = N ∧ G.rd = r ∧ ∀ d,G.dd d true → NopD P d) → SatS G s E a w →
  wpOpsIn (W1 r) nf P ops (WX G Q) (List.range' n (ops.size - n)) a w
section
variable {P : Program} {N : Nat} {rl : List RO} {n m : Nat} {s : S} {Q : Ex → S → Prop} {c : C}
theorem W_regO (n : Nat) (hn : n ≤ rl.length) (h : chain P none (rl.take n) s (fun s1=>WO P N rl n s1 Q)) : W P N (.reg none rl) s Q:=by
 intro hm code fz ht r nf G E x w hG hS
 obtain ⟨id,ops,d,rfl,hrl,hd⟩:=trC_reg ht
 obtain ⟨hl,_⟩:=trL_spec hrl
 rcases hd with ⟨rfl,_⟩ | ⟨_,q,_⟩
 ·refine wpIn_region ?_
  rw [List.range_eq_range']
  have:=inorderC (r:=r) (nf:=nf) (Q:=WX G Q) (K:=fun s1=>WO P N rl n s1 Q) hG.1 hrl (show n ≤ ops.size by rw [hl,Array.length_toList] at hn;exact hn) (fun s1 E1 a1 w1 hk hS1=>hk r nf fz ops G E1 a1 w1 hrl hG hS1) n 0 s E x w (by omega) (by rw [List.drop_zero];exact h) hS
  rw [Nat.sub_zero] at this
  exact this
 ·cases q
theorem WO_le {s' : S} (hl : le s s') (h : WO P N rl n s' Q) : WO P N rl n s Q:=fun r nf fz ops G E a w hrl hG hS=>by
 obtain ⟨E',hS'⟩:=hl G E a w hS
 exact h r nf fz ops G E' a w hrl hG hS'
theorem WO_leF {ι : Type} {S2 : ι → S} (hl : leF s S2) (h : ∀ i,WO P N rl n (S2 i) Q) : WO P N rl n s Q:=fun r nf fz ops G E a w hrl hG hS=>by
 obtain ⟨i,E',hS'⟩:=hl G E a w hS
 exact h i r nf fz ops G E' a w hrl hG hS'
theorem WO_to (m : Nat) (hnm : n ≤ m) (hm : m ≤ rl.length) (h : chain P none ((rl.drop n).take (m - n)) s (fun s1=>WO P N rl m s1 Q)) : WO P N rl n s Q:=fun r nf fz ops G E a w hrl hG hS=>by
 obtain ⟨hl,_⟩:=trL_spec hrl
 refine inorderC (r:=r) (nf:=nf) (n:=m) (Q:=WX G Q) (K:=fun s1=>WO P N rl m s1 Q) hG.1 hrl (by rw [hl,Array.length_toList] at hm;exact hm) (fun s1 E1 a1 w1 hk hS1=>hk r nf fz ops G E1 a1 w1 hrl hG hS1) (m - n) n s E a w (by omega) ?_ hS
 rw [List.drop_take];exact h
theorem WO_end (ks : List Nat) (h : chain P none (rl.drop n) s (fun s'=>Q .n (s'.keep ks))) (hn : n ≤ rl.length) : WO P N rl n s Q:=fun r nf fz ops G E a w hrl hG hS=>by
 obtain ⟨hl,_⟩:=trL_spec hrl
 have hz : rl.length = ops.size:=by rw [hl,Array.length_toList]
 exact inorder hG.1 hrl (K:=fun s'=>Q .n (s'.keep ks)) (fun s E a w hk hS=>⟨_,E,hk,keep_sat ks hS⟩) (ops.size - n) n s E a w (by omega) h hS
end
section
variable {P : Program} {N : Nat}
theorem W2_le {s s' : S} {c : C2} {Q : Ex → S → Prop} (hl : le s s') (h : W2 P N c s' Q) : W2 P N c s Q:=fun hm code fz ht nf G E x w hG hS=>by
 obtain ⟨E',hS'⟩:=hl G E x w hS
 exact h hm code fz ht nf G E' x w hG hS'
theorem W2_mono' {s : S} {c : C2} {Q Q' : Ex → S → Prop} (h : W2 P N c s Q) (hq : ∀ e s,Q e s → Q' e s) : W2 P N c s Q':=
 fun hm code fz ht nf G E x w hG hS=>wpIn_mono (h hm code fz ht nf G E x w hG hS) (fun _ _ _ hx=>WX_mono (fun e s h=>⟨s,le.refl s,hq e s h⟩) hx)
def FinY (N0 : Nat) (rv : List RV) (nx : Nat) (R : Mem) (K : AV → Mem → Mem → Prop) : Ex → S → Prop
 |.e _,_=>False
 |_,s'=>∃ xs B' R2,resOK s' rv xs ∧ sameM (B' ++ R2) s'.mem ∧ Bas N0 B' ∧ Ext nx R s'.nx R2 ∧ ∀ R3 : Mem,(∀ j,nx ≤ j → lm R3 j = lm R2 j) → K (pack xs) B' R3
def MidZ (N0 : Nat) (tm : List (Nat × AV)) (nx : Nat) (R : Mem) (K : AV → Mem → Mem → Prop) (r : AV) (s' : S) : Prop:=∃ B' R2 nx2,Bas N0 B' ∧ Ext nx R nx2 R2 ∧ K r B' R2 ∧ leS s' ⟨tm,B' ++ R2,nx2⟩
theorem fin_opqY {N0 nx : Nat} {R : Mem} {tm : List (Nat × AV)} (hR : Opq N0 R nx) (vs : Array Value) {rv : List RV} {K : AV → Mem → Mem → Prop} {e : Ex} {s' : S} (hq : FinY N0 rv (nx + 1) ((nx,Blk.oth (.fr vs tm)) :: R) K e s') : FinI rv nx vs (MidZ N0 tm nx R K) e s':=by
 have key : (∃ xs B' R2,resOK s' rv xs ∧ sameM (B' ++ R2) s'.mem ∧ Bas N0 B' ∧ Ext (nx + 1) ((nx,Blk.oth (.fr vs tm)) :: R) s'.nx R2 ∧ ∀ R3 : Mem,(∀ j,nx + 1 ≤ j → lm R3 j = lm R2 j) → K (pack xs) B' R3) → ∃ xs tmc,resOK s' rv xs ∧ lm s'.mem nx = some (.oth (.fr vs tmc)) ∧ MidZ N0 tm nx R K (pack xs) ⟨tmc,delm s'.mem nx,s'.nx⟩:=by
  rintro ⟨xs,B',R2,h1,h2,h3,h4,h5⟩
  have hBn' : lm B' nx = none:=h3 nx hR.n
  have hRn : lm R2 nx = some (.oth (.fr vs tm)):=by rw [h4.eq nx (Nat.lt_succ_self _)];simp [lm]
  refine ⟨xs,tm,h1,by rw [← h2 nx,lm_app_r hBn',hRn],B',delm R2 nx,s'.nx,h3,⟨by have:=h4.n;omega,fun j hj=>?_,fun j hj=>?_⟩,h5 _ (fun j hj=>by rw [lm_delm,if_neg (by omega)]),?_⟩
  ·rw [lm_delm,if_neg (by omega),h4.eq j (by omega)]
   simp only [lm]
   rw [if_neg (by omega)]
  ·rw [lm_delm]
   split
   ·rfl
   ·exact h4.hi j hj
  ·have hx : ∀ j,lm (B' ++ delm R2 nx) j = lm (delm s'.mem nx) j:=fun j=>by
    rw [lm_delm,← h2 j]
    by_cases q : j = nx
    ·rw [if_pos q,q,lm_app_r hBn',lm_delm,if_pos rfl]
    ·rw [if_neg q]
     cases hb : lm B' j with
     |none=>rw [lm_app_r hb,lm_app_r hb,lm_delm,if_neg q]
     |some b=>rw [lm_app,lm_app,hb]
   refine leS_same (s:=⟨tm,delm s'.mem nx,s'.nx⟩) _ _ hx (fun j hj=>?_)
   have:=h4.n
   have:=hR.n
   rw [lm_app_r (h3 j (by omega)),lm_delm]
   split
   ·rfl
   ·exact h4.hi j hj
 cases e with
 |e id=>exact hq.elim
 |n=>exact key hq
 |r=>exact key hq
theorem Inl_opqY {f : Nat} {c : C} {np : Nat} {rv : List RV} (hm : P.follows .mixedOrders = true) (ht : Text P f c N np rv) {raw : List AV} (hn : raw.length = np) {N0 nx : Nat} {B R : Mem} {tm : List (Nat × AV)} (hR : Opq N0 R nx) (hB : Bas N0 B) {K : AV → Mem → Mem → Prop}
  (h : ∀ R' nx',Opq N0 R' nx' → nx < nx' → (∀ j,j < nx → lm R' j = lm R j) → W P N c ⟨initT 0 raw,B ++ R',nx'⟩ (FinY N0 rv nx' R' K)) : Inl P f raw ⟨tm,B ++ R,nx⟩ (MidZ N0 tm nx R K):=by
 have hBn : lm B nx = none:=hB nx hR.n
 refine Inl_le' (Inl_of_W hm ht hn (K:=MidZ N0 tm nx R K) (fun vs=>?_)) (fun r s' h=>⟨s',h,leS.refl _⟩)
 have hp:=hR.push (.oth (.fr vs tm))
 refine W_le (leS.le (leS_same (B ++ (nx,Blk.oth (.fr vs tm)) :: R) (nx + 1) (fun k=>lm_back B R _ hBn k) (hp.mem hB))) ?_
 exact W_mono' (h _ _ hp (Nat.lt_succ_self _) (fun j hj=>by simp only [lm];rw [if_neg (by omega)])) (fun e s' hq=>fin_opqY hR vs hq)
theorem Inl_opqY2 {f : Nat} {c : C2} {np : Nat} {rv : List RV} (hm : P.follows .mixedOrders = true) (ht : Text2 P f c N np rv) {raw : List AV} (hn : raw.length = np) {N0 nx : Nat} {B R : Mem} {tm : List (Nat × AV)} (hR : Opq N0 R nx) (hB : Bas N0 B) {K : AV → Mem → Mem → Prop}
  (h : ∀ R' nx',Opq N0 R' nx' → nx < nx' → (∀ j,j < nx → lm R' j = lm R j) → W2 P N c ⟨initT 0 raw,B ++ R',nx'⟩ (FinY N0 rv nx' R' K)) : Inl P f raw ⟨tm,B ++ R,nx⟩ (MidZ N0 tm nx R K):=by
 have hBn : lm B nx = none:=hB nx hR.n
 refine Inl_le' (Inl_of_W2 hm ht hn (K:=MidZ N0 tm nx R K) (fun vs=>?_)) (fun r s' h=>⟨s',h,leS.refl _⟩)
 have hp:=hR.push (.oth (.fr vs tm))
 refine W2_le (leS.le (leS_same (B ++ (nx,Blk.oth (.fr vs tm)) :: R) (nx + 1) (fun k=>lm_back B R _ hBn k) (hp.mem hB))) ?_
 exact W2_mono' (h _ _ hp (Nat.lt_succ_self _) (fun j hj=>by simp only [lm];rw [if_neg (by omega)])) (fun e s' hq=>fin_opqY hR vs hq)
end
theorem leS_rowW {s : S} (k : Nat) {st T n : Nat} {α β : Type} {d : α} {f : α → List AV} {l : List α} (d' : β) (f' : β → List AV) (l' : List β) (hm : lm s.mem k = some (.row st T n d f l)) (hl : l'.length = l.length)
  (hx : ∀ (i : Nat) x,l'[i]? = some x → ∃ y,l[i]? = some y ∧ (f y).length = (f' x).length ∧ ∀ (F : Nat → Prop) (w : World) vs,fsatL F w (f y) vs → fsatL F w (f' x) vs) : leS s ⟨s.tm,setm s.mem k (.row st T n d' f' l'),s.nx⟩:=fun G E a w hS=>by
 obtain ⟨h,xs,h1,h2,h3,h4⟩:=hS.st.memv k _ hm
 have hst:=hS.st.stampR k _ _ _ _ _ _ _ hm
 have step:=hS.st.step k (.row st T n d' f' l') E w (Env.le.refl E) (fun _ _=>rfl) (KeepsOthers.refl w) hS.st.ext hS.st.fz (fun _ _=>⟨rfl,fun _=>rfl⟩)
  (fun k' blk b' _ hk hb=>⟨rfl,hS.st.nF k' blk b' hk hb⟩)
  ⟨h,xs,h1,by rw [hl];exact h2,h3,fun i x hx'=>by
   obtain ⟨y,q1,q2,q3⟩:=hx i x hx'
   obtain ⟨q4,q5⟩:=h4 i y q1
   exact ⟨by rw [← q2];exact q4,q3 _ _ _ q5⟩⟩
  (fun b' hb=>⟨hS.st.nF k _ b' hm hb,fun k' blk hne hk' hb'=>hne (hS.st.inj k' k blk _ b' hk' hm hb' hb)⟩)
  (fun l' s' hh=>by cases hh) (fun s' e n' α' d' f' l' hh=>by cases hh;exact hst) (fun y hy=>by cases hy)
 refine ⟨?_,fun j' hj'=>?_⟩
 ·have e1 : lm (setm s.mem k (.row st T n d' f' l')) = upd (lm s.mem) k (some (.row st T n d' f' l')):=lm_setm _ _ _
  show Sat G (lk s.tm) (lm (setm s.mem k _)) E a w
  rw [e1];exact step
 ·have hne : j' ≠ k:=fun e=>by
   have:=hS.nx j' hj'
   rw [e,hm] at this;cases this
  show lm (setm s.mem k _) j' = none
  rw [lm_set_other _ _ hne]
  exact hS.nx j' hj'
theorem FnN_of_FnO {P : Program} {f : Nat} {args : List AV} {T n : Nat} {α : Type} {d : α} {F : α → List AV} {l : List α} (h : FnO P f args T n d F l) : FnN P f args (.sl n d F l):=by
 refine ⟨h.1,fun A w vs hA hT=>(h.2.2 A w vs hA hT).mono ?_⟩
 rintro e w' ⟨hh,xs,rfl,hb,h4,h5,h6⟩
 refine ⟨_,rfl,hb,?_⟩
 simp only [fsat]
 rcases h4.2 with ⟨h7,h8⟩ | ⟨g,cap,cur,h7,h8,h9,h10,h11,h12,h13⟩
 ·have hl : l = []:=List.eq_nil_of_length_eq_zero h8
  subst hl
  exact ⟨none,0,by rw [h7];rfl,Nat.le_refl _,.inl rfl,.inl rfl⟩
 ·have hlt : False ∨ (w.heap.size ≤ g ∧ g < w'.heap.size):=.inr ⟨h8,(Array.getElem?_eq_some_iff.1 h9).1⟩
  refine ⟨some ⟨g,0,none⟩,cap,by rw [h7],h10,.inr ⟨g,0,rfl,hlt⟩,.inr ⟨g,0,rfl,hlt,fun i x hx=>?_⟩⟩
  obtain ⟨h14,h15⟩:=h6 i x hx
  have hc0 : cellsAt w' g 0 xs:=fun j u hu=>by
   have:=h4.cells (g:=g) (by rw [h7];rfl) j u hu
   unfold Addr.add at this
   split at this
   ·rename_i h0;subst h0;simpa using this
   ·simpa using this
  exact ⟨h14,_,cellsAt_take (cellsAt_drop hc0),fsatL_mono (fun b hb=>hb.elim) (fun _ _=>rfl) _ _ h15⟩
def FnR (P : Program) (f : Nat) (args : List AV) (T n : Nat) {α : Type} (d : α) (F : α → List AV) (l : List α) : Prop:=
 hasBody P f = true ∧ ∀ (A : Nat → Prop) (w : World) (vs : List Value),(∀ b,A b → b < w.heap.size) → fsatT A w args vs → Calls P f vs.toArray w fun e w'=>
  ∃ (h : Hd) (xs : List Value),e = .returned (hv h) ∧ Below w.heap.size w w' ∧ w'.ownsRow w.heap.size T n (hv h) l.length xs ∧ 0 < n ∧ rowSat (fun b=>A b ∨ (w.heap.size ≤ b ∧ b < w'.heap.size ∧ (hv h).ownBlock ≠ some b)) w' n F l xs
theorem FnR_of_W {P : Program} {f : Nat} {c : C} {N np : Nat} {rv : List RV} (hm : P.follows .mixedOrders = true) (ht : Text P f c N np rv) {args : List AV} (hn : args.length = np) {T n : Nat} {α : Type} {d : α} {F : α → List AV} {l : List α}
  (h : W P N c (init args) (FinO rv T n d F l)) : FnR P f args T n d F l:=by
 refine ⟨?_,fun A w vs hA hargs=>?_⟩
 ·obtain ⟨fn,fz,h1,h26,h3,h4,h5⟩:=ht.ex
  cases hb : fn.body with
  |none=>rw [hb] at h26;cases h26
  |some code=>simp [hasBody,h1,hb,h3]
 have hlen:=(fsatT_get hargs).1
 have hq : ∀ e s,FinO rv T n d F l e s → (e = .n ∨ e = .r) ∧ ∃ k st,resOK s rv [.row k st] ∧ lm s.mem k = some (.row st T n d F l):=fun e s q=>by
  cases e with
  |e id=>exact q.elim
  |n=>exact ⟨.inl rfl,q⟩
  |r=>exact ⟨.inr rfl,q⟩
 refine calls_of_W hm ht h (fun e s q=>⟨(hq e s q).1,by obtain ⟨_,k,st,h1,_⟩:=hq e s q;exact ⟨_,h1⟩⟩) (by omega) (G:=⟨A,w,N,none,w,A,AlwD P⟩) (E:=⟨fun _=>none,fun _ _=>none,A⟩) rfl rfl rfl (fun a hz hv hd=>start_sat hA hargs a hz hv hd) _ ?_
 intro e s E' a' w' xs us hQ hr hS h8
 obtain ⟨_,k,st,h1,h2⟩:=hq e s hQ
 obtain rfl:=resOK_det hr h1
 simp only [satT,sat] at h8
 obtain ⟨y,ys,rfl,⟨hd,h3,rfl⟩,rfl⟩:=h8
 obtain ⟨v,zs,h4,h5,h6,h7⟩:=hS.st.memv k _ h2
 rw [h3] at h4
 cases h4
 refine ⟨hd,zs,by simp [valOf],hS.st.ext,h5,h6,fun i x hx=>?_⟩
 obtain ⟨q1,q2⟩:=h7 i x hx
 refine ⟨q1,fsatL_mono (fun b hb=>?_) (fun _ _=>rfl) _ _ q2⟩
 obtain ⟨r1,r2⟩:=hS.st.fz b hb
 rcases r2 with r2 | r2
 ·exact .inl r2
 ·refine .inr ⟨r2,r1,fun e=>hS.st.nF k _ b h2 ?_ hb⟩
  simp only [blkLoc,h3,Option.bind_some]
  exact e
theorem Inl_of_FnR {P : Program} {f : Nat} {raw : List AV} {T n : Nat} {α : Type} {d : α} {F : α → List AV} {l : List α} (hF : FnR P f raw T n d F l) {s : S} (ha : frzAll raw = true) {K : AV → S → Prop}
  (hK : K (.row s.nx 0) ⟨s.tm,(s.nx,.row 0 T n d F l) :: s.mem,s.nx + 1⟩) : Inl P f raw s K:=by
 refine ⟨hF.1,fun G E a w vs hS hT=>?_⟩
 refine (hF.2 E.F w vs (fun b hb=>(hS.st.fz b hb).1) (fsatT_of_satT _ _ ha hT)).mono ?_
 rintro e w' ⟨h,xs,rfl,hb,ho,hn,hr⟩
 have hfr:=hS.st.fresh s.nx (hS.nx _ (Nat.le_refl _))
 let E' : Env:=⟨E.b,fun k s'=>if k = s.nx ∧ s' = 0 then some h else E.h k s',fun b=>E.F b ∨ (w.heap.size ≤ b ∧ b < w'.heap.size ∧ (hv h).ownBlock ≠ some b)⟩
 have hE : E.le E':=⟨fun _ _ h=>h,fun k s' x hx=>by
  by_cases hk : k = s.nx ∧ s' = 0
  ·rw [hk.1,hfr.2] at hx;cases hx
  ·show (if k = s.nx ∧ s' = 0 then some h else E.h k s') = some x
   rw [if_neg hk];exact hx,fun _ h=>.inl h⟩
 have hloc : ∀ b,blkLoc E' s.nx (.row 0 T n d F l) = some b → w.heap.size ≤ b:=fun b hb'=>by
  have : (some h).bind (fun h=>(hv h).ownBlock) = some b:=by
   have e0 : E'.h s.nx 0 = some h:=by show (if s.nx = s.nx ∧ 0 = 0 then some h else _) = _;rw [if_pos ⟨rfl,rfl⟩]
   rw [← e0];exact hb'
  exact (ho.lt b this).1
 have hlob : ∀ b,blkLoc E' s.nx (.row 0 T n d F l) = some b → (hv h).ownBlock = some b:=fun b hb'=>by
  have : (some h).bind (fun h=>(hv h).ownBlock) = some b:=by
   have e0 : E'.h s.nx 0 = some h:=by show (if s.nx = s.nx ∧ 0 = 0 then some h else _) = _;rw [if_pos ⟨rfl,rfl⟩]
   rw [← e0];exact hb'
  exact this
 refine ⟨_,.row s.nx 0,_,E',rfl,hK,⟨?_,fun j hj=>?_⟩,?_⟩
 ·have key:=hS.st.step (hFn:=fun b (hf : E.F b ∨ _)=>hf.elim .inl (fun hf=>.inr (plainB_ge hf.1))) s.nx (.row 0 T n d F l) E' w' hE (fun b hb'=>hb.block b (hS.st.fz b hb').1) (keeps_grow hb) (hS.st.ext.trans (hb.mono hS.st.ext.size))
   (fun b hb'=>hb'.elim (fun hb'=>⟨Nat.lt_of_lt_of_le (hS.st.fz b hb').1 hb.size,(hS.st.fz b hb').2⟩) (fun hb'=>⟨hb'.2.1,.inr (Nat.le_trans hS.st.ext.size hb'.1)⟩))
   (fun k hk=>⟨rfl,fun s'=>by show (if k = s.nx ∧ s' = 0 then some h else E.h k s') = _;rw [if_neg (fun q=>hk q.1)]⟩)
   (fun k blk b hk hm hl=>⟨hb.block b (blkLoc_lt blk (hS.st.memv k blk hm) b hl).2,fun hf=>hf.elim (hS.st.nF k blk b hm hl) (fun hf=>by have:=(blkLoc_lt blk (hS.st.memv k blk hm) b hl).2;omega)⟩)
   ⟨h,xs,by show (if s.nx = s.nx ∧ 0 = 0 then some h else _) = _;rw [if_pos ⟨rfl,rfl⟩],ownsRow_base ho hS.st.ext.size,hn,hr⟩
   (fun b hb'=>⟨fun hf=>hf.elim (fun hf=>by have:=hloc b hb';have:=(hS.st.fz b hf).1;omega) (fun hf=>hf.2.2 (hlob b hb')),fun k blk hk hm hl=>by have:=hloc b hb';have:=(blkLoc_lt blk (hS.st.memv k blk hm) b hl).2;omega⟩)
   (fun l s' q=>by cases q)
   (fun s' e n' α' d' f' l' q=>by
    cases q
    refine ⟨hfr.1,fun s2 hs=>?_⟩
    show (if s.nx = s.nx ∧ s2 = 0 then some h else E.h s.nx s2) = none
    rw [if_neg (by omega)];exact hfr.2 s2)
  have e1 : lm ((s.nx,Blk.row 0 T n d F l) :: s.mem) = upd (lm s.mem) s.nx (some (.row 0 T n d F l)):=by
   funext j;simp only [lm,upd]
  show Sat G (lk s.tm) (lm ((s.nx,Blk.row 0 T n d F l) :: s.mem)) E' a w'
  rw [e1]
  exact key
 ·show lm ((s.nx,Blk.row 0 T n d F l) :: s.mem) j = none
  have hj' : s.nx + 1 ≤ j:=hj
  simp only [lm]
  rw [if_neg (by omega)]
  exact hS.nx j (by omega)
 ·simp only [sat]
  exact ⟨h,by show (if s.nx = s.nx ∧ 0 = 0 then some h else _) = _;rw [if_pos ⟨rfl,rfl⟩],rfl⟩
def WOL (ks : List Nat) (P : Program) (N : Nat) (rl : List RO) (n : Nat) (s : S) (Q : Ex → S → Prop) : Prop:=WO P N rl n s Q
section
variable {P : Program} {N : Nat} {ks : List Nat} {rl : List RO} {s s' : S} {Q : Ex → S → Prop} {n : Nat} {x : Value} {K : S → Prop} {c d : C}
theorem W_regLO (n : Nat) (hn : n ≤ rl.length) (h : chain P none (rl.take n) s (fun s1=>WOL ks P N rl n s1 Q)) : W P N (regL ks none rl) s Q:=W_regO n hn h
theorem WOL_le (hl : le s s') (h : WOL ks P N rl n s' Q) : WOL ks P N rl n s Q:=WO_le hl h
theorem WOL_leF {ι : Type} {S2 : ι → S} (hl : leF s S2) (h : ∀ i,WOL ks P N rl n (S2 i) Q) : WOL ks P N rl n s Q:=WO_leF hl h
theorem WOL_to (m : Nat) (hnm : n ≤ m) (hm : m ≤ rl.length) (h : chain P none ((rl.drop n).take (m - n)) s (fun s1=>WOL ks P N rl m s1 Q)) : WOL ks P N rl n s Q:=WO_to m hnm hm h
theorem WOL_end (hn : n ≤ rl.length) (h : chain P none (rl.drop n) s (fun s'=>Q .n (s'.keep ks))) : WOL ks P N rl n s Q:=WO_end ks h hn
end
mutual
def renA (σ : Nat → Nat) : AV → AV
 |.own k o=>.own (σ k) o
 |.row k s=>.row (σ k) s
 |.roff k s n i o=>.roff (σ k) s n i o
 |.rsf k s n i=>.rsf (σ k) s n i
 |.agg cs=>.agg (renL σ cs)
 |.tup cs=>.tup (renL σ cs)
 |.fq cs o=>.fq (renL σ cs) o
 |.cq g a b=>.cq g (renL σ a) (renL σ b)
 |.gd p a=>.gd p (renA σ a)
 |.v x=>.v x
 |.fp cs o=>.fp cs o
 |.sl n d f l=>.sl n d f l
 |.clo g a b=>.clo g a b
 |.fm kd g=>.fm kd g
 |.bad=>.bad
def renL (σ : Nat → Nat) : List AV → List AV
 |[]=>[]
 |a :: r=>renA σ a :: renL σ r
end
def renT (σ : Nat → Nat) : List (Nat × AV) → List (Nat × AV)
 |[]=>[]
 |(t,a) :: r=>(t,renA σ a) :: renT σ r
theorem lk_renT (σ : Nat → Nat) (t : Nat) : ∀ l,lk (renT σ l) t = renA σ (lk l t)
 |[]=>by simp [renT,lk,renA]
 |(t',a) :: r=>by
  simp only [renT,lk]
  split
  ·rfl
  ·exact lk_renT σ t r
def renB (σ : Nat → Nat) : Blk → Blk
 |.cells l=>.cells (renL σ l)
 |.row s e n d f l=>.row s e n d f l
 |.oth (.fr vs tm)=>.oth (.fr vs (renT σ tm))
 |.oth (.lp l r tm)=>.oth (.lp l r (renT σ tm))
 |.oth (.mp b kd g)=>.oth (.mp b kd g)
 |.oth (.si b s p)=>.oth (.si b s p)
 |.oth (.nm k b)=>.oth (.nm (σ k) b)
mutual
theorem sat_ren {E E' : Env} {w : World} {bs : List Nat} {σ : Nat → Nat} (hb : ∀ k,has bs k = true → E'.b k = E.b (σ k)) (hh : ∀ k,has bs k = true → ∀ s,E'.h k s = E.h (σ k) s) (hF : E'.F = E.F) : ∀ (a : AV) (y : Value),onlyB bs a = true → sat E w (renA σ a) y → sat E' w a y
 |.v x,y,_,h=>h
 |.fp cs off,y,_,h=>by simp only [renA,sat,hF] at h ⊢;exact h
 |.sl n d f l,y,_,h=>by simp only [renA,sat,hF] at h ⊢;exact h
 |.clo g fi ca,y,_,h=>by simp only [renA,sat,hF] at h ⊢;exact h
 |.fm kd g,y,_,h=>by simp only [renA,sat,hF] at h ⊢;exact h
 |.bad,y,_,h=>by simp only [sat]
 |.own k off,y,ho,h=>by
  simp only [onlyB] at ho
  simp only [renA,sat,hb k ho] at h ⊢;exact h
 |.row k s,y,ho,h=>by
  simp only [onlyB] at ho
  simp only [renA,sat,hh k ho] at h ⊢;exact h
 |.roff k s n i off,y,ho,h=>by
  simp only [onlyB] at ho
  simp only [renA,sat,hh k ho] at h ⊢;exact h
 |.rsf k s n i,y,ho,h=>by
  simp only [onlyB] at ho
  simp only [renA,sat,hh k ho] at h ⊢;exact h
 |.agg cs,y,ho,h=>by
  simp only [onlyB] at ho
  simp only [renA,sat] at h ⊢
  obtain ⟨vs,h1,h2⟩:=h
  exact ⟨vs,h1,satL_ren hb hh hF cs vs ho h2⟩
 |.tup cs,y,ho,h=>by
  simp only [onlyB] at ho
  simp only [renA,sat] at h ⊢
  obtain ⟨vs,h1,h2⟩:=h
  exact ⟨vs,h1,satT_ren hb hh hF cs vs ho h2⟩
 |.fq cs off,y,ho,h=>by
  simp only [onlyB] at ho
  simp only [renA,sat,hF] at h ⊢
  obtain ⟨b,o,vs,h1,h2,h3,h4⟩:=h
  exact ⟨b,o,vs,h1,h2,h3,satL_ren hb hh hF cs vs ho h4⟩
 |.cq g fi ca,y,ho,h=>by
  simp only [onlyB,Bool.and_eq_true] at ho
  simp only [renA,sat] at h ⊢
  obtain ⟨fv,cv,h1,h2,h3⟩:=h
  exact ⟨fv,cv,h1,satT_ren hb hh hF fi fv ho.1 h2,satT_ren hb hh hF ca cv ho.2 h3⟩
 |.gd p a,y,ho,h=>by
  simp only [onlyB] at ho
  simp only [renA,sat] at h ⊢
  exact ⟨fun hp=>sat_ren hb hh hF a y ho (h.1 hp),h.2⟩
theorem satL_ren {E E' : Env} {w : World} {bs : List Nat} {σ : Nat → Nat} (hb : ∀ k,has bs k = true → E'.b k = E.b (σ k)) (hh : ∀ k,has bs k = true → ∀ s,E'.h k s = E.h (σ k) s) (hF : E'.F = E.F) : ∀ (al : List AV) (vs : List Value),onlyL bs al = true → satL E w (renL σ al) vs → satL E' w al vs
 |[],vs,_,h=>h
 |c :: cs,vs,ho,h=>by
  simp only [onlyL,Bool.and_eq_true] at ho
  simp only [renL,satL] at h ⊢
  obtain ⟨x,xs,h1,h2,h3,h4⟩:=h
  exact ⟨x,xs,h1,h2,sat_ren hb hh hF c x ho.1 h3,satL_ren hb hh hF cs xs ho.2 h4⟩
theorem satT_ren {E E' : Env} {w : World} {bs : List Nat} {σ : Nat → Nat} (hb : ∀ k,has bs k = true → E'.b k = E.b (σ k)) (hh : ∀ k,has bs k = true → ∀ s,E'.h k s = E.h (σ k) s) (hF : E'.F = E.F) : ∀ (al : List AV) (vs : List Value),onlyL bs al = true → satT E w (renL σ al) vs → satT E' w al vs
 |[],vs,_,h=>h
 |c :: cs,vs,ho,h=>by
  simp only [onlyL,Bool.and_eq_true] at ho
  simp only [renL,satT] at h ⊢
  obtain ⟨x,xs,h1,h3,h4⟩:=h
  exact ⟨x,xs,h1,sat_ren hb hh hF c x ho.1 h3,satT_ren hb hh hF cs xs ho.2 h4⟩
end
def sgF : List (Nat × Nat) → Nat → Nat
 |[],k=>k
 |(a,b) :: r,k=>if k = a then b else sgF r k
def RenT (s : S) (σ : Nat → Nat) : List (Nat × AV) → Prop
 |[]=>True
 |(t,a) :: r=>lk s.tm t = renA σ a ∧ RenT s σ r
def RenM (s : S) (σ : Nat → Nat) (bs : List Nat) : Mem → Prop
 |[]=>True
 |(k,b) :: r=>okBlk bs b = true ∧ lm s.mem (σ k) = some (renB σ b) ∧ RenM s σ bs r
theorem renT_spec {s : S} {σ : Nat → Nat} (t : Nat) : ∀ {tm : List (Nat × AV)},RenT s σ tm → lk tm t = .bad ∨ lk s.tm t = renA σ (lk tm t)
 |[],_=>.inl rfl
 |(t',a) :: r,h=>by
  simp only [lk]
  split
  ·rename_i e;rw [e];exact .inr h.1
  ·exact renT_spec t h.2
theorem renM_spec {s : S} {σ : Nat → Nat} {bs : List Nat} {k : Nat} {b : Blk} : ∀ {m : Mem},RenM s σ bs m → lm m k = some b → has (names m) k = true ∧ okBlk bs b = true ∧ lm s.mem (σ k) = some (renB σ b)
 |[],_,h=>by cases h
 |(k',c) :: r,h,hl=>by
  simp only [lm] at hl
  split at hl
  ·rename_i e
   cases hl
   refine ⟨by simp [names,has,e],h.1,?_⟩
   rw [e];exact h.2.1
  ·obtain ⟨q1,q2,q3⟩:=renM_spec h.2.2 hl
   refine ⟨?_,q2,q3⟩
   rw [has_mem] at q1 ⊢
   exact List.mem_cons_of_mem _ q1
theorem names_lm {k : Nat} : ∀ {m : Mem},has (names m) k = true → ∃ b,lm m k = some b
 |[],h=>by simp [names,has] at h
 |(k',c) :: r,h=>by
  rw [has_mem] at h
  simp only [lm]
  split
  ·exact ⟨_,rfl⟩
  ·rename_i e
   rcases List.mem_cons.1 h with h | h
   ·exact absurd h e
   ·exact names_lm (has_mem.2 h)
theorem nodup_inj {α : Type} {f : α → Nat} : ∀ {l : List α},(l.map f).Nodup → ∀ x ∈ l,∀ y ∈ l,f x = f y → x = y
 |[],_,x,hx,_,_,_=>by cases hx
 |a :: l,h,x,hx,y,hy,e=>by
  rw [List.map_cons,List.nodup_cons] at h
  rcases List.mem_cons.1 hx with h1 | h1
  ·rcases List.mem_cons.1 hy with h2 | h2
   ·rw [h1,h2]
   ·exact absurd (List.mem_map.2 ⟨y,h2,by rw [← e,h1]⟩) h.1
  ·rcases List.mem_cons.1 hy with h2 | h2
   ·exact absurd (List.mem_map.2 ⟨x,h1,by rw [e,h2]⟩) h.1
   ·exact nodup_inj h.2 x h1 y h2 e
theorem le_ren {s : S} (ps : List (Nat × Nat)) (tm : List (Nat × AV)) (m : Mem) (nx : Nat) (h1 : okTm (names m) tm = true) (h2 : RenT s (sgF ps) tm) (h3 : RenM s (sgF ps) (names m) m) (h4 : ((names m).map (sgF ps)).Nodup) (h5 : allLt nx (names m) = true) : le s ⟨tm,m,nx⟩:=by
 intro G E a w hS
 generalize hσ : sgF ps = σ at *
 let E' : Env:=⟨fun k=>if has (names m) k then E.b (σ k) else none,fun k s=>if has (names m) k then E.h (σ k) s else none,E.F⟩
 have hb : ∀ k,has (names m) k = true → E'.b k = E.b (σ k):=fun k hk=>by simp [E',hk]
 have hh : ∀ k,has (names m) k = true → ∀ s,E'.h k s = E.h (σ k) s:=fun k hk s=>by simp [E',hk]
 have hA : ∀ (a : AV) (y : Value),onlyB (names m) a = true → sat E w (renA σ a) y → sat E' w a y:=fun a y=>sat_ren hb hh rfl a y
 have hloc : ∀ k blk,has (names m) k = true → blkLoc E' k blk = blkLoc E (σ k) (renB σ blk):=fun k blk hk=>by
  cases blk with
  |cells l=>simp only [blkLoc,renB,hb k hk]
  |row s e n d f l=>simp only [blkLoc,renB,hh k hk]
  |oth x=>cases x <;> rfl
 have hinj : ∀ k k',has (names m) k = true → has (names m) k' = true → σ k = σ k' → k = k':=fun k k' hk hk' e=>nodup_inj h4 k (has_mem.1 hk) k' (has_mem.1 hk') e
 refine ⟨E',⟨?_,fun k hk=>?_⟩⟩
 ·exact {
   ext:=hS.st.ext
   fz:=hS.st.fz
   tmv:=fun t=>by
    show sat E' w (lk tm t) _
    rcases renT_spec t h2 with h | h
    ·rw [h];simp only [sat]
    ·refine hA _ _ (okTm_spec h1) ?_
     rw [← h];exact hS.st.tmv t
   sz:=hS.st.sz
   memv:=fun k blk hk=>by
    obtain ⟨hk1,ho,hk2⟩:=renM_spec h3 hk
    have hbs:=hS.st.memv (σ k) _ hk2
    cases blk with
    |cells l=>
     obtain ⟨b,cs,T,q1,q2,q3,q4⟩:=hbs
     exact ⟨b,cs,T,by rw [hb k hk1];exact q1,q2,q3,satL_ren hb hh rfl _ _ (by simpa only [okBlk] using ho) q4⟩
    |row s' e n d f l=>
     obtain ⟨v,xs,q1,q2,q3,q4⟩:=hbs
     exact ⟨v,xs,by rw [hh k hk1];exact q1,q2,q3,q4⟩
    |oth x=>
     cases x with
     |fr vs tm'=>exact fun t=>hA _ _ (okTm_spec ho) (by rw [← lk_renT];exact hbs t)
     |lp l rec tm'=>exact ⟨hbs.1,hbs.2.1,fun t=>hA _ _ (okTm_spec ho) (by rw [← lk_renT];exact hbs.2.2 t)⟩
     |mp b kd g=>exact hbs
     |si b s pos=>exact hbs
     |nm k' b=>exact (hb k' ho).trans hbs
   inj:=fun k k' blk blk' b hk hk' hbl hbl'=>by
    obtain ⟨hk1,_,hk2⟩:=renM_spec h3 hk
    obtain ⟨hk1',_,hk2'⟩:=renM_spec h3 hk'
    rw [hloc k blk hk1] at hbl
    rw [hloc k' blk' hk1'] at hbl'
    exact hinj k k' hk1 hk1' (hS.st.inj (σ k) (σ k') _ _ b hk2 hk2' hbl hbl')
   nF:=fun k blk b hk hbl=>by
    obtain ⟨hk1,_,hk2⟩:=renM_spec h3 hk
    rw [hloc k blk hk1] at hbl
    exact hS.st.nF (σ k) _ b hk2 hbl
   fresh:=fun k hk=>by
    have hx : ¬ has (names m) k = true:=fun q=>by
     obtain ⟨b,hb'⟩:=names_lm q
     rw [hk] at hb';cases hb'
    exact ⟨by simp [E',hx],fun s=>by simp [E',hx]⟩
   stampC:=fun k l s' hk=>by
    obtain ⟨hk1,_,hk2⟩:=renM_spec h3 hk
    rw [hh k hk1];exact hS.st.stampC (σ k) _ s' hk2
   stampR:=fun k s' e n α d f l hk=>by
    obtain ⟨hk1,_,hk2⟩:=renM_spec h3 hk
    have:=hS.st.stampR (σ k) s' e n α d f l hk2
    exact ⟨by rw [hb k hk1];exact this.1,fun s'' hs=>by rw [hh k hk1];exact this.2 s'' hs⟩
   stampO:=fun k x hk=>by
    obtain ⟨hk1,_,hk2⟩:=renM_spec h3 hk
    have : ∃ y,renB σ (.oth x) = .oth y:=by cases x <;> exact ⟨_,rfl⟩
    obtain ⟨y,hy⟩:=this
    rw [hy] at hk2
    have:=hS.st.stampO (σ k) y hk2
    exact ⟨by rw [hb k hk1];exact this.1,fun s''=>by rw [hh k hk1];exact this.2 s''⟩
   df:=hS.st.df
   dn:=hS.st.dn
   bt:=hS.st.bt
   kd:=hS.st.kd
   kF:=hS.st.kF
   rd:=hS.st.rd }
 ·show lm m k = none
  have hk' : nx ≤ k:=hk
  cases hm : lm m k with
  |none=>rfl
  |some b=>
   have:=allLt_spec h5 (renM_spec h3 hm).1
   omega
theorem setm_appr {A B : Mem} {k : Nat} {b : Blk} (h : lm A k = none) : setm (A ++ B) k b = A ++ setm B k b:=by
 induction A with
 |nil=>rfl
 |cons x A ih=>
  obtain ⟨j,c⟩:=x
  simp only [lm] at h
  by_cases e : k = j
  ·rw [if_pos e] at h;cases h
  ·rw [if_neg e] at h
   simp only [List.cons_append,setm,if_neg e]
   rw [ih h]
theorem setm_comm {k1 k2 : Nat} (h : k1 ≠ k2) (a b c : Blk) : ∀ (m : Mem),setm (setm (setm m k1 a) k2 b) k1 c = setm (setm m k1 c) k2 b
 |[]=>by simp [setm,h,Ne.symm h]
 |(j,d) :: m=>by
  by_cases h1 : k1 = j
  ·subst h1
   simp only [setm,if_true,if_neg (Ne.symm h),if_neg h]
  ·by_cases h2 : k2 = j
   ·subst h2
    simp only [setm,if_neg h1,if_true,if_neg h]
    congr 1
    exact setm_setm k1 a c m
   ·simp only [setm,if_neg h1,if_neg h2]
    rw [setm_comm h a b c m]
theorem hasM_eq (k : Nat) : ∀ (m : Mem),hasM m k = (lm m k).isSome
 |[]=>rfl
 |(j,b) :: m=>by
  simp only [hasM,lm]
  by_cases e : k = j
  ·rw [if_pos e,if_pos e];rfl
  ·rw [if_neg e,if_neg e];exact hasM_eq k m
structure Two (N0 k1 k2 : Nat) (B : Blk → Blk → Mem) : Prop where
 l1 : ∀ a b R,lm (B a b ++ R) k1 = some a
 l2 : ∀ a b R,lm (B a b ++ R) k2 = some b
 ln : ∀ a b R n,N0 ≤ n → lm (B a b ++ R) n = lm R n
 s1 : ∀ a b R c,setm (B a b ++ R) k1 c = B c b ++ R
 s2 : ∀ a b R c,setm (B a b ++ R) k2 c = B a c ++ R
 sn : ∀ a b R n c,N0 ≤ n → setm (B a b ++ R) n c = B a b ++ setm R n c
 bas : ∀ a b,Bas N0 (B a b)
theorem lm_setm_ne {m : Mem} {k : Nat} {b : Blk} : lm (setm m k b) k ≠ none:=by rw [lm_set_same];simp
theorem two_blk (M : Mem) {N0 k1 k2 : Nat} (h1 : k1 < N0) (h2 : k2 < N0) (hne : k1 ≠ k2) (hM : ∀ j,N0 ≤ j → lm M j = none) : Two N0 k1 k2 (fun a b=>setm (setm M k1 a) k2 b):=by
 have hk1 : ∀ a b,lm (setm (setm M k1 a) k2 b) k1 = some a:=fun a b=>by rw [lm_set_other _ _ hne,lm_set_same]
 have hk2 : ∀ a b,lm (setm (setm M k1 a) k2 b) k2 = some b:=fun a b=>lm_set_same _ _ _
 have hb : ∀ a b,Bas N0 (setm (setm M k1 a) k2 b):=fun a b j hj=>by rw [lm_set_other _ _ (by omega),lm_set_other _ _ (by omega)];exact hM j hj
 exact {
  l1:=fun a b R=>by rw [lm_app,hk1]
  l2:=fun a b R=>by rw [lm_app,hk2]
  ln:=fun a b R n hn=>lm_app_r (hb a b n hn)
  s1:=fun a b R c=>by rw [setm_app _ (by rw [hk1];simp),setm_comm hne]
  s2:=fun a b R c=>by rw [setm_app _ (by rw [hk2];simp),setm_setm]
  sn:=fun a b R n c hn=>by rw [setm_appr (hb a b n hn)]
  bas:=hb }
structure One (N0 k : Nat) (B : Blk → Mem) : Prop where
 l1 : ∀ a R,lm (B a ++ R) k = some a
 ln : ∀ a R n,N0 ≤ n → lm (B a ++ R) n = lm R n
 s1 : ∀ a R c,setm (B a ++ R) k c = B c ++ R
 sn : ∀ a R n c,N0 ≤ n → setm (B a ++ R) n c = B a ++ setm R n c
 bas : ∀ a,Bas N0 (B a)
theorem one_blk (M : Mem) {N0 k : Nat} (h1 : k < N0) (hM : ∀ j,N0 ≤ j → lm M j = none) : One N0 k (fun a=>setm M k a):=by
 have hb : ∀ a,Bas N0 (setm M k a):=fun a j hj=>by rw [lm_set_other _ _ (by omega)];exact hM j hj
 exact {
  l1:=fun a R=>by rw [lm_app,lm_set_same]
  ln:=fun a R n hn=>lm_app_r (hb a n hn)
  s1:=fun a R c=>by rw [setm_app _ lm_setm_ne,setm_setm]
  sn:=fun a R n c hn=>by rw [setm_appr (hb a n hn)]
  bas:=hb }
theorem nop_recA {P : Program} {g : Nat} {fn : Func} {i0 ib i1 i2 : Nat} {o1 o2 o3 : Oper} {rest : Code} {t5 t7 : Nat} {caps : Array Value}
  (hf : P.funcs[g]? = some fn) (hb : fn.body = some (.seq (.region i0 #[o1] false) (.block ib (.seq (.region i1 #[o2] false) (.cond (.tmp t7) (.region i2 #[o3] false) rest)))))
  (hr : fn.results = #[]) (hz : t5 < fn.ntmps ∧ t7 < fn.ntmps)
  (h1 : o1.dst = some t5 ∧ o1.guard = none ∧ ∀ ρ w,(execOp ρ o1).run P w = .ok .recover w)
  (h2 : o2.dst = some t7 ∧ o2.guard = none ∧ ∀ (a : Act) w,a.eval (.tmp t5) = .nilIface → (execOp a.eval o2).run P w = .ok (.value (.bool true)) w)
  (h3 : o3.guard = none ∧ ∀ ρ w,∃ v,(execOp ρ o3).run P w = .ok (.value v) w)
  (hi : ∀ w,(invoke (.fn (.func g) caps) #[]).run P w = .ok (.enter g caps) w) : NopD P { target:=.fn (.func g) caps,args:=#[] }:=by
 refine ⟨_,_,rfl,fun w=>⟨g,caps,hi w,fun n=>?_⟩⟩
 refine callsDIn_of_wpSIn hf hb trivial fun c₀ cs hu=>?_
 have w1 : ∀ y,Region.wanted o1 y = true:=fun y=>by simp [Region.wanted,h1.2.1]
 have w2 : ∀ y,Region.wanted o2 y = true:=fun y=>by simp [Region.wanted,h2.2.1]
 have w3 : ∀ y,Region.wanted o3 y = true:=fun y=>by simp [Region.wanted,h3.1]
 have hrec : recoverD (c₀ :: cs) = none:=by simp [recoverD,hu]
 refine wpSIn_seq (wpSIn_region ?_)
 show wpOpsSIn Fence.wide n P #[o1] _ [0] _ _ _
 simp only [wpOpsSIn,List.getElem?_toArray,List.getElem?_cons_zero,w1,if_true,h1.2.2,hrec]
 refine ⟨fun _ _=>trivial,?_⟩
 have hsz : fn.ntmps ≤ (caps ++ Array.replicate (fn.ntmps - caps.size) undef).size:=by simp;omega
 generalize (caps ++ Array.replicate (fn.ntmps - caps.size) undef) = T at *
 have hc : c₀ = { c₀ with mode:=.returning }:=by cases c₀;simp at hu;rw [hu]
 show Code.wpSIn Fence.wide n P _ _ _ _ _
 refine wpSIn_of_wpIn rfl (wpIn_block (wpIn_seq (wpIn_region ?_)))
 show wpOpsIn Fence.wide n P #[o2] _ [0] _ _
 rw [wpOpsIn_cons]
 unfold wpOpIn
 simp only [List.getElem?_toArray,List.getElem?_cons_zero,w2,if_true]
 refine ⟨fun _ _=>trivial,?_⟩
 have e5 : (({ tmps:=T,defers:=[] } : Act).put o1.dst .nilIface).eval (.tmp t5) = .nilIface:=by
  rw [h1.1]
  show (({ tmps:=T,defers:=[] } : Act).put (some t5) .nilIface).tmps.getD t5 undef = _
  have : t5 < T.size:=by omega
  simp [Act.put,this]
 have r2 : (o2.semAt Fence.wide.round (({ tmps:=T,defers:=[] } : Act).put o1.dst .nilIface).eval).run P w = .ok (.value (.bool true)) w:=by
  show (o2.semAt none _).run P w = _
  rw [Oper.semAt_none]
  exact h2.2.2 _ w e5
 rw [r2,Oper.uponIn_value,h2.1]
 show Code.wpIn Fence.wide n P _ _ _ _
 have e7 : ∀ A : Act,A.tmps.size = T.size → (A.put (some t7) (.bool true)).eval (.tmp t7) = .bool true:=fun A hA=>by
  show (A.put (some t7) (.bool true)).tmps.getD t7 undef = _
  have : t7 < A.tmps.size:=by omega
  simp [Act.put,this]
 refine wpIn_cond_true (e7 _ (by rw [h1.1];simp [Act.put])) (wpIn_region ?_)
 show wpOpsIn Fence.wide n P #[o3] _ [0] _ _
 rw [wpOpsIn_cons]
 unfold wpOpIn
 simp only [List.getElem?_toArray,List.getElem?_cons_zero,w3,if_true]
 refine ⟨fun _ _=>trivial,?_⟩
 obtain ⟨v,hv⟩:=h3.2 ((({ tmps:=T,defers:=[] } : Act).put o1.dst .nilIface).put (some t7) (.bool true)).eval w
 have r3 : (o3.semAt Fence.wide.round ((({ tmps:=T,defers:=[] } : Act).put o1.dst .nilIface).put (some t7) (.bool true)).eval).run P w = .ok (.value v) w:=by
  show (o3.semAt none _).run P w = _
  rw [Oper.semAt_none]
  exact hv
 rw [r3,Oper.uponIn_value]
 have hd : ∀ (A : Act) d x,(A.put d x).defers = A.defers:=fun A d x=>by cases d <;> rfl
 refine ⟨by rw [hd,hd,hd],.returning,by rw [← hc],.tuple #[],?_,⟨_,rfl⟩,rfl,Below.refl _ w⟩
 first
  |exact results_none hr _ _ _
  |(unfold results;rw [hr];simp)
  |(unfold results;rw [hr];simp;rfl)
theorem le_frzC {s : S} (j o k st T n : Nat) {α : Type} (d : α) (f : α → List AV) (l : List α) (cs : List AV) (hj : lm s.mem j = some (.cells cs)) (ho : nth cs o = .row k st) (hlt : o < cs.length) (hm : lm s.mem k = some (.row st T n d f l)) :
  le s ⟨s.tm,setm (setm s.mem k (.row (st + 1) T n d f [])) j (.cells (setL cs o [.sl n d f l])),s.nx⟩:=by
 intro G E a w hS
 have hne : j ≠ k:=fun e=>by rw [e,hm] at hj;cases hj
 have hst:=hS.st.stampR k _ _ _ _ _ _ _ hm
 obtain ⟨b0,p1,p2⟩:=row_frz hS hm
 obtain ⟨_,_,_,_,hn,_⟩:=hS.st.memv k _ hm
 let E' : Env:=⟨E.b,fun k' s'=>if k' = k ∧ s' = st + 1 then some (none,0,0) else E.h k' s',fun b=>E.F b ∨ b0 = some b⟩
 have hE : E.le E':=⟨fun _ _ h=>h,fun k' s' x h=>by
  by_cases hk : k' = k ∧ s' = st + 1
  ·obtain ⟨rfl,rfl⟩:=hk
   rw [hst.2 (st + 1) (by omega)] at h;cases h
  ·simp only [E',if_neg hk];exact h,fun _ h=>.inl h⟩
 have hold : ∀ k',k' ≠ k → E'.b k' = E.b k' ∧ ∀ s',E'.h k' s' = E.h k' s':=fun k' hk=>⟨rfl,fun s'=>by simp only [E'];rw [if_neg (fun h=>hk h.1)]⟩
 have h0 : E'.h k (st + 1) = some (none,0,0):=by simp [E']
 have step:=hS.st.step k (.row (st + 1) T n d f []) E' w hE (fun _ _=>rfl) (KeepsOthers.refl w) hS.st.ext
   (fun b hb=>hb.elim (hS.st.fz b) fun h=>⟨(p1 b h).1,.inr (p1 b h).2.1⟩) hold
   (fun k' blk b hk hm' hb=>⟨rfl,fun h=>h.elim (hS.st.nF k' blk b hm' hb) fun h2=>by
    obtain ⟨_,_,blk2,r3,r4,_⟩:=p1 b h2
    exact hk (hS.st.inj k' k blk blk2 b hm' r3 hb r4)⟩)
   ⟨(none,0,0),[],h0,⟨by simp,.inl ⟨rfl,rfl⟩⟩,hn,fun i x hx=>by simp at hx⟩
   (fun b hb=>by simp [blkLoc,h0,hv,Value.ownBlock] at hb)
   (fun l s' h=>by cases h)
   (fun s1 e n' α' d' f' l' h=>by
    cases h
    exact ⟨hst.1,fun s' hs=>by simp only [E'];rw [if_neg (fun h=>by omega)];exact hst.2 s' (by omega)⟩)
   (fun y hy=>by cases hy)
   (fun b hb=>hb.elim .inl fun h=>by
    obtain ⟨_,_,blk2,r3,r4,r5⟩:=p1 b h
    have hc:=blkLoc_cells blk2 r5 (hS.st.memv k blk2 r3) b r4
    exact .inr ⟨fun x hx=>(by have:=hc _ hx;cases this),fun r hr=>(by have:=hc _ hr;cases this)⟩)
 have hmk : upd (lm s.mem) k (some (Blk.row (st + 1) T n d f [])) j = some (.cells cs):=by simp only [upd];rw [if_neg hne];exact hj
 obtain ⟨b,vs,T',q1,q2,q3,q4⟩:=step.memv j _ hmk
 obtain ⟨b',vs',T'',r1,r2,r3,r4⟩:=hS.st.memv j _ hj
 have hbb : b' = b:=by
  have : E'.b j = E.b j:=rfl
  rw [this,r1] at q1;cases q1;rfl
 subst hbb
 rw [q3] at r3;cases r3
 obtain ⟨x,hx1,hx2⟩:=satL_nth_any r4 hlt
 rw [ho] at hx2
 have hx3:=p2 x hx2
 have hlen:=satL_len q4
 have q5 : satL E' w (setL cs o [.sl n d f l]) vs.toList:=by
  have h1 : satL E' w [AV.sl n d f l] [x]:=by
   simp only [satL]
   refine ⟨x,[],rfl,?_,sat_of_fsat (E:=E') _ _ hx3,rfl⟩
   exact satL_one r4 x (List.mem_iff_getElem?.2 ⟨o,hx1⟩)
  have h2:=satL_setL (o:=o) q4 h1
  have : vs.toList.take o ++ [x] ++ vs.toList.drop (o + 1) = vs.toList:=by
   have hlt' : o < vs.toList.length:=by omega
   have hg : vs.toList[o] = x:=by rw [List.getElem?_eq_getElem hlt'] at hx1;simpa using hx1
   rw [← hg,List.append_assoc,List.singleton_append,← List.drop_eq_getElem_cons hlt',List.take_append_drop]
  simp only [List.length_cons,List.length_nil,Nat.zero_add] at h2
  rw [this] at h2
  exact h2
 have step2:=step.step j (.cells (setL cs o [.sl n d f l])) E' w (Env.le.refl E') (fun _ _=>rfl) (KeepsOthers.refl w) hS.st.ext step.fz (fun _ _=>⟨rfl,fun _=>rfl⟩)
   (fun k' blk b' hk hm' hb=>⟨rfl,step.nF k' blk b' hm' hb⟩) ⟨b',vs,T',q1,q2,q3,q5⟩
   (fun b' hb=>⟨step.nF j _ b' hmk hb,fun k' blk hk' hm' hb'=>hk' (step.inj k' j blk _ b' hm' hmk hb' hb)⟩)
   (fun l' s' h=>step.stampC j cs s' hmk) (fun s1 e n' α' d' f' l' h=>by cases h)
 have hlm : lm (setm (setm s.mem k (.row (st + 1) T n d f [])) j (.cells (setL cs o [.sl n d f l]))) = upd (upd (lm s.mem) k (some (.row (st + 1) T n d f []))) j (some (.cells (setL cs o [.sl n d f l]))):=by
  rw [lm_setm,lm_setm]
 refine ⟨E',?_,fun j' hj'=>?_⟩
 ·show Sat G (lk s.tm) (lm (setm (setm s.mem k _) j _)) E' a w
  rw [hlm];exact step2
 ·have e1 : j' ≠ k:=fun e=>by have:=hS.nx j' hj';rw [e,hm] at this;cases this
  have e2 : j' ≠ j:=fun e=>by have:=hS.nx j' hj';rw [e,hj] at this;cases this
  show lm (setm (setm s.mem k _) j _) j' = none
  rw [lm_set_other _ _ e2,lm_set_other _ _ e1]
  exact hS.nx j' hj'
theorem le_nilS {s : S} (t n : Nat) {α : Type} (d : α) (f : α → List AV) (ht : lk s.tm t = .v (.slice none 0 0)) : le s ⟨(t,.sl n d f []) :: s.tm,s.mem,s.nx⟩:=
 le_slot t _ fun G E a w hS y hy=>by
  rw [ht] at hy
  simp only [sat] at hy ⊢
  subst hy
  simp only [fsat]
  exact ⟨none,0,rfl,Nat.le_refl _,.inl rfl,.inl trivial⟩
theorem le_frzS {s : S} (t k st T n : Nat) {α : Type} (d : α) (f : α → List AV) (l : List α) (ht : lk s.tm t = .row k st) (hm : lm s.mem k = some (.row st T n d f l)) :
  le s ⟨(t,.sl n d f l) :: s.tm,setm s.mem k (.row (st + 1) T n d f []),s.nx⟩:=by
 intro G E a w hS
 have hst:=hS.st.stampR k _ _ _ _ _ _ _ hm
 obtain ⟨b0,p1,p2⟩:=row_frz hS hm
 have hy:=hS.st.tmv t
 rw [ht] at hy
 have hy2:=p2 _ hy
 obtain ⟨_,_,_,_,hn,_⟩:=hS.st.memv k _ hm
 let E' : Env:=⟨E.b,fun k' s'=>if k' = k ∧ s' = st + 1 then some (none,0,0) else E.h k' s',fun b=>E.F b ∨ b0 = some b⟩
 have hE : E.le E':=⟨fun _ _ h=>h,fun k' s' x h=>by
  by_cases hk : k' = k ∧ s' = st + 1
  ·obtain ⟨rfl,rfl⟩:=hk
   rw [hst.2 (st + 1) (by omega)] at h;cases h
  ·simp only [E',if_neg hk];exact h,fun _ h=>.inl h⟩
 have hold : ∀ k',k' ≠ k → E'.b k' = E.b k' ∧ ∀ s',E'.h k' s' = E.h k' s':=fun k' hk=>⟨rfl,fun s'=>by simp only [E'];rw [if_neg (fun h=>hk h.1)]⟩
 have h0 : E'.h k (st + 1) = some (none,0,0):=by simp [E']
 have step:=hS.st.step k (.row (st + 1) T n d f []) E' w hE (fun _ _=>rfl) (KeepsOthers.refl w) hS.st.ext
   (fun b hb=>hb.elim (hS.st.fz b) fun h=>⟨(p1 b h).1,.inr (p1 b h).2.1⟩) hold
   (fun k' blk b hk hm' hb=>⟨rfl,fun h=>h.elim (hS.st.nF k' blk b hm' hb) fun h2=>by
    obtain ⟨_,_,blk2,r3,r4,_⟩:=p1 b h2
    exact hk (hS.st.inj k' k blk blk2 b hm' r3 hb r4)⟩)
   ⟨(none,0,0),[],h0,⟨by simp,.inl ⟨rfl,rfl⟩⟩,hn,fun i x hx=>by simp at hx⟩
   (fun b hb=>by simp [blkLoc,h0,hv,Value.ownBlock] at hb)
   (fun l s' h=>by cases h)
   (fun s1 e n' α' d' f' l' h=>by
    cases h
    exact ⟨hst.1,fun s' hs=>by simp only [E'];rw [if_neg (fun h=>by omega)];exact hst.2 s' (by omega)⟩)
   (fun y hy=>by cases hy)
   (fun b hb=>hb.elim .inl fun h=>by
    obtain ⟨_,_,blk2,r3,r4,r5⟩:=p1 b h
    have hc:=blkLoc_cells blk2 r5 (hS.st.memv k blk2 r3) b r4
    exact .inr ⟨fun x hx=>(by have:=hc _ hx;cases this),fun r hr=>(by have:=hc _ hr;cases this)⟩)
 have e1 : lm (setm s.mem k (.row (st + 1) T n d f [])) = upd (lm s.mem) k (some (.row (st + 1) T n d f [])):=lm_setm _ _ _
 have h1 : SatS G ⟨s.tm,setm s.mem k (.row (st + 1) T n d f []),s.nx⟩ E' a w:=by
  refine ⟨?_,fun j' hj'=>?_⟩
  ·show Sat G (lk s.tm) (lm (setm s.mem k _)) E' a w
   rw [e1];exact step
  ·have hne : j' ≠ k:=fun e=>by have:=hS.nx j' hj';rw [e,hm] at this;cases this
   show lm (setm s.mem k _) j' = none
   rw [lm_set_other _ _ hne]
   exact hS.nx j' hj'
 refine ⟨E',⟨?_,h1.nx⟩⟩
 refine { h1.st with tmv:=fun t'=>?_ }
 show sat E' w (lk ((t,_) :: s.tm) t') _
 simp only [lk]
 split
 ·rename_i e
  rw [e]
  exact sat_of_fsat (E:=E') _ _ hy2
 ·exact h1.st.tmv t'
end Sy
