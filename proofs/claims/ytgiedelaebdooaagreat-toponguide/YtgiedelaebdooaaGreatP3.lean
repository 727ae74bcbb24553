/- Part 3 of the proof of: For every input the law TopOnGuide returns true: a point of a guide at a length is hardly off it, a track of such points is right, and one that is moved too far is refused. -/
import Derived.Test.YtgiedelaebdooaaGreatP2
namespace Sy
open Go Go.RowKit
set_option linter.unusedVariables false
set_option linter.unusedSimpArgs false
structure Ext (nx : Nat) (R : Mem) (nx2 : Nat) (R2 : Mem) : Prop where
 n : nx ≤ nx2
 eq : ∀ j,j < nx → lm R2 j = lm R j
 hi : ∀ j,nx2 ≤ j → lm R2 j = none
theorem Ext.refl {N0 nx : Nat} {R : Mem} (h : Opq N0 R nx) : Ext nx R nx R:=⟨Nat.le_refl _,fun _ _=>rfl,h.hi⟩
theorem Ext.trans {a b c : Nat} {A B C : Mem} (h : Ext a A b B) (k : Ext b B c C) : Ext a A c C:=
 ⟨Nat.le_trans h.n k.n,fun j hj=>(k.eq j (Nat.lt_of_lt_of_le hj h.n)).trans (h.eq j hj),k.hi⟩
theorem Ext.push {a nx b nx2 : Nat} {R R2 : Mem} {g : Blk} (h : Ext a R nx R2) (h1 : nx ≤ b) (h2 : b < nx2) : Ext a R nx2 ((b,g) :: R2):=
 ⟨by have:=h.n;omega,fun j hj=>by have:=h.n;simp only [lm];rw [if_neg (by omega)];exact h.eq j hj,fun j hj=>by simp only [lm];rw [if_neg (by omega)];exact h.hi j (by omega)⟩
theorem Ext.set {a nx b nx2 : Nat} {R R2 : Mem} {g : Blk} (h : Ext a R nx R2) (h1 : nx ≤ b) (h2 : b < nx2) : Ext a R nx2 (setm R2 b g):=
 ⟨by have:=h.n;omega,fun j hj=>by have:=h.n;rw [lm_set_other _ _ (by omega)];exact h.eq j hj,fun j hj=>by rw [lm_set_other _ _ (by omega)];exact h.hi j (by omega)⟩
theorem Ext.up {a nx nx2 : Nat} {R R2 : Mem} (h : Ext a R nx R2) (h1 : nx ≤ nx2) : Ext a R nx2 R2:=⟨Nat.le_trans h.n h1,h.eq,fun j hj=>h.hi j (by omega)⟩
theorem Ext.dn {a a' b : Nat} {A B : Mem} (h : Ext a' A b B) (ha : a ≤ a') : Ext a A b B:=⟨Nat.le_trans ha h.n,fun j hj=>h.eq j (Nat.lt_of_lt_of_le hj ha),h.hi⟩
def sameM (m m' : Mem) : Prop:=∀ k,lm m k = lm m' k
theorem sameM.refl (m : Mem) : sameM m m:=fun _=>rfl
theorem sameM.trans {a b c : Mem} (h : sameM a b) (k : sameM b c) : sameM a c:=fun j=>(h j).trans (k j)
theorem sameM.cons {n : Nat} {g : Blk} {a b : Mem} (h : sameM a b) : sameM ((n,g) :: a) ((n,g) :: b):=fun k=>by simp only [lm];rw [h k]
section
variable {P : Program} {N : Nat}
end
section
variable {P : Program} {r : Option Nat} {nf N : Nat} {fz : List Nat} {G : Gl} {ops : Array Oper} {rl : List RO} {ms : List Nat}
theorem reg_invJ (hG : G.N = N) (hrl : trL P N fz ops ops.toList = some rl) (hms : ms = masks ops.toList []) (hE : edgeOK 0 ops.toList = true) (St : (Nat → Bool) → S) {Q : Exit → Act → World → Prop}
  (hstep : ∀ (D : Nat → Bool) (i : Nat) ro m,rl[i]? = some ro → ms[i]? = some m → D i = false → (∀ j,tb m j → D j = true) → (∀ i' m',D i' = true → ms[i']? = some m' → ∀ j,tb m' j → D j = true) → chain P none [ro] (St D) (fun s'=>le s' (St fun j=>if j = i then true else D j)))
  (hend : ∀ D : Nat → Bool,(∀ j,j < rl.length → D j = true) → ∀ E a w,SatS G (St D) E a w → Q .normal a w) :
  ∀ (fuel : Nat) (listed : Array Bool) (E : Env) (a : Act) (w : World),unl listed ≤ fuel → LI ops ms listed → SatS G (St fun j=>listed.getD j false) E a w → wpAnyIn (W1 r) nf P .any ops Q fuel listed a w:=by
 obtain ⟨hl,hsp⟩:=trL_spec hrl
 have hlen : rl.length = ops.size:=by rw [hl,Array.length_toList]
 have fin : ∀ (listed : Array Bool) (E : Env) (a : Act) (w : World),LI ops ms listed → Region.ready .any ops listed = [] → SatS G (St fun j=>listed.getD j false) E a w → Q .normal a w:=fun listed E a w inv hr hS=>
  hend _ (fun j hj=>all_listed hE inv hr j j (Nat.le_refl _) (by omega)) E a w hS
 intro fuel
 induction fuel with
 |zero=>
  intro listed E a w hf inv hS
  exact ⟨ready_nil hf,fin listed E a w inv (ready_nil hf) hS⟩
 |succ fuel ih=>
  intro listed E a w hf inv hS
  refine ⟨fun hr=>fin listed E a w inv hr hS,fun i hi=>?_⟩
  obtain ⟨hun,oi,hoi,hall⟩:=mem_ready.1 hi
  have hil : i < ops.size:=(Array.getElem?_eq_some_iff.1 hoi).1
  have hunf:=getD_ff hun
  obtain ⟨mi,hmi⟩:=masks_get hms hil
  obtain ⟨ro,hro,h2⟩:=hsp i oi (by simpa using hoi)
  have hc:=hstep (fun j=>listed.getD j false) i ro mi hro hmi hunf (fun j hj=>(anc hms hE inv i i (Nat.le_refl _) oi mi hoi hmi hall j hj).2) (fun i' m' hi' hm' j hj=>by
   have hi2 : i' < ops.size:=by
    rcases Nat.lt_or_ge i' listed.size with q | q
    ·rw [← inv.size];exact q
    ·simp [Array.getD,Nat.not_lt.2 q] at hi'
   have ho' : ops[i']? = some ops[i']:=Array.getElem?_eq_getElem hi2
   exact (anc hms hE inv i' i' (Nat.le_refl _) ops[i'] m' ho' hm' (inv.closed i' ops[i'] ho' hi') j hj).2)
  have hls : (fun j=>if j = i then true else listed.getD j false) = (fun j=>(listed.setIfInBounds i true).getD j false):=by
   funext j
   by_cases hij : j = i
   ·subst hij
    have : j < listed.size:=by rw [inv.size];exact hil
    simp [this]
   ·rw [if_neg hij,getD_set_ne false (Ne.symm hij)]
  rw [hls] at hc
  have hnext : ∀ s' E' a' w',le s' (St fun j=>(listed.setIfInBounds i true).getD j false) → SatS G s' E' a' w' → wpAnyIn (W1 r) nf P .any ops Q fuel (listed.setIfInBounds i true) a' w':=fun s' E' a' w' hc' hS'=>by
   obtain ⟨E2,h3⟩:=hc' G E' a' w' hS'
   exact ih _ E2 a' w' (by have:=unl_set hun;omega) (inv.set hi) h3
  rcases chain_step hc with ⟨p,out,u,_,hok,hc'⟩ | ⟨_,p,hp,hu,hsp'⟩
  rotate_left
  ·unfold wpOpIn
   simp only [hoi]
   exact sp_step hG h2 hS hp hu hsp' _ Q (fun s' E' a' w' hc' hS'=>hnext s' E' a' w' (by rw [chain_nil] at hc';exact hc') hS')
  have hslots : ∀ x,sat E w (ev (St fun j=>listed.getD j false).tm x) (a.eval x):=fun x=>ev_sat hS.st x (fun t _=>rfl)
  obtain ⟨f,hop⟩:=h2.op
  have hG1 : GOk P r nf G (lk (St fun j=>listed.getD j false).tm) (lm (St fun j=>listed.getD j false).mem) E a w ops oi (gdd p out) u:=by
   refine gok_of hS.st h2.gd (by rw [← pathOf_eq];exact hok.path) (fun g b hg=>hslots _) hok.okU (fun hpc=>?_)
   refine hok.sem r nf G _ _ E a w oi ?_ hpc
   rw [stepP_eq]
   exact stepQ_sem hS.st (hS.nx _ (Nat.le_refl _)) hop hpc (fun x _=>hslots x) (by rw [← underAll_eq];exact hok.under)
  unfold wpOpIn
  simp only [hoi]
  refine hG1 _ Q (fun E' w' v h3 h4 h5=>?_)
  have hS':=satS_app (dst:=oi.dst) (p:=p) hS.nx h4 h5 hok.okU (fun d hd=>by rw [hG];exact h2.lt d hd)
  rw [h2.dst] at hc'
  rw [chain_nil] at hc'
  exact hnext _ E' _ w' hc' hS'
end
section
variable {P : Program} {N : Nat} {s : S} {Q : Ex → S → Prop}
theorem W_regJ {ms : List Nat} {rl : List RO} {ks : List Nat} (St : (Nat → Bool) → S) (hs : le s (St fun _=>false))
  (hstep : ∀ (D : Nat → Bool) (i : Nat) ro m,rl[i]? = some ro → ms[i]? = some m → D i = false → (∀ j,tb m j → D j = true) → (∀ i' m',D i' = true → ms[i']? = some m' → ∀ j,tb m' j → D j = true) → chain P none [ro] (St D) (fun s'=>le s' (St fun j=>if j = i then true else D j)))
  (hend : ∀ D : Nat → Bool,(∀ j,j < rl.length → D j = true) → ∃ s',le (St D) s' ∧ Q .n (s'.keep ks)) : W P N (regL ks (some ms) rl) s Q:=by
 intro hm code fz ht r nf G E x w hG hS
 obtain ⟨id,ops,d,rfl,hrl,hd⟩:=trC_reg ht
 rcases hd with ⟨rfl,hx⟩ | ⟨rfl,hx,hE,hO⟩
 ·cases hx
 ·cases hx
  refine wpIn_region_any hm ?_
  have hrep : ∀ j,(Array.replicate ops.size false).getD j false = false:=fun j=>by
   rcases Nat.lt_or_ge j ops.size with h | h
   ·simp [h]
   ·simp [h]
  have hf : (fun j=>(Array.replicate ops.size false).getD j false) = fun _=>false:=funext hrep
  obtain ⟨E0,hS0⟩:=hs G E x _ ⟨hS.st.drew,hS.nx⟩
  refine reg_invJ hG.1 hrl rfl hE St hstep (fun D hD E a w hS'=>?_) ops.size _ E0 x _ (by simp [unl]) ⟨by simp,fun j oj hj hl=>by rw [hrep] at hl;cases hl⟩ (by rw [hf];exact hS0)
  obtain ⟨s',h1,h2⟩:=hend D hD
  obtain ⟨E2,h3⟩:=h1 G E a w hS'
  exact ⟨_,E2,h2,keep_sat ks h3⟩
end
theorem Ext.put {a nx b nx2 : Nat} {R R2 : Mem} {g : Blk} (h : Ext a R nx R2) (h1 : a ≤ b) (h2 : b < nx2) (h3 : nx ≤ nx2) : Ext a R nx2 (setm R2 b g):=
 ⟨Nat.le_trans h.n h3,fun j hj=>by rw [lm_set_other _ _ (by omega)];exact h.eq j hj,fun j hj=>by rw [lm_set_other _ _ (by omega)];exact h.hi j (by omega)⟩
section
variable {P : Program} {N : Nat}
end
section
variable {P : Program} {r : Option Nat} {nf N : Nat} {fz : List Nat} {G : Gl} {ops : Array Oper} {rl : List RO} {ms : List Nat}
end
section
variable {P : Program} {N : Nat} {s : S} {Q : Ex → S → Prop}
end
section
variable {P : Program} {r : Option Nat} {nf : Nat} {G : Gl} {tm : Nat → AV} {mem : Nat → Option Blk} {E : Env} {a : Act} {w : World} {o : Oper}
end
theorem le_frzP {s : S} (t : Nat) (x : AV) (ks bs : List Nat) (nx : Nat) (h : normOK ks bs nx s = true)
  (hx : ∀ G E a w,SatS G s E a w → ∃ b0 : Nat → Prop,(∀ b,b0 b → b < w.heap.size ∧ G.w0.heap.size ≤ b ∧ ∃ k blk,has bs k = false ∧ lm s.mem k = some blk ∧ blkLoc E k blk = some b ∧ blk.isOth = false) ∧ fsat (fun b=>E.F b ∨ b0 b) w x (a.tmps.getD t undef)) :
  le s ⟨(t,x) :: keepL s.tm ks,keepM bs s.mem,nx⟩:=by
 intro G E a w hS
 obtain ⟨b0,hb0,hsx⟩:=hx G E a w hS
 obtain ⟨E1,hS1⟩:=le_norm ks bs nx h G E a w hS
 simp only [normOK,Bool.and_eq_true] at h
 obtain ⟨⟨h1,h2⟩,h3⟩:=h
 have hb : ∀ k,has bs k = true → (E.res bs).b k = E.b k:=fun k hk=>by simp [Env.res,hk]
 have hh : ∀ k,has bs k = true → ∀ s,(E.res bs).h k s = E.h k s:=fun k hk s=>by simp [Env.res,hk]
 have hlm : ∀ k blk,lm (keepM bs s.mem) k = some blk → has bs k = true ∧ lm s.mem k = some blk:=fun k blk hk=>by
  rw [lm_keepM] at hk
  split at hk
  ·rename_i h;exact ⟨h,hk⟩
  ·cases hk
 have hpl : ∀ b,b0 b → plainB w b:=fun b hb=>by
  obtain ⟨q0,_,k0,blk0,_,q1,q2,q3⟩:=hb0 b hb
  have hc:=blkLoc_cells blk0 q3 (hS.st.memv k0 blk0 q1) b q2
  exact ⟨fun x hx=>(by have:=hc _ hx;cases this),fun r hr=>(by have:=hc _ hr;cases this)⟩
 let F' : Nat → Prop:=fun b=>E.F b ∨ b0 b
 let E' : Env:=⟨(E.res bs).b,(E.res bs).h,F'⟩
 have hle : (E.res bs).le E':=⟨fun _ _ h=>h,fun _ _ _ h=>h,fun _ h=>.inl h⟩
 have hkeq : ∀ l : List Nat,(l.map fun t=>(t,lk s.tm t)) = keepL s.tm l:=fun l=>by
  induction l with
  |nil=>rfl
  |cons a l ih=>simp only [List.map_cons,keepL,ih]
 refine ⟨E',⟨?_,fun k hk=>?_⟩⟩
 ·exact {
   ext:=hS.st.ext
   fz:=fun b hb=>by
    rcases hb with hb | hb
    ·exact hS.st.fz b hb
    ·obtain ⟨q1,q2,_⟩:=hb0 b hb
     exact ⟨q1,.inr q2⟩
   tmv:=fun t'=>by
    simp only [lk]
    split
    ·rename_i he;subst he
     exact sat_of_fsat (E:=E') _ _ hsx
    ·have hres : sat (E.res bs) w (lk (keepL s.tm ks) t') (a.tmps.getD t' undef):=by
      rw [← hkeq]
      refine sat_res _ _ (okTm_spec h1) ?_
      rcases lk_keep ks (lk s.tm) t' with h | h
      ·rw [h];exact hS.st.tmv t'
      ·rw [h];simp only [sat]
     exact sat_mono hle (fun _ _=>rfl) _ _ hres
   sz:=hS.st.sz
   memv:=fun k blk hk=>by
    obtain ⟨hk1,hk2⟩:=hlm k blk hk
    have hbs:=hS.st.memv k blk hk2
    have ho:=okMem_spec h2 hk1 hk2
    cases blk with
    |cells l=>
     obtain ⟨b,cs,T,q1,q2,q3,q4⟩:=hbs
     exact ⟨b,cs,T,(hb k hk1).trans q1,q2,q3,satL_mono hle (fun _ _=>rfl) _ _ (satL_res _ _ (by simpa only [okBlk] using ho) q4)⟩
    |row s' e n d f l=>
     obtain ⟨v,xs,q1,q2,q3,q4⟩:=hbs
     refine ⟨v,xs,(hh k hk1 s').trans q1,q2,q3,fun i x hx=>?_⟩
     obtain ⟨q5,q6⟩:=q4 i x hx
     exact ⟨q5,fsatL_mono (fun b hb=>.inl hb) (fun _ _=>rfl) _ _ q6⟩
    |oth x=>
     cases x with
     |fr vs tm=>exact fun t=>sat_mono hle (fun _ _=>rfl) _ _ (sat_res _ _ (okTm_spec ho) (hbs t))
     |lp l rec tm=>exact ⟨hbs.1,hbs.2.1,fun t=>sat_mono hle (fun _ _=>rfl) _ _ (sat_res _ _ (okTm_spec ho) (hbs.2.2 t))⟩
     |mp b kd g=>exact hbs
     |si b s pos=>exact hbs
     |nm k' b=>exact (hb k' ho).trans hbs
   inj:=fun k k' blk blk' b hk hk' hbl hbl'=>by
    obtain ⟨hk1,hk2⟩:=hlm k blk hk
    obtain ⟨hk1',hk2'⟩:=hlm k' blk' hk'
    rw [blkLoc_same (E:=E) (E':=E') (hb k hk1) (hh k hk1)] at hbl
    rw [blkLoc_same (E:=E) (E':=E') (hb k' hk1') (hh k' hk1')] at hbl'
    exact hS.st.inj k k' blk blk' b hk2 hk2' hbl hbl'
   nF:=fun k' blk b hk' hbl hF=>by
    obtain ⟨hk1,hk2⟩:=hlm k' blk hk'
    rw [blkLoc_same (E:=E) (E':=E') (hb k' hk1) (hh k' hk1)] at hbl
    rcases hF with hF | hF
    ·exact hS.st.nF k' blk b hk2 hbl hF
    ·obtain ⟨_,_,k0,blk0,q0,q1,q2,_⟩:=hb0 b hF
     have:=hS.st.inj k' k0 blk blk0 b hk2 q1 hbl q2
     subst this
     rw [q0] at hk1;cases hk1
   fresh:=fun k hk=>by
    by_cases hx : has bs k = true
    ·rw [lm_keepM,if_pos hx] at hk
     obtain ⟨q1,q2⟩:=hS.st.fresh k hk
     exact ⟨(hb k hx).trans q1,fun s=>(hh k hx s).trans (q2 s)⟩
    ·exact ⟨by simp [E',Env.res,hx],fun s=>by simp [E',Env.res,hx]⟩
   stampC:=fun k l s' hk=>by
    obtain ⟨hk1,hk2⟩:=hlm k _ hk
    exact (hh k hk1 s').trans (hS.st.stampC k l s' hk2)
   stampR:=fun k s' e n α d f l hk=>by
    obtain ⟨hk1,hk2⟩:=hlm k _ hk
    have:=hS.st.stampR k s' e n α d f l hk2
    exact ⟨(hb k hk1).trans this.1,fun s'' hs=>(hh k hk1 s'').trans (this.2 s'' hs)⟩
   stampO:=fun k x hk=>by
    obtain ⟨hk1,hk2⟩:=hlm k _ hk
    have:=hS.st.stampO k x hk2
    exact ⟨(hb k hk1).trans this.1,fun s''=>(hh k hk1 s'').trans (this.2 s'')⟩
   df:=fun d hd=>by
    obtain ⟨D,rfl,q1,q2,q3⟩:=hS.st.df d hd
    refine ⟨D,rfl,q1,fun hF=>?_,q3⟩
    rcases hF with hF | hF
    ·exact q2 hF
    ·exact (hpl D hF).1 _ q3
   dn:=hS.st.dn
   kd:=hS.st.kd
   kF:=fun b hF=>by
    rcases hF with hF | hF
    ·exact hS.st.kF b hF
    ·exact .inr (hS.st.kd.plain (hpl b hF))
   rd:=hS.st.rd }
 ·show lm (keepM bs s.mem) k = none
  rw [lm_keepM]
  split
  ·rename_i hx
   have hk' : nx ≤ k:=hk
   have:=allLt_spec h3 hx;omega
  ·rfl
section
variable {P : Program} {N : Nat} {s s' : S}
end
section
variable {P : Program} {N : Nat}
end
theorem syf {F p q : Prop} (f : F) (h : q) (e : F → p = q:=by intro f;conv=>lhs;simp (maxSteps:=400000) (disch:=omega) only [push_cast,↓reduceIte,reduceCtorEq,Nat.reduceAdd,Nat.reduceSub,Nat.reduceEqDiff,Nat.reduceLeDiff,Nat.reduceLT,Nat.reduceBEq,Nat.reduceDiv,Nat.reduceMod,Nat.reducePow,Nat.reduceMul,Int.reduceToNat,Int.reduceLT,Int.reduceLE,f]) : p:=(e f).mpr h
theorem eqf {F p q : Prop} (f : F) (h : q) (e : F → p = q:=by intro f;conv=>lhs;simp (maxSteps:=400000) (disch:=omega) only [push_cast,↓reduceIte,reduceCtorEq,Nat.reduceAdd,Nat.reduceSub,Nat.reduceEqDiff,Nat.reduceLeDiff,Nat.reduceLT,Nat.reduceBEq,Nat.reduceDiv,Nat.reduceMod,Nat.reducePow,Nat.reduceMul,Int.reduceToNat,Int.reduceLT,Int.reduceLE,S.mk.injEq,List.cons.injEq,Prod.mk.injEq,AV.v.injEq,Value.int.injEq,Value.bool.injEq,Blk.cells.injEq,f]) : p:=(e f).mpr h
theorem syP {p q : Prop} (h : q) (e : p = q:=by conv=>lhs;simp (maxSteps:=400000) (disch:=omega) only [push_cast,↓reduceIte,reduceCtorEq,Nat.reduceAdd,Nat.reduceSub,Nat.reduceEqDiff,Nat.reduceLeDiff,Nat.reduceLT,Nat.reduceBEq,Nat.reduceDiv,Nat.reduceMod,Nat.reducePow,Nat.reduceMul,Int.reduceToNat,Int.reduceLT,Int.reduceLE,pack]) : p:=(e).mpr h
theorem syN {p q : Prop} (h : q) (e : p = q:=by conv=>lhs;simp (maxSteps:=400000) (disch:=omega) only [push_cast,↓reduceIte,reduceCtorEq,Nat.reduceAdd,Nat.reduceSub,Nat.reduceEqDiff,Nat.reduceLeDiff,Nat.reduceLT,Nat.reduceBEq,Nat.reduceDiv,Nat.reduceMod,Nat.reducePow,Nat.reduceMul,Int.reduceToNat,Int.reduceLT,Int.reduceLE,EndP]) : p:=(e).mpr h
theorem sCP {p q : Prop} (h : q) (e : p = q:=by conv=>lhs;simp (maxSteps:=400000) (disch:=omega) only [push_cast,↓reduceIte,reduceCtorEq,Nat.reduceAdd,Nat.reduceSub,Nat.reduceEqDiff,Nat.reduceLeDiff,Nat.reduceLT,Nat.reduceBEq,Nat.reduceDiv,Nat.reduceMod,Nat.reducePow,Nat.reduceMul,Int.reduceToNat,Int.reduceLT,Int.reduceLE,chainP,List.take_succ_cons,List.take_zero,List.drop_succ_cons,List.drop_zero]) : p:=(e).mpr h
theorem sCS {p q : Prop} (h : q) (e : p = q:=by conv=>lhs;simp (maxSteps:=400000) (disch:=omega) only [push_cast,↓reduceIte,reduceCtorEq,Nat.reduceAdd,Nat.reduceSub,Nat.reduceEqDiff,Nat.reduceLeDiff,Nat.reduceLT,Nat.reduceBEq,Nat.reduceDiv,Nat.reduceMod,Nat.reducePow,Nat.reduceMul,Int.reduceToNat,Int.reduceLT,Int.reduceLE,chainX,SpM,List.take_succ_cons,List.take_zero,List.drop_succ_cons,List.drop_zero]) : p:=(e).mpr h
theorem ad2 {a b : Prop} (ha : a) (hb : b) : a ∧ b:=⟨ha,hb⟩
theorem ad3 {a b c : Prop} (ha : a) (hb : b) (hc : c) : a ∧ b ∧ c:=⟨ha,hb,hc⟩
theorem ad4 {a b c d : Prop} (ha : a) (hb : b) (hc : c) (hd : d) : a ∧ b ∧ c ∧ d:=⟨ha,hb,hc,hd⟩
theorem ad5 {a b c d e : Prop} (ha : a) (hb : b) (hc : c) (hd : d) (he : e) : a ∧ b ∧ c ∧ d ∧ e:=⟨ha,hb,hc,hd,he⟩
theorem ad6 {a b c d e f : Prop} (ha : a) (hb : b) (hc : c) (hd : d) (he : e) (hf : f) : a ∧ b ∧ c ∧ d ∧ e ∧ f:=⟨ha,hb,hc,hd,he,hf⟩
theorem ad7 {a b c d e f g : Prop} (ha : a) (hb : b) (hc : c) (hd : d) (he : e) (hf : f) (hg : g) : a ∧ b ∧ c ∧ d ∧ e ∧ f ∧ g:=⟨ha,hb,hc,hd,he,hf,hg⟩
theorem go_c {A p q : Prop} (c : A) (h : q) (e : A → Hid q → p:=by intro c hq;(repeat' (first | refine w1g ?_ | refine w1l ?_ | refine w1q ?_ | refine w1b ?_ | refine w1p ?_ | ((first | refine w1r ?_ | refine w1k ?_ | refine w1e ?_ | refine CallC.now (c ..) ?_);(refine sy1 ?_;try exact tTI)) | refine an2 ?_ | fail));all_goals exact hq.get) : p:=e c ⟨h⟩
theorem go_g {A p q : Prop} (c : A) (h : q) (e : A → Hid q → p:=by intro c hq;(repeat' (first | refine w1g ?_ | refine w1l ?_ | refine w1q ?_ | refine w1b ?_ | refine w1p ?_ | ((first | refine w1r ?_ | refine w1k ?_ | refine w1e ?_ | refine CallC.go _ (fun _=>⟨trivial,c ..⟩) rfl ?_);(refine sy1 ?_;try exact tTI)) | refine an2 ?_ | fail));all_goals exact hq.get) : p:=e c ⟨h⟩
theorem go_cc {A B p q : Prop} (c : A) (d : B) (h : q) (e : A → B → Hid q → p:=by intro c d hq;(repeat' (first | refine w1g ?_ | refine w1l ?_ | refine w1q ?_ | refine w1b ?_ | refine w1p ?_ | ((first | refine w1r ?_ | refine w1k ?_ | refine w1e ?_ | refine CallC.now (c ..) ?_ | refine CallC.now (d ..) ?_);(refine sy1 ?_;try exact tTI)) | refine an2 ?_ | fail));all_goals exact hq.get) : p:=e c d ⟨h⟩
theorem go_cg {A B p q : Prop} (c : A) (d : B) (h : q) (e : A → B → Hid q → p:=by intro c d hq;(repeat' (first | refine w1g ?_ | refine w1l ?_ | refine w1q ?_ | refine w1b ?_ | refine w1p ?_ | ((first | refine w1r ?_ | refine w1k ?_ | refine w1e ?_ | refine CallC.now (c ..) ?_ | refine CallC.go _ (fun _=>⟨trivial,d ..⟩) rfl ?_);(refine sy1 ?_;try exact tTI)) | refine an2 ?_ | fail));all_goals exact hq.get) : p:=e c d ⟨h⟩
theorem go_gg {A B p q : Prop} (c : A) (d : B) (h : q) (e : A → B → Hid q → p:=by intro c d hq;(repeat' (first | refine w1g ?_ | refine w1l ?_ | refine w1q ?_ | refine w1b ?_ | refine w1p ?_ | ((first | refine w1r ?_ | refine w1k ?_ | refine w1e ?_ | refine CallC.go _ (fun _=>⟨trivial,c ..⟩) rfl ?_ | refine CallC.go _ (fun _=>⟨trivial,d ..⟩) rfl ?_);(refine sy1 ?_;try exact tTI)) | refine an2 ?_ | fail));all_goals exact hq.get) : p:=e c d ⟨h⟩
theorem gof {F p q : Prop} (f : F) (h : q) (e : F → Hid q → p:=by intro f hq;(repeat' (first | refine w1g ?_ | refine w1l ?_ | refine w1q ?_ | refine w1b ?_ | refine w1p ?_ | ((first | refine w1r ?_ | refine w1k ?_ | refine w1e ?_);(refine syf f ?_;try exact tTI)) | refine an2 ?_ | fail));all_goals exact hq.get) : p:=e f ⟨h⟩
theorem gofc {F A p q : Prop} (f : F) (c : A) (h : q) (e : F → A → Hid q → p:=by intro f c hq;(repeat' (first | refine w1g ?_ | refine w1l ?_ | refine w1q ?_ | refine w1b ?_ | refine w1p ?_ | ((first | refine w1r ?_ | refine w1k ?_ | refine w1e ?_ | refine CallC.now (c ..) ?_);(refine syf f ?_;try exact tTI)) | refine an2 ?_ | fail));all_goals exact hq.get) : p:=e f c ⟨h⟩
theorem gofg {F A p q : Prop} (f : F) (c : A) (h : q) (e : F → A → Hid q → p:=by intro f c hq;(repeat' (first | refine w1g ?_ | refine w1l ?_ | refine w1q ?_ | refine w1b ?_ | refine w1p ?_ | ((first | refine w1r ?_ | refine w1k ?_ | refine w1e ?_ | refine CallC.go _ (fun _=>⟨trivial,c ..⟩) rfl ?_);(refine syf f ?_;try exact tTI)) | refine an2 ?_ | fail));all_goals exact hq.get) : p:=e f c ⟨h⟩
theorem gofcc {F A B p q : Prop} (f : F) (c : A) (d : B) (h : q) (e : F → A → B → Hid q → p:=by intro f c d hq;(repeat' (first | refine w1g ?_ | refine w1l ?_ | refine w1q ?_ | refine w1b ?_ | refine w1p ?_ | ((first | refine w1r ?_ | refine w1k ?_ | refine w1e ?_ | refine CallC.now (c ..) ?_ | refine CallC.now (d ..) ?_);(refine syf f ?_;try exact tTI)) | refine an2 ?_ | fail));all_goals exact hq.get) : p:=e f c d ⟨h⟩
theorem gofcg {F A B p q : Prop} (f : F) (c : A) (d : B) (h : q) (e : F → A → B → Hid q → p:=by intro f c d hq;(repeat' (first | refine w1g ?_ | refine w1l ?_ | refine w1q ?_ | refine w1b ?_ | refine w1p ?_ | ((first | refine w1r ?_ | refine w1k ?_ | refine w1e ?_ | refine CallC.now (c ..) ?_ | refine CallC.go _ (fun _=>⟨trivial,d ..⟩) rfl ?_);(refine syf f ?_;try exact tTI)) | refine an2 ?_ | fail));all_goals exact hq.get) : p:=e f c d ⟨h⟩
theorem gofccc {F A B C p q : Prop} (f : F) (c : A) (d : B) (g : C) (h : q) (e : F → A → B → C → Hid q → p:=by intro f c d g hq;(repeat' (first | refine w1g ?_ | refine w1l ?_ | refine w1q ?_ | refine w1b ?_ | refine w1p ?_ | ((first | refine w1r ?_ | refine w1k ?_ | refine w1e ?_ | refine CallC.now (c ..) ?_ | refine CallC.now (d ..) ?_ | refine CallC.now (g ..) ?_);(refine syf f ?_;try exact tTI)) | refine an2 ?_ | fail));all_goals exact hq.get) : p:=e f c d g ⟨h⟩
inductive FrzC (m : List (Nat × Blk)) (bs : List Nat) : List AV → List AV → Prop
 |nil : FrzC m bs [] []
 |same {x : AV} {l l' : List AV} (hx : frzB x = true) (h : FrzC m bs l l') : FrzC m bs (x :: l) (x :: l')
 |row {k st T n : Nat} {α : Type} {d : α} {f : α → List AV} {r : List α} {l l' : List AV} (hm : lm m k = some (.row st T n d f r)) (hk : has bs k = false) (h : FrzC m bs l l') : FrzC m bs (.row k st :: l) (.sl n d f r :: l')
theorem frzC_sat {s : S} {bs : List Nat} {G : Gl} {E : Env} {a : Act} {w : World} (hS : SatS G s E a w) {F' : Nat → Prop} (hF : ∀ b,E.F b → F' b) (hB : ∀ b k blk,has bs k = false → lm s.mem k = some blk → blkLoc E k blk = some b → blk.isOth = false → F' b)
  {l l' : List AV} (h : FrzC s.mem bs l l') : ∀ vs,satL E w l vs → fsatL F' w l' vs:=by
 induction h with
 |nil=>exact fun vs hv=>hv
 |same hx _ ih=>
  rintro vs ⟨x,xs,rfl,h1,h2,h3⟩
  exact ⟨x,xs,rfl,h1,fsat_mono hF (fun _ _=>rfl) _ _ (fsat_of_sat _ _ hx h2),ih xs h3⟩
 |row hm hk _ ih=>
  rintro vs ⟨x,xs,rfl,h1,h2,h3⟩
  obtain ⟨b0,q1,q2⟩:=row_frz hS hm
  refine ⟨x,xs,rfl,h1,fsat_mono (fun b hb=>?_) (fun _ _=>rfl) _ _ (q2 x h2),ih xs h3⟩
  rcases hb with hb | hb
  ·exact hF b hb
  ·obtain ⟨_,_,blk,p1,p2,p3⟩:=q1 b hb
   exact hB b _ blk hk p1 p2 p3
theorem le_frzO {s : S} (t : Nat) (ks bs : List Nat) (nx D o : Nat) (l l' : List AV) (ht : lk s.tm t = .own D o) (hm : lm s.mem D = some (.cells l)) (hD : has bs D = false) (hl : FrzC s.mem bs l l') (h : normOK ks bs nx s = true) :
  le s ⟨(t,.fp l' o) :: keepL s.tm ks,keepM bs s.mem,nx⟩:=
 le_frzP t (.fp l' o) ks bs nx h fun G E a w hS=>by
  have h1:=hS.st.tmv t
  rw [ht] at h1
  simp only [sat] at h1
  obtain ⟨b,h2,h3⟩:=h1
  obtain ⟨b',cs,T,h4,h5,h6,h7⟩:=hS.st.memv D _ hm
  rw [h2] at h4;cases h4
  refine ⟨fun b=>∃ k blk,has bs k = false ∧ lm s.mem k = some blk ∧ blkLoc E k blk = some b ∧ blk.isOth = false,fun b ⟨k,blk,q1,q2,q3,q4⟩=>?_,?_⟩
  ·have:=blkLoc_lt blk (hS.st.memv k blk q2) b q3
   exact ⟨this.2,this.1,k,blk,q1,q2,q3,q4⟩
  ·simp only [fsat]
   refine ⟨b,0,cs.toList,by rw [h3,Nat.zero_add],.inr ⟨D,_,hD,hm,h2,rfl⟩,cellsAt_of_heap h6,?_⟩
   exact frzC_sat hS (fun b hb=>.inl hb) (fun b k blk q1 q2 q3 q4=>.inr ⟨k,blk,q1,q2,q3,q4⟩) hl _ h7
theorem le_frzG {s : S} (t : Nat) (ks bs : List Nat) (nx : Nat) (l l' : List AV) (ht : lk s.tm t = .agg l) (hl : FrzC s.mem bs l l') (h : normOK ks bs nx s = true) :
  le s ⟨(t,.agg l') :: keepL s.tm ks,keepM bs s.mem,nx⟩:=
 le_frzP t (.agg l') ks bs nx h fun G E a w hS=>by
  have h1:=hS.st.tmv t
  rw [ht] at h1
  simp only [sat] at h1
  obtain ⟨vs,h2,h3⟩:=h1
  refine ⟨fun b=>∃ k blk,has bs k = false ∧ lm s.mem k = some blk ∧ blkLoc E k blk = some b ∧ blk.isOth = false,fun b ⟨k,blk,q1,q2,q3,q4⟩=>?_,?_⟩
  ·have:=blkLoc_lt blk (hS.st.memv k blk q2) b q3
   exact ⟨this.2,this.1,k,blk,q1,q2,q3,q4⟩
  ·simp only [fsat]
   exact ⟨vs,h2,frzC_sat hS (fun b hb=>.inl hb) (fun b k blk q1 q2 q3 q4=>.inr ⟨k,blk,q1,q2,q3,q4⟩) hl _ h3⟩
end Sy
