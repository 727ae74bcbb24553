/- Part 2 of the proof of: The chapter's examples hold: begin, hold, end, close, tell and the plans between them. -/
import Derived.Test.YtmekmmgiamjfoaaP1
import Derived.RangeFuncNested
import Derived.KernelRfl
import Derived.SizedLaws
import Derived.OpenShut
import Derived.Deep.Slices
import Derived.Carry
import Derived.ChangeOld
import Derived.ProofKit
import Derived.WideShapes
import Derived.ChangeShapes
namespace Sy
open Go Go.RowKit
set_option linter.unusedVariables false
set_option linter.unusedSimpArgs false
theorem lm_setm (k : Nat) (b : Blk) : ∀ (m : List (Nat × Blk)),lm (setm m k b) = upd (lm m) k (some b)
 |[]=>by funext t;simp only [setm,lm,upd]
 |(s,c) :: m=>by
  funext t
  simp only [setm]
  split
  ·rename_i h;subst h
   simp only [lm,upd]
   split <;> rfl
  ·rename_i h
   simp only [lm,lm_setm k b m,upd]
   split
   ·rename_i h2;subst h2;rw [if_neg (fun h3=>h h3.symm)]
   ·rfl
theorem lk_putO (tm : List (Nat × AV)) (d : Nat) (x : AV) : lk (putO tm (some d) x) = upd (lk tm) d x:=by
 funext t;simp only [putO,lk,upd]
section
variable {P : Program} {r : Option Nat} {nf N : Nat} {fz : List Nat} {G : Gl} {E : Env} {a : Act} {w w' : World} {o : Oper} {ops : Array Oper}
theorem ev_sat {tm : Nat → AV} {mem : Nat → Option Blk} {l : List (Nat × AV)} (S : Sat G tm mem E a w) (x : Operand) (h : ∀ t,x = .tmp t → lk l t = tm t) : sat E w (ev l x) (a.eval x):=by
 cases x with
 |tmp t=>simp only [ev];rw [h t rfl];exact S.tmv t
 |const v=>simp [ev,sat,Act.eval]
 |global g=>simp [ev,sat,Act.eval]
 |func f=>simp only [ev,sat,fsat,Act.eval];exact ⟨[],[],by simp,by simp [fsatT],by simp [fsatT]⟩
structure StepOK (P : Program) (o : RO) (s : S) (p : Path) (out : AV) (u : Option (Nat × Blk)) : Prop where
 path : pathOf s.tm o.gp = some p
 under : underAll p s.tm o.op.uops
 okU : okU p s u
 wr : ∀ k b,u = some (k,b) → dW s p o.op = [k]
 sem : ∀ (r : Option Nat) (nf : Nat) (G : Gl) (tm : Nat → AV) (mem : Nat → Option Blk) (E : Env) (a : Act) (w : World) (o' : Oper),
  SRsem P r nf G tm mem E a w o' s.nx (stepP s p o.op) → pc p → Ok1 P r nf G tm mem E a w o' out u
def SpOK (P : Program) (ro : RO) (s : S) (p : Path) (rest : List RO) (K : S → Prop) : Prop:=
 (∃ q fr f args raw,stepP s p ro.op = .call q fr f args raw ∧ (pc p → q ∧ Inl P f raw s (fun r s'=>chain P none rest (s'.app ro.dst [] r none) K)) ∧ (¬ pc p → ∃ r,chain P none rest (s.app ro.dst p r none) K)) ∨
 (∃ q l args,stepP s p ro.op = .yld q l args ∧ (pc p → q ∧ Yl P l args s (fun b s'=>chain P none rest (s'.app ro.dst [] (.v (.bool b)) none) K)) ∧ (¬ pc p → chain P none rest (s.app ro.dst p (.v (.bool false)) none) K))
theorem chain_step {dd : Option DD} {ro : RO} {rest : List RO} {s : S} {K : S → Prop} (h : chain P dd (ro :: rest) s K) :
  (∃ p out u,okD dd (dT s ro.op) (dW s p ro.op) ∧ StepOK P ro s p out u ∧ chain P (nextD dd (dT s ro.op) (dW s p ro.op)) rest (s.app ro.dst p out u) K) ∨
  (dd = none ∧ ∃ p,pathOf s.tm ro.gp = some p ∧ underAll p s.tm ro.op.uops ∧ SpOK P ro s p rest K):=by
 simp only [chain] at h
 cases hp : pathOf s.tm ro.gp with
 |none=>rw [hp] at h;exact h.elim
 |some p=>
  rw [hp] at h
  simp only [] at h
  obtain ⟨h1,h2,h3⟩:=h
  have hW : dW s p ro.op = (stepP s p ro.op).wr s.nx:=rfl
  cases hsr : stepP s p ro.op with
  |ok q out u=>
   rw [hsr] at h3 hW
   obtain ⟨h4,h5,h6⟩:=h3
   exact .inl ⟨p,out,u,h1,⟨hp,h2,h5,fun k b hu=>(by rw [hW,hu];rfl),fun r nf G tm mem E a w o' hs hpc=>by rw [hsr] at hs;exact hs (h4 hpc)⟩,h6⟩
  |call q fr f args raw=>
   rw [hsr] at h3 hW
   rcases h3 with ⟨res,h4,h6⟩ | ⟨hdd,h4,h5⟩ | ⟨hp0,hq,T,n,α,d,F,l,hF,h6⟩ | ⟨hp0,hq,k0,st,T,n,α,d,F,l,e1,e2,hl,hF,h6 | h6⟩
   ·exact .inl ⟨p,res,none,h1,⟨hp,h2,trivial,fun k b hu=>(by cases hu),fun r nf G tm mem E a w o' hs hpc=>by rw [hsr] at hs;exact hs.1 res (h4 hpc).1 (h4 hpc).2⟩,h6⟩
   ·exact .inr ⟨hdd,p,rfl,h2,.inl ⟨q,fr,f,args,raw,hsr,h4,h5⟩⟩
   ·exact .inl ⟨p,.row s.nx 0,some (s.nx,.row 0 T n d F l),h1,⟨hp,h2,⟨hp0,.inl rfl⟩,fun k b hu=>(by cases hu;rw [hW];rfl),fun r nf G tm mem E a w o' hs hpc=>by rw [hsr] at hs;exact hs.2.2.1 hq T n α d F l hF⟩,h6⟩
   ·exact .inl ⟨p,.row s.nx 0,some (s.nx,.row 0 T n d F l),h1,⟨hp,h2,⟨hp0,.inl rfl⟩,fun k b hu=>(by cases hu;rw [hW];rfl),fun r nf G tm mem E a w o' hs hpc=>by rw [hsr] at hs;exact (hs.2.2.2 hq k0 st T n α d F l e1 e2 hl hF).1⟩,h6⟩
   ·exact .inl ⟨p,.sl n d F l,none,h1,⟨hp,h2,trivial,fun k b hu=>(by cases hu),fun r nf G tm mem E a w o' hs hpc=>by rw [hsr] at hs;exact (hs.2.2.2 hq k0 st T n α d F l e1 e2 hl hF).2⟩,h6⟩
  |yld q l args=>
   rw [hsr] at h3 hW
   obtain ⟨hdd,h4,h5⟩:=h3
   exact .inr ⟨hdd,p,rfl,h2,.inr ⟨q,l,args,hsr,h4,h5⟩⟩
  |bls q T n len cs=>
   rw [hsr] at h3 hW
   obtain ⟨hp0,hq,α,d,f,l,c1,c2,c3,c4,h6⟩:=h3
   exact .inl ⟨p,.row s.nx 0,some (s.nx,.row 0 T n d f l),h1,⟨hp,h2,⟨hp0,.inl rfl⟩,fun k b hu=>(by cases hu;rw [hW];rfl),fun r nf G tm mem E a w o' hs hpc=>by rw [hsr] at hs;exact hs hq α d f l c1 c2 c3 c4⟩,h6⟩
  |mks q T n bytes z len=>
   rw [hsr] at h3 hW
   obtain ⟨hp0,hq,α,d,f,x,c1,c2,c3,c4,h6⟩:=h3
   exact .inl ⟨p,.row s.nx 0,some (s.nx,.row 0 T n d f (List.replicate len.toNat x)),h1,⟨hp,h2,⟨hp0,.inl rfl⟩,fun k b hu=>(by cases hu;rw [hW];rfl),fun r nf G tm mem E a w o' hs hpc=>by rw [hsr] at hs;exact hs hq α d f x c1 c2 c3 c4⟩,h6⟩
  |app q k st T n bytes d f l g m=>
   rw [hsr] at h3 hW
   obtain ⟨hp0,hk,hq,xs,c1,c2,c3,h6⟩:=h3
   exact .inl ⟨p,.row k (st + 1),some (k,.row (st + 1) T n d f (l ++ xs)),h1,⟨hp,h2,⟨hp0,.inr hk⟩,fun k b hu=>(by cases hu;rw [hW];rfl),fun r nf G tm mem E a w o' hs hpc=>by rw [hsr] at hs;exact hs hq xs c1 c2 c3⟩,h6⟩
  |app0 q T n bytes g m=>
   rw [hsr] at h3 hW
   obtain ⟨hp0,hq,α,d,f,xs,c1,c2,c3,c4,h6⟩:=h3
   exact .inl ⟨p,.row s.nx 0,some (s.nx,.row 0 T n d f xs),h1,⟨hp,h2,⟨hp0,.inl rfl⟩,fun k b hu=>(by cases hu;rw [hW];rfl),fun r nf G tm mem E a w o' hs hpc=>by rw [hsr] at hs;exact hs hq α d f xs c1 c2 c3 c4⟩,h6⟩
  |str q k st T n d f l i off cs=>
   rw [hsr] at h3 hW
   obtain ⟨hp0,hk,hq,x,c1,c2,h6⟩:=h3
   exact .inl ⟨p,.v undef,some (k,.row st T n d f (l.set i x)),h1,⟨hp,h2,⟨hp0,.inr hk⟩,fun k b hu=>(by cases hu;rw [hW];rfl),fun r nf G tm mem E a w o' hs hpc=>by rw [hsr] at hs;exact hs hq x c1 c2⟩,h6⟩
  |sla q n len cs=>
   rw [hsr] at h3 hW
   obtain ⟨α,d,f,l,hc,h6⟩:=h3
   exact .inl ⟨p,.sl n d f l,none,h1,⟨hp,h2,trivial,fun k b hu=>(by cases hu),fun r nf G tm mem E a w o' hs hpc=>by
    rw [hsr] at hs
    obtain ⟨hq,c1,c2,c3,c4⟩:=hc hpc
    exact hs hq α d f l c1 c2 c3 c4⟩,h6⟩
  |no=>rw [hsr] at h3;exact h3.elim
structure TrO (P : Program) (N : Nat) (fz : List Nat) (ops : Array Oper) (o : Oper) (ro : RO) : Prop where
 dst : ro.dst = o.dst
 op : ∃ f,trR P f o.op = some ro.op
 gd : guardS ops o.guard = some ro.gp
 lt : ∀ d,o.dst = some d → d < N
theorem trO_spec {ro : RO} (h : trO P N fz ops o = some ro) : TrO P N fz ops o ro:=by
 unfold trO at h
 split at h
 ·rename_i r0 g h1 h2
  split at h
  ·rename_i h3
   cases h
   exact ⟨rfl,⟨_,h1⟩,h2,fun d hd=>by rw [hd] at h3;simpa [ltB] using h3⟩
  ·cases h
 ·cases h
theorem trL_spec : ∀ {l : List Oper} {rl : List RO},trL P N fz ops l = some rl → rl.length = l.length ∧ ∀ (j : Nat) o,l[j]? = some o → ∃ ro,rl[j]? = some ro ∧ TrO P N fz ops o ro
 |[],rl,h=>by
  simp only [trL,Option.some.injEq] at h
  subst h
  exact ⟨rfl,fun j o hj=>by simp at hj⟩
 |o :: l,rl,h=>by
  simp only [trL] at h
  split at h
  ·rename_i x y h1 h2
   simp only [Option.some.injEq] at h
   subst h
   obtain ⟨h3,h4⟩:=trL_spec h2
   refine ⟨by simp [h3],fun j o' hj=>?_⟩
   cases j with
   |zero=>simp only [List.getElem?_cons_zero,Option.some.injEq] at hj;subst hj;exact ⟨x,rfl,trO_spec h1⟩
   |succ j=>exact h4 j o' (by simpa using hj)
  ·cases h
theorem satS_app {s : S} {p : Path} {out : AV} {u : Option (Nat × Blk)} {dst : Option Nat} {E' : Env} {v : Value} (hnx : ∀ k,s.nx ≤ k → lm s.mem k = none)
  (hS : Sat G (lk s.tm) (updO (lm s.mem) u) E' a w') (hv : sat E' w' (gdd p out) v) (hu : okU p s u) (hd : ∀ d,dst = some d → d < G.N) : SatS G (s.app dst p out u) E' (a.put dst v) w':=by
 have hm : lm (s.app dst p out u).mem = updO (lm s.mem) u:=by
  cases u with
  |none=>rfl
  |some kb=>obtain ⟨k,b⟩:=kb;exact lm_setm k b s.mem
 have ht : lk (s.app dst p out u).tm = lk (putO s.tm dst (gdd p out)):=rfl
 refine ⟨?_,?_⟩
 ·rw [hm,ht]
  cases dst with
  |none=>exact hS
  |some d=>rw [lk_putO];exact hS.put (hd d rfl) hv
 ·intro k hk
  rw [hm]
  have hk' : s.nx + 1 ≤ k:=hk
  cases u with
  |none=>exact hnx k (by omega)
  |some kb=>
   obtain ⟨k',b⟩:=kb
   simp only [updO,upd]
   have h2 : k' ≤ s.nx:=by
    rcases hu.2 with h | h
    ·omega
    ·exact Nat.le_of_lt h.1
   rw [if_neg (by omega)]
   exact hnx k (by omega)
theorem sp_step (hG : G.N = N) {ro : RO} {rest : List RO} {s : S} {p : Path} {K : S → Prop} (h2 : TrO P N fz ops o ro) (hS : SatS G s E a w) (hp : pathOf s.tm ro.gp = some p) (hu : underAll p s.tm ro.op.uops)
  (hsp : SpOK P ro s p rest K) (Kc : Act → World → Prop) (Q : Exit → Act → World → Prop) (hK : ∀ s' E' a' w',chain P none rest s' K → SatS G s' E' a' w' → Kc a' w') :
  if Region.wanted o (yielded ops a.tmps) then o.wpIn (W1 r) nf P a w Kc Q else (∀ f,o.about P w a.eval = some f → (W1 r).fn f) ∧ Kc (a.put o.dst undef) w:=by
 have hslots : ∀ x,sat E w (ev s.tm x) (a.eval x):=fun x=>ev_sat hS.st x (fun t _=>rfl)
 obtain ⟨f0,hop⟩:=h2.op
 have hw:=wanted_iff (w:=w) (E:=E) h2.gd (by rw [← pathOf_eq];exact hp) (fun g b hg=>hslots _)
 have hdst : ∀ d,ro.dst = some d → d < G.N:=fun d hd=>by rw [hG];exact h2.lt d (by rw [← h2.dst];exact hd)
 have hsem : pc p → SRsem P r nf G (lk s.tm) (lm s.mem) E a w o s.nx (stepP s p ro.op):=fun hpc=>by
  rw [stepP_eq]
  exact stepQ_sem hS.st (hS.nx _ (Nat.le_refl _)) hop hpc (fun x _=>hslots x) (by rw [← underAll_eq];exact hu)
 have hno : ¬ pc p → ∀ x,chain P none rest (s.app ro.dst p x none) K → Kc (a.put o.dst undef) w:=fun hn x hc=>by
  refine hK _ E _ w hc ?_
  rw [← h2.dst]
  refine satS_app (u:=none) hS.nx hS.st ?_ trivial hdst
  cases p with
  |nil=>exact absurd trivial hn
  |cons y p=>simp only [gdd,sat];exact ⟨fun h=>absurd h hn,fun _=>trivial⟩
 by_cases hpc : pc p
 ·rw [if_pos (hw.2 hpc)]
  have hs:=hsem hpc
  rcases hsp with ⟨q,fr,f,args,raw,hsr,h4,h5⟩ | ⟨q,l,args,hsr,h4,h5⟩
  ·rw [hsr] at hs
   obtain ⟨hq,hinl⟩:=h4 hpc
   obtain ⟨vs,hv,hrun⟩:=hs.2.1 hq hinl.1
   refine hrun Kc Q ((hinl.2 G E a w vs hS hv).mono ?_)
   rintro e w' ⟨v,x,s',E',rfl,hk,hS',hx⟩
   refine .inl ⟨v,rfl,hK _ E' _ w' hk ?_⟩
   rw [← h2.dst]
   exact satS_app (u:=none) hS'.nx hS'.st hx trivial hdst
  ·rw [hsr] at hs
   obtain ⟨hq,hy⟩:=h4 hpc
   obtain ⟨vs,hv,hrun⟩:=hs hq
   obtain ⟨fn,tmps,assign,body,h6,h7⟩:=hy G E a w r (nf - 1) vs hS hv
   refine hrun Kc Q ⟨fn,tmps,assign,body,h6,h7.mono ?_⟩
   rintro e w' ⟨b,s',E',rfl,hk,hS'⟩
   refine ⟨_,rfl,hK _ E' _ w' hk ?_⟩
   rw [← h2.dst]
   exact satS_app (u:=none) hS'.nx hS'.st (by simp only [gdd,sat]) trivial hdst
 ·rw [if_neg (fun h=>hpc (hw.1 h))]
  refine ⟨fun _ _=>trivial,?_⟩
  rcases hsp with ⟨q,fr,f,args,raw,hsr,h4,h5⟩ | ⟨q,l,args,hsr,h4,h5⟩
  ·obtain ⟨x,hx⟩:=h5 hpc
   exact hno hpc x hx
  ·exact hno hpc _ (h5 hpc)
theorem inorder (hG : G.N = N) {rl : List RO} (hrl : trL P N fz ops ops.toList = some rl) {Q : Exit → Act → World → Prop} {K : S → Prop} (hK : ∀ s E a w,K s → SatS G s E a w → Q .normal a w) :
  ∀ (m i : Nat) (s : S) (E : Env) (a : Act) (w : World),i + m = ops.size → chain P none (rl.drop i) s K → SatS G s E a w → wpOpsIn (W1 r) nf P ops Q (List.range' i m) a w
 |0,i,s,E,a,w,hi,hc,hS=>by
  have hl:=(trL_spec hrl).1
  rw [List.drop_of_length_le (by rw [hl,Array.length_toList];omega)] at hc
  rw [chain_nil] at hc
  simp only [List.range'_zero,wpOpsIn]
  exact hK s E a w hc hS
 |m + 1,i,s,E,a,w,hi,hc,hS=>by
  obtain ⟨hl,hsp⟩:=trL_spec hrl
  have hil : i < ops.size:=by omega
  obtain ⟨ro,h1,h2⟩:=hsp i ops[i] (by simp [hil])
  have hdrop : rl.drop i = ro :: rl.drop (i + 1):=by
   have hlt : i < rl.length:=by rw [hl,Array.length_toList];exact hil
   rw [List.drop_eq_getElem_cons hlt]
   congr 1
   rw [List.getElem?_eq_getElem hlt] at h1
   simpa using h1
  rw [hdrop] at hc
  rcases chain_step hc with ⟨p,out,u,_,hok,hc'⟩ | ⟨_,p,hp,hu,hsp⟩
  rotate_left
  ·rw [List.range'_succ,wpOpsIn_cons]
   unfold wpOpIn
   simp only [Array.getElem?_eq_getElem hil]
   exact sp_step hG h2 hS hp hu hsp _ Q (fun s' E' a' w' hc' hS'=>inorder hG hrl hK m (i + 1) s' E' a' w' (by omega) hc' hS')
  have hslots : ∀ x,sat E w (ev s.tm x) (a.eval x):=fun x=>ev_sat hS.st x (fun t _=>rfl)
  obtain ⟨f,hop⟩:=h2.op
  have hG1 : GOk P r nf G (lk s.tm) (lm s.mem) E a w ops ops[i] (gdd p out) u:=by
   refine gok_of hS.st h2.gd (by rw [← pathOf_eq];exact hok.path) (fun g b hg=>hslots _) hok.okU (fun hpc=>?_)
   refine hok.sem r nf G _ _ E a w ops[i] ?_ hpc
   rw [stepP_eq]
   exact stepQ_sem hS.st (hS.nx _ (Nat.le_refl _)) hop hpc (fun x _=>hslots x) (by rw [← underAll_eq];exact hok.under)
  rw [List.range'_succ,wpOpsIn_cons]
  unfold wpOpIn
  simp only [Array.getElem?_eq_getElem hil]
  refine hG1 _ Q (fun E' w' v h3 h4 h5=>?_)
  have hS':=satS_app (dst:=ops[i].dst) (p:=p) hS.nx h4 h5 hok.okU (fun d hd=>by rw [hG];exact h2.lt d hd)
  rw [h2.dst] at hc'
  exact inorder hG hrl hK m (i + 1) _ E' _ w' (by omega) hc' hS'
end
theorem has_mem {l : List Nat} {k : Nat} : has l k = true ↔ k ∈ l:=by simp [has]
theorem view_loc {m m' : Nat → Option Blk} : ∀ (n : Nat) (x : AV),(∀ k ∈ ids m (n + 1) x,m' k = m k) → view m' n x = view m n x:=by
 intro n
 induction n with
 |zero=>intro x _;rfl
 |succ n ih=>
  intro x h
  cases x with
  |own k o=>
   have hk : m' k = m k:=h k (by simp [ids])
   simp only [view,hk]
   cases hm : m k with
   |none=>rfl
   |some blk=>
    cases blk with
    |oth x=>first | rfl | exact h
    |row s e n' d f l=>rfl
    |cells l=>
     simp only [AV.fp.injEq,and_true]
     refine List.map_congr_left (fun y hy=>ih y (fun j hj=>h j ?_))
     simp only [ids,hm]
     exact List.mem_cons_of_mem _ (List.mem_flatMap.2 ⟨y,hy,hj⟩)
  |row k s=>
   have hk : m' k = m k:=h k (by simp [ids])
   simp only [view,hk]
  |agg cs=>
   simp only [view,AV.agg.injEq]
   refine List.map_congr_left (fun y hy=>ih y (fun j hj=>h j ?_))
   simp only [ids]
   exact List.mem_flatMap.2 ⟨y,hy,hj⟩
  |fq cs o=>
   simp only [view,AV.fp.injEq,and_true]
   refine List.map_congr_left (fun y hy=>ih y (fun j hj=>h j ?_))
   simp only [ids]
   exact List.mem_flatMap.2 ⟨y,hy,hj⟩
  |cq g fi ca=>
   simp only [view,AV.clo.injEq,true_and]
   refine ⟨List.map_congr_left (fun y hy=>ih y (fun j hj=>h j ?_)),List.map_congr_left (fun y hy=>ih y (fun j hj=>h j ?_))⟩
   ·simp only [ids]
    exact List.mem_append_left _ (List.mem_flatMap.2 ⟨y,hy,hj⟩)
   ·simp only [ids]
    exact List.mem_append_right _ (List.mem_flatMap.2 ⟨y,hy,hj⟩)
  |_=>rfl
theorem ids_mono {m : Nat → Option Blk} : ∀ (n : Nat) (x : AV) (k : Nat),k ∈ ids m n x → k ∈ ids m (n + 1) x:=by
 intro n
 induction n with
 |zero=>intro x k h;simp [ids] at h
 |succ n ih=>
  intro x k h
  cases x with
  |own j o=>
   simp only [ids] at h ⊢
   rcases List.mem_cons.1 h with rfl | h
   ·exact List.mem_cons_self
   ·refine List.mem_cons_of_mem _ ?_
    cases hm : m j with
    |none=>rw [hm] at h;exact h
    |some blk=>
     rw [hm] at h
     cases blk with
     |oth x=>first | rfl | exact h
     |row s e n' d f l=>exact h
     |cells l=>
      obtain ⟨y,hy,hj⟩:=List.mem_flatMap.1 h
      exact List.mem_flatMap.2 ⟨y,hy,ih y k hj⟩
  |agg cs=>
   simp only [ids] at h ⊢
   obtain ⟨y,hy,hj⟩:=List.mem_flatMap.1 h
   exact List.mem_flatMap.2 ⟨y,hy,ih y k hj⟩
  |tup cs=>
   simp only [ids] at h ⊢
   obtain ⟨y,hy,hj⟩:=List.mem_flatMap.1 h
   exact List.mem_flatMap.2 ⟨y,hy,ih y k hj⟩
  |fq cs o=>
   simp only [ids] at h ⊢
   obtain ⟨y,hy,hj⟩:=List.mem_flatMap.1 h
   exact List.mem_flatMap.2 ⟨y,hy,ih y k hj⟩
  |cq g fi ca=>
   simp only [ids] at h ⊢
   rcases List.mem_append.1 h with h | h
   ·obtain ⟨y,hy,hj⟩:=List.mem_flatMap.1 h
    exact List.mem_append_left _ (List.mem_flatMap.2 ⟨y,hy,ih y k hj⟩)
   ·obtain ⟨y,hy,hj⟩:=List.mem_flatMap.1 h
    exact List.mem_append_right _ (List.mem_flatMap.2 ⟨y,hy,ih y k hj⟩)
  |gd p x=>
   simp only [ids] at h ⊢
   exact ih x k h
  |row j s=>simpa [ids] using h
  |roff j s n' i o=>simpa [ids] using h
  |rsf j s n' i=>simpa [ids] using h
  |_=>simp [ids] at h
theorem ids_le {m : Nat → Option Blk} {n n' : Nat} (h : n ≤ n') {x : AV} {k : Nat} (hk : k ∈ ids m n x) : k ∈ ids m n' x:=by
 induction h with
 |refl=>exact hk
 |step _ ih=>exact ids_mono _ _ _ ih
theorem ids_strip {m : Nat → Option Blk} {n : Nat} {x : AV} {k : Nat} (h : k ∈ ids m n (strip x)) : k ∈ ids m (n + 1) x:=by
 cases x with
 |gd p x=>simp only [strip] at h;simp only [ids];exact h
 |_=>exact ids_mono n _ k h
theorem stepQ_loc {m m' : Nat → Option Blk} {nx : Nat} {raw : Operand → AV} {p : Path} {r0 : R} (h : ∀ k ∈ touch m raw r0,m' k = m k) : stepQ m' nx raw p r0 = stepQ m nx raw p r0:=by
 have hview : ∀ (r0 : R) (h1 : ∀ x ∈ r0.opds,∀ k ∈ ids m 6 (strip (raw x)),m' k = m k) (xs : List Operand),(∀ x ∈ xs,x ∈ r0.opds) → (xs.map fun x=>strip (raw x)).map (view m' 4) = (xs.map fun x=>strip (raw x)).map (view m 4):=fun r0 h1 xs hxs=>by
  simp only [List.map_map]
  refine List.map_congr_left (fun x hx=>view_loc 4 _ (fun k hk=>h1 x (hxs x hx) k (ids_le (by omega) hk)))
 cases r0 with
 |ld T n ag x=>
  simp only [stepQ,stepR]
  have a1 : ∀ k o,strip (raw x) = .own k o → m' k = m k:=fun k o he=>h k (by simp only [touch,he,idH,List.mem_singleton])
  have a2 : ∀ k s n i o,strip (raw x) = .roff k s n i o → m' k = m k:=fun k s n i o he=>h k (by simp only [touch,he,idH,List.mem_singleton])
  clear h
  generalize strip (raw x) = ax at a1 a2
  cases ax <;> try rfl
  ·simp only [ldA,a1 _ _ rfl]
  ·simp only [ldA,a2 _ _ _ _ _ rfl]
 |st T n x v=>
  simp only [stepQ,stepR]
  have a1 : ∀ k o,strip (raw x) = .own k o → m' k = m k:=fun k o he=>h k (by simp only [touch,he,idH,List.mem_singleton])
  have a2 : ∀ k s n i o,strip (raw x) = .roff k s n i o → m' k = m k:=fun k s n i o he=>h k (by simp only [touch,he,idH,List.mem_singleton])
  clear h
  generalize strip (raw x) = ax at a1 a2
  generalize cellsOf (strip (raw v)) = cv
  cases cv <;> cases ax <;> try rfl
  ·simp only [stA,a1 _ _ rfl]
  ·simp only [stA,a2 _ _ _ _ _ rfl]
 |ia n x i=>
  simp only [stepQ,stepR]
  have a1 : ∀ k s,strip (raw x) = .row k s → m' k = m k:=fun k s he=>h k (by simp only [touch,he,idH,List.mem_singleton])
  have a3 : ∀ k s n j,strip (raw x) = .rsf k s n j → m' k = m k:=fun k s n j he=>h k (by simp only [touch,he,idH,List.mem_singleton])
  clear h
  generalize strip (raw x) = ax at a1 a3
  generalize strip (raw i) = ai
  cases ax with
  |rsf k s n' j=>
   have a2:=a3 k s n' j rfl
   cases ai <;> try rfl
   rename_i vi
   cases vi <;> try rfl
   simp only [iaA,a2]
  |row k s=>
   have a2:=a1 k s rfl
   cases ai <;> try rfl
   rename_i vi
   cases vi <;> try rfl
   simp only [iaA,a2]
  |sl n' d f l=>
   cases ai <;> try rfl
   rename_i vi
   cases vi <;> rfl
  |v vx=>
   cases vx with
   |slice p l c=>
    cases p with
    |none=>
     cases l with
     |zero=>
      cases c with
      |zero=>
       cases ai with
       |v vi=>cases vi <;> rfl
       |_=>rfl
      |succ c=>rfl
     |succ l=>rfl
    |some p=>rfl
   |_=>rfl
  |_=>rfl
 |len x=>
  simp only [stepQ,stepR]
  have a1 : ∀ k s,strip (raw x) = .row k s → m' k = m k:=fun k s he=>h k (by simp only [touch,he,idH,List.mem_singleton])
  have a3 : ∀ k s n j,strip (raw x) = .rsf k s n j → m' k = m k:=fun k s n j he=>h k (by simp only [touch,he,idH,List.mem_singleton])
  clear h
  generalize strip (raw x) = ax at a1 a3
  cases ax with
  |rsf k s n j=>simp only [lenA,a3 k s n j rfl]
  |row k s=>simp only [lenA,a1 k s rfl]
  |v x=>cases x <;> rfl
  |_=>rfl
 |slc T n x lo hi=>
  simp only [stepQ,stepR]
  have a1 : ∀ k s,strip (raw x) = .row k s → m' k = m k:=fun k s he=>h k (by simp only [touch,he,idH,List.mem_singleton])
  clear h
  generalize strip (raw x) = ax at a1
  cases ax with
  |row k s=>simp only [slcM,a1 k s rfl]
  |_=>rfl
 |clr T n z x=>
  simp only [stepQ,stepR]
  have a3 : ∀ k s n j,strip (raw x) = .rsf k s n j → m' k = m k:=fun k s n j he=>h k (by simp only [touch,he,idH,List.mem_singleton])
  clear h
  generalize strip (raw x) = ax at a3
  generalize cellsV z = zc
  cases zc with
  |none=>rfl
  |some zc=>
   cases ax with
   |rsf k s n' j=>simp only [clrA,a3 k s n' j rfl]
   |_=>rfl
 |call f xs=>
  have h1 : ∀ x ∈ (R.call f xs).opds,∀ k ∈ ids m 6 (strip (raw x)),m' k = m k:=fun x hx k hk=>h k (List.mem_flatMap.2 ⟨x,hx,ids_strip hk⟩)
  simp only [stepQ,stepR]
  rw [hview (R.call f xs) h1 xs (fun x hx=>by simpa only [R.opds] using hx)]
 |callv x xs=>
  have h1 : ∀ y ∈ (R.callv x xs).opds,∀ k ∈ ids m 6 (strip (raw y)),m' k = m k:=fun y hx k hk=>h k (List.mem_flatMap.2 ⟨y,hx,ids_strip hk⟩)
  simp only [stepQ,stepR]
  have hv:=hview (R.callv x xs) h1 xs (fun y hy=>by simp only [R.opds];exact List.mem_cons_of_mem _ hy)
  have hc : ∀ g fi ca,strip (raw x) = .cq g fi ca → fi.map (view m' 4) = fi.map (view m 4) ∧ ca.map (view m' 4) = ca.map (view m 4):=fun g fi ca he=>by
   have hk:=h1 x (by simp [R.opds])
   rw [he] at hk
   refine ⟨List.map_congr_left (fun y hy=>view_loc 4 y (fun k hk'=>hk k ?_)),List.map_congr_left (fun y hy=>view_loc 4 y (fun k hk'=>hk k ?_))⟩
   ·simp only [ids]
    exact List.mem_append_left _ (List.mem_flatMap.2 ⟨y,hy,hk'⟩)
   ·simp only [ids]
    exact List.mem_append_right _ (List.mem_flatMap.2 ⟨y,hy,hk'⟩)
  generalize strip (raw x) = ax at hc
  cases ax <;> try rfl
  ·rename_i vx
   cases vx <;> try rfl
   rename_i fn _ _
   cases fn <;> rfl
  ·simp only [callA,hv]
  ·obtain ⟨c1,c2⟩:=hc _ _ _ rfl
   simp only [callA,hv,c1,c2]
 |app T n b x y=>
  simp only [stepQ,stepR]
  have a1 : ∀ k s,strip (raw x) = .row k s → m' k = m k:=fun k s he=>h k (by simp only [touch,he,idH];simp)
  have a2 : ∀ k s,strip (raw y) = .row k s → m' k = m k:=fun k s he=>h k (by simp only [touch,he,idH];simp)
  clear h
  generalize strip (raw x) = ax at a1
  generalize strip (raw y) = ay at a2
  have hB : ∀ {β : Type} (g : β → List AV) (l : List β) (q : Prop),appB m' T n b ax g l q = appB m T n b ax g l q:=by
   intro β g l q
   cases ax with
   |row k s=>simp only [appB,a1 k s rfl]
   |v x=>
    cases x <;> try rfl
    rename_i sa sl sc
    cases sa <;> try rfl
    cases sl <;> try rfl
    cases sc <;> rfl
   |_=>rfl
  cases ay <;> try rfl
  ·rename_i k s
   have e:=a2 k s rfl
   simp only [appA,e]
   cases m k with
   |none=>rfl
   |some blk=>cases blk with
    |oth x=>first | rfl | exact h
    |cells l=>rfl
    |row s' T' n' d f l=>exact hB _ _ _
  ·exact hB _ _ _
 |_=>rfl
def tb (m j : Nat) : Prop:=m / 2 ^ j % 2 = 1
theorem tb_iff {m j : Nat} : tb m j ↔ m.testBit j = true:=by rw [Nat.testBit_eq_decide_div_mod_eq];simp [tb]
def maskOf (acc : List Nat) (o : Oper) : Nat:=o.after.toList.foldl (fun s e=>if Region.binds .any e then s ||| 2 ^ e.on ||| acc.getD e.on 0 else s) 0
def masks : List Oper → List Nat → List Nat
 |[],acc=>acc
 |o :: l,acc=>masks l (acc ++ [maskOf acc o])
def rdS (o : RO) : List Nat:=(o.op.slots.filterMap fun | .tmp t=>some t | _=>none) ++ (match o.gp with | some (g,_)=>[g] | none=>[])
def isD (d : Option Nat) (l : List Nat) : Bool:=match d with | some d=>has l d | none=>false
def clashS (x y : RO) : Bool:=isD x.dst (rdS y) || isD y.dst (rdS x) || (x.dst.isSome && x.dst == y.dst)
def ordRow (o : RO) (m : Nat) : Nat → List RO → Bool
 |_,[]=>true
 |i,x :: l=>(!clashS x o || m.testBit i) && ordRow o m (i + 1) l
def ordAll : List RO → List RO → List Nat → Bool
 |_,[],_=>true
 |pre,o :: l,m :: ms=>ordRow o m 0 pre && ordAll (pre ++ [o]) l ms
 |_,_ :: _,[]=>false
def edgeOK : Nat → List Oper → Bool
 |_,[]=>true
 |i,o :: l=>(o.after.toList.all fun e=>!Region.binds .any e || decide (e.on < i)) && edgeOK (i + 1) l
theorem fold_bits {acc : List Nat} {j : Nat} : ∀ (es : List Edge) (s : Nat),(es.foldl (fun s e=>if Region.binds .any e then s ||| 2 ^ e.on ||| acc.getD e.on 0 else s) s).testBit j = true →
  s.testBit j = true ∨ ∃ e ∈ es,Region.binds .any e = true ∧ (e.on = j ∨ (acc.getD e.on 0).testBit j = true)
 |[],s,h=>.inl h
 |e :: es,s,h=>by
  simp only [List.foldl_cons] at h
  rcases fold_bits es _ h with h | ⟨e',h1,h2⟩
  ·split at h
   ·rename_i hb
    rw [Nat.testBit_or,Nat.testBit_or] at h
    simp only [Bool.or_eq_true,Nat.testBit_two_pow,decide_eq_true_eq] at h
    rcases h with (h | h) | h
    ·exact .inl h
    ·exact .inr ⟨e,by simp,hb,.inl h⟩
    ·exact .inr ⟨e,by simp,hb,.inr h⟩
   ·exact .inl h
  ·exact .inr ⟨e',by simp [h1],h2⟩
theorem masks_spec : ∀ (l : List Oper) (acc : List Nat),∃ ms,masks l acc = acc ++ ms ∧ ms.length = l.length ∧ ∀ (j : Nat) o,l[j]? = some o → ms[j]? = some (maskOf (acc ++ ms.take j) o)
 |[],acc=>⟨[],by simp [masks],rfl,fun j o h=>by simp at h⟩
 |o :: l,acc=>by
  obtain ⟨ms,h1,h2,h3⟩:=masks_spec l (acc ++ [maskOf acc o])
  refine ⟨maskOf acc o :: ms,by simp only [masks,h1,List.append_assoc,List.singleton_append],by simp [h2],fun j o' hj=>?_⟩
  cases j with
  |zero=>simp only [List.getElem?_cons_zero,Option.some.injEq] at hj;subst hj;simp
  |succ j=>
   have:=h3 j o' (by simpa using hj)
   simpa using this
theorem edgeOK_spec : ∀ (l : List Oper) (i : Nat),edgeOK i l = true → ∀ (j : Nat) o,l[j]? = some o → ∀ e ∈ o.after.toList,Region.binds .any e = true → e.on < i + j
 |[],i,_,j,o,hj,_,_,_=>by simp at hj
 |o :: l,i,h,j,o',hj,e,he,hb=>by
  simp only [edgeOK,Bool.and_eq_true] at h
  cases j with
  |zero=>
   simp only [List.getElem?_cons_zero,Option.some.injEq] at hj;subst hj
   have:=List.all_eq_true.1 h.1 e he
   simpa [hb] using this
  |succ j=>
   have:=edgeOK_spec l (i + 1) h.2 j o' (by simpa using hj) e he hb
   omega
theorem ordRow_spec {o : RO} {m : Nat} : ∀ (l : List RO) (i : Nat),ordRow o m i l = true → ∀ (j : Nat) x,l[j]? = some x → clashS x o = true → m.testBit (i + j) = true
 |[],i,_,j,x,hj,_=>by simp at hj
 |y :: l,i,h,j,x,hj,hc=>by
  simp only [ordRow,Bool.and_eq_true] at h
  cases j with
  |zero=>simp only [List.getElem?_cons_zero,Option.some.injEq] at hj;subst hj;simpa [hc] using h.1
  |succ j=>
   have:=ordRow_spec l (i + 1) h.2 j x (by simpa using hj) hc
   rwa [show i + 1 + j = i + (j + 1) by omega] at this
theorem ordAll_spec : ∀ (l pre : List RO) (ms : List Nat),ordAll pre l ms = true → ∀ (j : Nat) o m,l[j]? = some o → ms[j]? = some m → ∀ (i : Nat) x,i < pre.length + j → (pre ++ l)[i]? = some x → clashS x o = true → m.testBit i = true
 |[],pre,ms,_,j,o,m,hj,_,_,_,_,_,_=>by simp at hj
 |y :: l,pre,[],h,_,_,_,_,_,_,_,_,_,_=>by simp [ordAll] at h
 |y :: l,pre,m0 :: ms,h,j,o,m,hj,hm,i,x,hi,hx,hc=>by
  simp only [ordAll,Bool.and_eq_true] at h
  cases j with
  |zero=>
   simp only [List.getElem?_cons_zero,Option.some.injEq] at hj hm;subst hj;subst hm
   rw [List.getElem?_append_left (by omega)] at hx
   have:=ordRow_spec pre 0 h.1 i x hx hc
   simpa using this
  |succ j=>
   exact ordAll_spec l (pre ++ [y]) ms h.2 j o m (by simpa using hj) (by simpa using hm) i x (by simp;omega) (by simpa using hx) hc
def cl (t w t' w' : List Nat) : Bool:=meets w t' || meets w w' || meets w' t
theorem confl_mem {m : Nat} {t w : List Nat} : ∀ {log : List (Nat × List Nat × List Nat)},confl m t w log → ∀ e ∈ log,cl e.2.1 e.2.2 t w = true → tb m e.1
 |[],_,e,he,_=>by simp at he
 |(j,tj,wj) :: log,h,e,he,hc=>by
  rcases List.mem_cons.1 he with rfl | he
  ·exact h.1 hc
  ·exact confl_mem h.2 e he hc
theorem chain_run {P : Program} {K : S → Prop} : ∀ (rl : List RO) (ms : List Nat) (i : Nat) (log : List (Nat × List Nat × List Nat)) (s : S),chain P (some ⟨ms,i,log⟩) rl s K →
  ∃ (st : Nat → S) (pp : Nat → Path) (out : Nat → AV) (u : Nat → Option (Nat × Blk)),st 0 = s ∧ K (st rl.length) ∧ ∀ (j : Nat) ro,rl[j]? = some ro →
   StepOK P ro (st j) (pp j) (out j) (u j) ∧ st (j + 1) = (st j).app ro.dst (pp j) (out j) (u j) ∧
   ∃ m,ms[j]? = some m ∧ (∀ e ∈ log,cl e.2.1 e.2.2 (dT (st j) ro.op) (dW (st j) (pp j) ro.op) = true → tb m e.1) ∧
    ∀ (k : Nat) rk,k < j → rl[k]? = some rk → cl (dT (st k) rk.op) (dW (st k) (pp k) rk.op) (dT (st j) ro.op) (dW (st j) (pp j) ro.op) = true → tb m (i + k)
 |[],ms,i,log,s,h=>by
  rw [chain_nil] at h
  exact ⟨fun _=>s,fun _=>[],fun _=>.bad,fun _=>none,rfl,h,fun j ro hj=>by simp at hj⟩
 |ro :: rl,ms,i,log,s,h=>by
  rcases chain_step h with ⟨p,out,u,h1,h2,h3⟩ | ⟨hd,_⟩
  rotate_left
  ·cases hd
  cases ms with
  |nil=>exact h1.elim
  |cons m ms=>
   simp only [nextD,List.tail_cons] at h3
   obtain ⟨st,pp,ot,ut,h4,h5,h6⟩:=chain_run rl ms (i + 1) _ _ h3
   refine ⟨fun j=>match j with | 0=>s | j + 1=>st j,fun j=>match j with | 0=>p | j + 1=>pp j,fun j=>match j with | 0=>out | j + 1=>ot j,fun j=>match j with | 0=>u | j + 1=>ut j,rfl,h5,fun j ro' hj=>?_⟩
   cases j with
   |zero=>
    simp only [List.getElem?_cons_zero,Option.some.injEq] at hj;subst hj
    exact ⟨h2,h4,m,rfl,fun e he hc=>confl_mem h1 e he hc,fun k rk hk=>by omega⟩
   |succ j=>
    obtain ⟨h7,h8,m',h9,h10,h11⟩:=h6 j ro' (by simpa using hj)
    refine ⟨h7,h8,m',by simpa using h9,fun e he hc=>h10 e ?_ hc,fun k rk hk hrk hc=>?_⟩
    ·split
     ·exact he
     ·exact List.mem_cons_of_mem _ he
    ·cases k with
     |zero=>
      simp only [List.getElem?_cons_zero,Option.some.injEq] at hrk;subst hrk
      by_cases hemp : ((dT s ro.op).isEmpty && (dW s p ro.op).isEmpty) = true
      ·simp only [Bool.and_eq_true,List.isEmpty_iff] at hemp
       simp [cl,meets,hemp.1,hemp.2,has] at hc
      ·have:=h10 (i,dT s ro.op,dW s p ro.op) (by rw [if_neg hemp];exact List.mem_cons_self) hc
       exact this
     |succ k=>
      have:=h11 k rk (by omega) (by simpa using hrk) hc
      rwa [show i + 1 + k = i + (k + 1) by omega] at this
def dstAt (rl : List RO) (j : Nat) : Option Nat:=(rl[j]?).bind (·.dst)
def Fd (rl : List RO) (x : Nat → AV) (D : Nat → Bool) (f : Nat → AV) : Nat → Nat → AV
 |0=>f
 |j + 1=>if D j then (match dstAt rl j with | some d=>upd (Fd rl x D f j) d (x j) | none=>Fd rl x D f j) else Fd rl x D f j
def Md (u : Nat → Option (Nat × Blk)) (D : Nat → Bool) (m : Nat → Option Blk) : Nat → Nat → Option Blk
 |0=>m
 |j + 1=>if D j then updO (Md u D m j) (u j) else Md u D m j
theorem Fd_congr {rl : List RO} {x : Nat → AV} {D D' : Nat → Bool} {f : Nat → AV} {t : Nat} : ∀ (n : Nat),(∀ j,j < n → dstAt rl j = some t → D j = D' j) → Fd rl x D f n t = Fd rl x D' f n t
 |0,_=>rfl
 |n + 1,h=>by
  have ih:=Fd_congr n (fun j hj=>h j (by omega)) (f:=f) (x:=x)
  simp only [Fd]
  cases hd : dstAt rl n with
  |none=>simp only [];cases h1 : D n <;> cases h2 : D' n <;> simp only [if_true,Bool.false_eq_true,if_false] <;> exact ih
  |some d=>
   by_cases ht : d = t
   ·subst ht
    rw [h n (by omega) hd]
    split
    ·simp [upd]
    ·exact ih
   ·have e : ∀ (g : Nat → AV),upd g d (x n) t = g t:=fun g=>by simp only [upd];rw [if_neg (fun h=>ht h.symm)]
    cases h1 : D n <;> cases h2 : D' n <;> simp only [if_true,Bool.false_eq_true,if_false,e] <;> exact ih
theorem Md_congr {u : Nat → Option (Nat × Blk)} {D D' : Nat → Bool} {m : Nat → Option Blk} {k : Nat} : ∀ (n : Nat),(∀ j,j < n → ∀ b,u j = some (k,b) → D j = D' j) → Md u D m n k = Md u D' m n k
 |0,_=>rfl
 |n + 1,h=>by
  have ih:=Md_congr n (fun j hj=>h j (by omega)) (m:=m)
  simp only [Md]
  cases hd : u n with
  |none=>simp only [updO];cases h1 : D n <;> cases h2 : D' n <;> simp only [if_true,Bool.false_eq_true,if_false] <;> exact ih
  |some kb=>
   obtain ⟨k',b⟩:=kb
   by_cases ht : k' = k
   ·subst ht
    rw [h n (by omega) b hd]
    split
    ·simp [updO,upd]
    ·exact ih
   ·have e : ∀ (g : Nat → Option Blk),updO g (some (k',b)) k = g k:=fun g=>by simp only [updO,upd];rw [if_neg (fun h=>ht h.symm)]
    cases h1 : D n <;> cases h2 : D' n <;> simp only [if_true,Bool.false_eq_true,if_false,e] <;> exact ih
theorem Fd_lt {rl : List RO} {x : Nat → AV} {f : Nat → AV} {i : Nat} : ∀ (n : Nat),i ≤ n → Fd rl x (fun j=>decide (j < i)) f n = Fd rl x (fun _=>true) f i
 |0,h=>by have : i = 0:=by omega
          subst this;rfl
 |n + 1,h=>by
  by_cases hi : i = n + 1
  ·subst hi
   funext t
   exact Fd_congr _ (fun j hj _=>decide_eq_true hj)
  ·simp only [Fd]
   have hd : ¬ (decide (n < i) = true):=by rw [decide_eq_true_iff];omega
   rw [if_neg hd]
   exact Fd_lt n (by omega)
theorem Md_lt {u : Nat → Option (Nat × Blk)} {m : Nat → Option Blk} {i : Nat} : ∀ (n : Nat),i ≤ n → Md u (fun j=>decide (j < i)) m n = Md u (fun _=>true) m i
 |0,h=>by have : i = 0:=by omega
          subst this;rfl
 |n + 1,h=>by
  by_cases hi : i = n + 1
  ·subst hi
   funext t
   exact Md_congr _ (fun j hj _ _=>decide_eq_true hj)
  ·simp only [Md]
   have hd : ¬ (decide (n < i) = true):=by rw [decide_eq_true_iff];omega
   rw [if_neg hd]
   exact Md_lt n (by omega)
theorem hasM_iff (k : Nat) : ∀ (m : List (Nat × Blk)),hasM m k = true ↔ lm m k ≠ none
 |[]=>by simp [hasM,lm]
 |(s,b) :: m=>by
  simp only [hasM,lm]
  split
  ·simp
  ·exact hasM_iff k m
structure Run (P : Program) (rl : List RO) (ms : List Nat) (s : S) (st : Nat → S) (pp : Nat → Path) (out : Nat → AV) (u : Nat → Option (Nat × Blk)) : Prop where
 z : st 0 = s
 ok : ∀ j ro,rl[j]? = some ro → StepOK P ro (st j) (pp j) (out j) (u j)
 next : ∀ j ro,rl[j]? = some ro → st (j + 1) = (st j).app ro.dst (pp j) (out j) (u j)
 cf : ∀ j ro,rl[j]? = some ro → ∃ m,ms[j]? = some m ∧ ∀ (k : Nat) rk,k < j → rl[k]? = some rk → cl (dT (st k) rk.op) (dW (st k) (pp k) rk.op) (dT (st j) ro.op) (dW (st j) (pp j) ro.op) = true → tb m k
theorem chain_Run {P : Program} {K : S → Prop} {rl : List RO} {ms : List Nat} {s : S} (h : chain P (some ⟨ms,0,[]⟩) rl s K) :
  ∃ st pp out u,Run P rl ms s st pp out u ∧ K (st rl.length):=by
 obtain ⟨st,pp,out,u,h1,h2,h3⟩:=chain_run rl ms 0 [] s h
 refine ⟨st,pp,out,u,⟨h1,fun j ro hj=>(h3 j ro hj).1,fun j ro hj=>(h3 j ro hj).2.1,fun j ro hj=>?_⟩,h2⟩
 obtain ⟨_,_,m,h4,_,h5⟩:=h3 j ro hj
 exact ⟨m,h4,fun k rk hk hrk hc=>by simpa using h5 k rk hk hrk hc⟩
section
variable {P : Program} {rl : List RO} {ms : List Nat} {s : S} {st : Nat → S} {pp : Nat → Path} {out : Nat → AV} {u : Nat → Option (Nat × Blk)}
theorem Run.tm (R : Run P rl ms s st pp out u) : ∀ j,j ≤ rl.length → lk (st j).tm = Fd rl (fun j=>gdd (pp j) (out j)) (fun _=>true) (lk s.tm) j
 |0,_=>by rw [R.z];rfl
 |j + 1,h=>by
  have hj : rl[j]? = some rl[j]:=List.getElem?_eq_getElem (by omega)
  rw [R.next j _ hj]
  simp only [Fd,if_true,dstAt,hj,Option.bind_some]
  rw [← R.tm j (by omega)]
  simp only [S.app]
  cases rl[j].dst with
  |none=>rfl
  |some d=>exact lk_putO _ _ _
theorem Run.mem (R : Run P rl ms s st pp out u) : ∀ j,j ≤ rl.length → lm (st j).mem = Md u (fun _=>true) (lm s.mem) j
 |0,_=>by rw [R.z];rfl
 |j + 1,h=>by
  have hj : rl[j]? = some rl[j]:=List.getElem?_eq_getElem (by omega)
  rw [R.next j _ hj]
  simp only [Md,if_true]
  rw [← R.mem j (by omega)]
  simp only [S.app]
  cases u j with
  |none=>rfl
  |some kb=>exact lm_setm _ _ _
theorem Run.nx (R : Run P rl ms s st pp out u) : ∀ j,j ≤ rl.length → (st j).nx = s.nx + j
 |0,_=>by rw [R.z];rfl
 |j + 1,h=>by
  have hj : rl[j]? = some rl[j]:=List.getElem?_eq_getElem (by omega)
  rw [R.next j _ hj]
  simp only [S.app]
  rw [R.nx j (by omega)];omega
theorem Run.first (R : Run P rl ms s st pp out u) (hnx : ∀ k,s.nx ≤ k → lm s.mem k = none) : ∀ j,j ≤ rl.length → ∀ i,lm (st j).mem (s.nx + i) ≠ none → i < j ∧ ∃ b,u i = some (s.nx + i,b)
 |0,_,i,h=>by rw [R.z] at h;exact absurd (hnx _ (by omega)) h
 |j + 1,hj',i,h=>by
  have hj : rl[j]? = some rl[j]:=List.getElem?_eq_getElem (by omega)
  have hn:=R.nx j (by omega)
  rw [R.next j _ hj] at h
  cases hu : u j with
  |none=>
   rw [hu] at h
   simp only [S.app,putM] at h
   obtain ⟨h1,h2⟩:=R.first hnx j (by omega) i h
   exact ⟨by omega,h2⟩
  |some kb=>
   obtain ⟨k,b⟩:=kb
   rw [hu] at h
   simp only [S.app,putM] at h
   rw [lm_setm] at h
   simp only [upd] at h
   have hok:=(R.ok j _ hj).okU
   rw [hu] at hok
   split at h
   ·rename_i hk
    rcases hok.2 with h1 | ⟨h1,h2⟩
    ·have : i = j:=by omega
     subst this
     exact ⟨by omega,b,by rw [hu,← hk]⟩
    ·have:=(hasM_iff k (st j).mem).1 h2
     obtain ⟨h3,h4⟩:=R.first hnx j (by omega) i (by rw [hk];exact this)
     exact ⟨by omega,h4⟩
   ·obtain ⟨h1,h2⟩:=R.first hnx j (by omega) i h
    exact ⟨by omega,h2⟩
theorem Run.nxN (R : Run P rl ms s st pp out u) (hnx : ∀ k,s.nx ≤ k → lm s.mem k = none) {j : Nat} (hj : j ≤ rl.length) : ∀ k,(st j).nx ≤ k → lm (st j).mem k = none:=fun k hk=>by
 rw [R.nx j hj] at hk
 cases h : lm (st j).mem k with
 |none=>rfl
 |some b=>
  have:=R.first hnx j hj (k - s.nx) (by rw [show s.nx + (k - s.nx) = k by omega,h];simp)
  omega
end
structure LI (ops : Array Oper) (ms : List Nat) (listed : Array Bool) : Prop where
 size : listed.size = ops.size
 closed : ∀ (j : Nat) oj,ops[j]? = some oj → listed.getD j false = true → ∀ e ∈ oj.after,Region.binds .any e = true → listed.getD e.on false = true
theorem getD_ff {listed : Array Bool} {i : Nat} (h : listed.getD i true = false) : listed.getD i false = false:=by
 rcases Nat.lt_or_ge i listed.size with h' | h'
 ·simp [h'] at h ⊢;exact h
 ·simp [Array.getElem?_eq_none h'] at h
section
variable {ops : Array Oper} {listed : Array Bool}
theorem LI.set {ms : List Nat} {i : Nat} (inv : LI ops ms listed) (hi : i ∈ Region.ready .any ops listed) : LI ops ms (listed.setIfInBounds i true):=by
 obtain ⟨_,oi,hoi,hall⟩:=mem_ready.1 hi
 refine ⟨by simp [inv.size],fun j oj hj hl e he hb=>?_⟩
 by_cases hij : i = j
 ·subst hij
  have : oj = oi:=Option.some.inj (hj.symm.trans hoi)
  subst this
  exact getD_set_true (hall e he hb)
 ·rw [getD_set_ne false hij] at hl
  exact getD_set_true (inv.closed j oj hj hl e he hb)
theorem anc {ms : List Nat} (hms : ms = masks ops.toList []) (hE : edgeOK 0 ops.toList = true) (inv : LI ops ms listed) : ∀ (n j : Nat),j ≤ n → ∀ oj m,ops[j]? = some oj → ms[j]? = some m →
  (∀ e ∈ oj.after,Region.binds .any e = true → listed.getD e.on false = true) → ∀ i,tb m i → i < j ∧ listed.getD i false = true:=by
 intro n
 induction n with
 |zero=>
  intro j hj oj m hoj hm hl i hi
  exact anc0 hms hE inv j oj m hoj hm hl i hi (fun k hk=>by omega)
 |succ n ih=>
  intro j hj oj m hoj hm hl i hi
  exact anc0 hms hE inv j oj m hoj hm hl i hi (fun k hk ok mk h1 h2 h3 i h4=>ih k (by omega) ok mk h1 h2 h3 i h4)
where
 anc0 {ms : List Nat} (hms : ms = masks ops.toList []) (hE : edgeOK 0 ops.toList = true) (inv : LI ops ms listed) (j : Nat) (oj : Oper) (m : Nat) (hoj : ops[j]? = some oj) (hm : ms[j]? = some m)
   (hl : ∀ e ∈ oj.after,Region.binds .any e = true → listed.getD e.on false = true) (i : Nat) (hi : tb m i)
   (ih : ∀ k,k < j → ∀ ok mk,ops[k]? = some ok → ms[k]? = some mk → (∀ e ∈ ok.after,Region.binds .any e = true → listed.getD e.on false = true) → ∀ i,tb mk i → i < k ∧ listed.getD i false = true) : i < j ∧ listed.getD i false = true:=by
  obtain ⟨ms',h1,h2,h3⟩:=masks_spec ops.toList []
  simp only [List.nil_append] at h1 h3
  have hme : ms = ms':=by rw [hms,h1]
  subst hme
  have hoj' : ops.toList[j]? = some oj:=by simpa using hoj
  have:=h3 j oj hoj'
  rw [hm] at this
  have hmm:=Option.some.inj this
  rw [tb_iff,hmm] at hi
  unfold maskOf at hi
  rcases fold_bits _ _ hi with h4 | ⟨e,he,hb,h5⟩
  ·simp at h4
  ·have hlt:=edgeOK_spec ops.toList 0 hE j oj hoj' e he hb
   have hle:=hl e (by simpa using he) hb
   rcases h5 with h5 | h5
   ·subst h5;exact ⟨by omega,hle⟩
   ·have hej : e.on < j:=by omega
    have hjl : j < ops.size:=(Array.getElem?_eq_some_iff.1 hoj).1
    have hme : ms[e.on]? = some ((List.take j ms).getD e.on 0):=by
     have hl2 : e.on < ms.length:=by rw [h2,Array.length_toList];omega
     simp only [List.getD_eq_getElem?_getD,List.getElem?_take,if_pos hej]
     rw [List.getElem?_eq_getElem hl2];rfl
    have hoe : ops[e.on]? = some ops[e.on]:=Array.getElem?_eq_getElem (by omega)
    obtain ⟨h6,h7⟩:=ih e.on hej ops[e.on] _ hoe hme (fun e' he' hb'=>inv.closed e.on _ hoe hle e' he' hb') i (by rw [tb_iff];exact h5)
    exact ⟨by omega,h7⟩
theorem all_listed {ms : List Nat} (hE : edgeOK 0 ops.toList = true) (inv : LI ops ms listed) (h : Region.ready .any ops listed = []) : ∀ (n j : Nat),j ≤ n → j < ops.size → listed.getD j false = true:=by
 intro n
 induction n with
 |zero=>intro j hj hlt;exact al0 hE inv h j hlt (fun k hk=>by omega)
 |succ n ih=>intro j hj hlt;exact al0 hE inv h j hlt (fun k hk=>ih k (by omega) (by omega))
where
 al0 {ms : List Nat} (hE : edgeOK 0 ops.toList = true) (inv : LI ops ms listed) (h : Region.ready .any ops listed = []) (j : Nat) (hlt : j < ops.size) (ih : ∀ k,k < j → listed.getD k false = true) : listed.getD j false = true:=by
  cases hj : listed.getD j false with
  |true=>rfl
  |false=>
   have hj' : listed.getD j true = false:=by
    have : j < listed.size:=by rw [inv.size];exact hlt
    simp [this] at hj ⊢;exact hj
   have hoj : ops[j]? = some ops[j]:=Array.getElem?_eq_getElem hlt
   have hr : j ∈ Region.ready .any ops listed:=mem_ready.2 ⟨hj',ops[j],hoj,fun e he hb=>ih e.on (by
    have:=edgeOK_spec ops.toList 0 hE j ops[j] (by simp [hlt]) e (by simpa using he) hb
    omega)⟩
   rw [h] at hr
   simp at hr
def unl (listed : Array Bool) : Nat:=listed.toList.count false
theorem unl_set {i : Nat} (h : listed.getD i true = false) : unl (listed.setIfInBounds i true) + 1 = unl listed:=by
 have hi : i < listed.size:=by
  rcases Nat.lt_or_ge i listed.size with h' | h'
  ·exact h'
  ·simp [Array.getElem?_eq_none h'] at h
 have hv : listed[i] = false:=by simpa [hi] using h
 unfold unl
 rw [Array.toList_setIfInBounds,List.count_set (by simpa using hi)]
 have hpos : 0 < listed.toList.count false:=List.count_pos_iff.2 (by rw [← hv];simp)
 have e1 : (if (listed.toList[i]'(by simpa using hi) == false) = true then 1 else 0) = 1:=by simp [hv]
 have e2 : (if ((true : Bool) == false) = true then 1 else 0) = 0:=by simp
 rw [e1,e2]
 omega
theorem unl_zero {i : Nat} (h : unl listed = 0) : listed.getD i true = true:=by
 cases hj : listed.getD i true with
 |true=>rfl
 |false=>have:=unl_set hj;omega
end
theorem rdS_slot {o : RO} {t : Nat} (h : Operand.tmp t ∈ o.op.slots) : t ∈ rdS o:=
 List.mem_append_left _ (List.mem_filterMap.2 ⟨_,h,rfl⟩)
theorem rdS_gd {o : RO} {g : Nat} {b : Bool} (h : o.gp = some (g,b)) : g ∈ rdS o:=
 List.mem_append_right _ (by rw [h];simp)
theorem clash_rd {x y : RO} {t : Nat} (hx : x.dst = some t) (hy : t ∈ rdS y) : clashS x y = true:=by
 simp only [clashS,isD,hx,Bool.or_eq_true];exact .inl (.inl (has_mem.2 hy))
theorem clash_rd' {x y : RO} {t : Nat} (hx : x.dst = some t) (hy : t ∈ rdS y) : clashS y x = true:=by
 simp only [clashS,isD,hx,Bool.or_eq_true];exact .inl (.inr (has_mem.2 hy))
theorem clash_dd {x y : RO} {t : Nat} (hx : x.dst = some t) (hy : y.dst = some t) : clashS x y = true:=by
 simp [clashS,hx,hy]
theorem meets_mem {l m : List Nat} {k : Nat} (h1 : k ∈ l) (h2 : k ∈ m) : meets l m = true:=
 List.any_eq_true.2 ⟨k,h1,has_mem.2 h2⟩
section
variable {P : Program} {r : Option Nat} {nf N : Nat} {fz : List Nat} {G : Gl} {ops : Array Oper} {rl : List RO} {ms : List Nat} {s : S} {st : Nat → S} {pp : Nat → Path} {out : Nat → AV} {u : Nat → Option (Nat × Blk)}
theorem anyorder (hG : G.N = N) (hrl : trL P N fz ops ops.toList = some rl) (hms : ms = masks ops.toList []) (hE : edgeOK 0 ops.toList = true) (hO : ordAll [] rl ms = true)
  (R : Run P rl ms s st pp out u) (hnx : ∀ k,s.nx ≤ k → lm s.mem k = none) {Q : Exit → Act → World → Prop}
  (hK : ∀ E a w,SatS G (st rl.length) E a w → Q .normal a w) :
  ∀ (fuel : Nat) (listed : Array Bool) (E : Env) (a : Act) (w : World),unl listed ≤ fuel → LI ops ms listed →
   Sat G (Fd rl (fun j=>gdd (pp j) (out j)) (fun j=>listed.getD j false) (lk s.tm) rl.length) (Md u (fun j=>listed.getD j false) (lm s.mem) rl.length) E a w →
   wpAnyIn (W1 r) nf P .any ops Q fuel listed a w:=by
 obtain ⟨hl,hsp⟩:=trL_spec hrl
 have hlen : rl.length = ops.size:=by rw [hl,Array.length_toList]
 have hfin : ∀ (listed : Array Bool) (E : Env) (a : Act) (w : World),LI ops ms listed → Region.ready .any ops listed = [] →
   Sat G (Fd rl (fun j=>gdd (pp j) (out j)) (fun j=>listed.getD j false) (lk s.tm) rl.length) (Md u (fun j=>listed.getD j false) (lm s.mem) rl.length) E a w → Q .normal a w:=by
  intro listed E a w inv hr hS
  refine hK E a w ⟨?_,R.nxN hnx (Nat.le_refl _)⟩
  have hall : ∀ j,j < rl.length → listed.getD j false = true:=fun j hj=>all_listed hE inv hr j j (Nat.le_refl _) (by omega)
  have e1 : Fd rl (fun j=>gdd (pp j) (out j)) (fun j=>listed.getD j false) (lk s.tm) rl.length = lk (st rl.length).tm:=by
   rw [R.tm _ (Nat.le_refl _)]
   funext t
   exact Fd_congr _ (fun j hj _=>hall j hj)
  have e2 : Md u (fun j=>listed.getD j false) (lm s.mem) rl.length = lm (st rl.length).mem:=by
   rw [R.mem _ (Nat.le_refl _)]
   funext t
   exact Md_congr _ (fun j hj _ _=>hall j hj)
  rw [e1,e2] at hS
  exact hS
 intro fuel
 induction fuel with
 |zero=>
  intro listed E a w hf inv hS
  have hr : Region.ready .any ops listed = []:=by
   cases hc : Region.ready .any ops listed with
   |nil=>rfl
   |cons i l=>
    have : i ∈ Region.ready .any ops listed:=by rw [hc];simp
    have h1:=(mem_ready.1 this).1
    rw [unl_zero (by omega)] at h1
    cases h1
  exact ⟨hr,hfin listed E a w inv hr hS⟩
 |succ fuel ih=>
  intro listed E a w hf inv hS
  refine ⟨fun hr=>hfin listed E a w inv hr hS,fun i hi=>?_⟩
  obtain ⟨hun,oi,hoi,hall⟩:=mem_ready.1 hi
  have hil : i < ops.size:=(Array.getElem?_eq_some_iff.1 hoi).1
  have hirl : i < rl.length:=by omega
  have hunf:=getD_ff hun
  obtain ⟨ro,hro,ht⟩:=hsp i oi (by simpa using hoi)
  have hok:=R.ok i ro hro
  obtain ⟨mi,hmi,hcf⟩:=R.cf i ro hro
  have hbefore : ∀ j,tb mi j → listed.getD j false = true:=fun j hj=>(anc hms hE inv i i (Nat.le_refl _) oi mi hoi hmi hall j hj).2
  have hafter : ∀ j rj mj,rl[j]? = some rj → ms[j]? = some mj → tb mj i → listed.getD j false = false:=by
   intro j rj mj hj hmj htb
   cases hc : listed.getD j false with
   |false=>rfl
   |true=>
    have hjl : j < ops.size:=by
     have:=(List.getElem?_eq_some_iff.1 hj).1
     omega
    have hoj : ops[j]? = some ops[j]:=Array.getElem?_eq_getElem hjl
    have:=(anc hms hE inv j j (Nat.le_refl _) _ mj hoj hmj (fun e he hb=>inv.closed j _ hoj hc e he hb) i htb).2
    rw [hunf] at this;cases this
  have hmsl : ∀ j,j < rl.length → ∃ mj,ms[j]? = some mj:=fun j hj=>by
   obtain ⟨mj,h,_⟩:=R.cf j rl[j] (List.getElem?_eq_getElem hj)
   exact ⟨mj,h⟩
  have hslot : ∀ j rj,j < rl.length → rl[j]? = some rj → j ≠ i → (clashS rj ro = true ∧ clashS ro rj = true) → listed.getD j false = decide (j < i):=by
   intro j rj hj hrj hne hcl
   rcases Nat.lt_or_gt_of_ne hne with h | h
   ·rw [decide_eq_true h]
    exact hbefore j (tb_iff.2 (ordAll_spec rl [] ms hO i ro mi hro hmi j rj (by simp;exact h) (by simpa using hrj) hcl.1))
   ·rw [decide_eq_false (by omega)]
    obtain ⟨mj,hmj⟩:=hmsl j hj
    exact hafter j rj mj hrj hmj (tb_iff.2 (ordAll_spec rl [] ms hO j rj mj hrj hmj i ro (by simp;exact h) (by simpa using hro) hcl.2))
  have hblk : ∀ j rj,j < rl.length → rl[j]? = some rj → j ≠ i →
    (cl (dT (st j) rj.op) (dW (st j) (pp j) rj.op) (dT (st i) ro.op) (dW (st i) (pp i) ro.op) = true ∧ cl (dT (st i) ro.op) (dW (st i) (pp i) ro.op) (dT (st j) rj.op) (dW (st j) (pp j) rj.op) = true) → listed.getD j false = decide (j < i):=by
   intro j rj hj hrj hne hcl
   rcases Nat.lt_or_gt_of_ne hne with h | h
   ·rw [decide_eq_true h]
    exact hbefore j (hcf j rj h hrj hcl.1)
   ·rw [decide_eq_false (by omega)]
    obtain ⟨mj,hmj,hcj⟩:=R.cf j rj hrj
    exact hafter j rj mj hrj hmj (hcj i ro h hro hcl.2)
  have hdec : decide (i < i) = false:=decide_eq_false (Nat.lt_irrefl i)
  have hread : ∀ t ∈ rdS ro,lk (st i).tm t = Fd rl (fun j=>gdd (pp j) (out j)) (fun j=>listed.getD j false) (lk s.tm) rl.length t:=by
   intro t ht'
   rw [R.tm i (by omega),← Fd_lt rl.length (by omega)]
   refine (Fd_congr _ (fun j hj hd=>?_)).symm
   have hrj : rl[j]? = some rl[j]:=List.getElem?_eq_getElem hj
   have hdj : rl[j].dst = some t:=by simpa [dstAt,hrj] using hd
   by_cases hij : j = i
   ·subst hij;simp only [hunf,hdec]
   ·exact hslot j _ hj hrj hij ⟨clash_rd hdj ht',clash_rd' hdj ht'⟩
  have hmem : ∀ k ∈ dT (st i) ro.op,Md u (fun j=>listed.getD j false) (lm s.mem) rl.length k = lm (st i).mem k:=by
   intro k hk
   rw [R.mem i (by omega),← Md_lt rl.length (by omega)]
   refine Md_congr _ (fun j hj b hu=>?_)
   have hrj : rl[j]? = some rl[j]:=List.getElem?_eq_getElem hj
   by_cases hij : j = i
   ·subst hij;simp only [hunf,hdec]
   ·have hw:=(R.ok j _ hrj).wr k b hu
    refine hblk j _ hj hrj hij ⟨?_,?_⟩
    ·simp only [cl,hw,Bool.or_eq_true];exact .inl (.inl (meets_mem (List.mem_singleton.2 rfl) hk))
    ·simp only [cl,hw,Bool.or_eq_true];exact .inr (meets_mem (List.mem_singleton.2 rfl) hk)
  have hnew : Md u (fun j=>listed.getD j false) (lm s.mem) rl.length (st i).nx = none:=by
   rw [R.nx i (by omega)]
   have h0 : Md u (fun j=>listed.getD j false) (lm s.mem) rl.length (s.nx + i) = Md u (fun _=>false) (lm s.mem) rl.length (s.nx + i):=by
    refine Md_congr _ (fun j hj b hu=>?_)
    have hrj : rl[j]? = some rl[j]:=List.getElem?_eq_getElem hj
    by_cases hij : j = i
    ·subst hij;exact hunf
    ·have hoku:=(R.ok j _ hrj).okU
     rw [hu] at hoku
     have hw:=(R.ok j _ hrj).wr _ b hu
     rcases hoku.2 with h1 | ⟨h1,h2⟩
     ·rw [R.nx j (by omega)] at h1;omega
     ·obtain ⟨h3,b',hb'⟩:=R.first hnx j (by omega) i ((hasM_iff _ _).1 h2)
      have hwi:=hok.wr _ b' hb'
      have:=hblk j _ hj hrj hij ⟨by simp only [cl,hw,hwi,Bool.or_eq_true];exact .inl (.inr (meets_mem (List.mem_singleton.2 rfl) (List.mem_singleton.2 rfl))),by simp only [cl,hw,hwi,Bool.or_eq_true];exact .inl (.inr (meets_mem (List.mem_singleton.2 rfl) (List.mem_singleton.2 rfl)))⟩
      rw [this];exact decide_eq_false (by omega)
   rw [h0]
   have : ∀ n,Md u (fun _=>false) (lm s.mem) n = lm s.mem:=fun n=>by
    induction n with
    |zero=>rfl
    |succ n ih=>simp only [Md,Bool.false_eq_true,if_false];exact ih
   rw [this]
   exact hnx _ (by omega)
  have hslots : ∀ x,(∀ t,x = .tmp t → t ∈ rdS ro) → sat E w (ev (st i).tm x) (a.eval x):=fun x hx=>ev_sat hS x (fun t htt=>hread t (hx t htt))
  obtain ⟨f,hop⟩:=ht.op
  have hG1 : GOk P r nf G (Fd rl (fun j=>gdd (pp j) (out j)) (fun j=>listed.getD j false) (lk s.tm) rl.length) (Md u (fun j=>listed.getD j false) (lm s.mem) rl.length) E a w ops oi (gdd (pp i) (out i)) (u i):=by
   refine gok_of hS ht.gd (by rw [← pathOf_eq];exact hok.path) (fun g b hg=>hslots _ (fun t htt=>by cases htt;exact rdS_gd hg)) hok.okU (fun hpc=>?_)
   refine hok.sem r nf G _ _ E a w oi ?_ hpc
   rw [stepP_eq,← stepQ_loc (m':=Md u (fun j=>listed.getD j false) (lm s.mem) rl.length) hmem]
   exact stepQ_sem hS hnew hop hpc (fun x hx=>hslots x (fun t htt=>by subst htt;exact rdS_slot hx)) (by rw [← underAll_eq];exact hok.under)
  unfold wpOpIn
  simp only [hoi]
  refine hG1 _ Q (fun E' w' v h3 h4 h5=>?_)
  refine ih _ E' _ w' (by have:=unl_set hun;omega) (inv.set hi) ?_
  have hset : ∀ j,(listed.setIfInBounds i true).getD j false = (if j = i then true else listed.getD j false):=fun j=>by
   by_cases hij : j = i
   ·subst hij
    have : j < listed.size:=by rw [inv.size];exact hil
    simp [this]
   ·rw [if_neg hij,getD_set_ne false (Ne.symm hij)]
  have hu2 : Md u (fun j=>(listed.setIfInBounds i true).getD j false) (lm s.mem) rl.length = updO (Md u (fun j=>listed.getD j false) (lm s.mem) rl.length) (u i):=by
   funext k
   by_cases hk : ∃ b,u i = some (k,b)
   ·obtain ⟨b,hb⟩:=hk
    have hwi:=hok.wr k b hb
    have e : Md u (fun j=>(listed.setIfInBounds i true).getD j false) (lm s.mem) rl.length k = Md u (fun j=>decide (j < i + 1)) (lm s.mem) rl.length k:=by
     refine Md_congr _ (fun j hj b' hu=>?_)
     have hrj : rl[j]? = some rl[j]:=List.getElem?_eq_getElem hj
     simp only [hset]
     by_cases hij : j = i
     ·subst hij;simp
     ·rw [if_neg hij]
      have hw:=(R.ok j _ hrj).wr k b' hu
      rw [hblk j _ hj hrj hij ⟨by simp only [cl,hw,hwi,Bool.or_eq_true];exact .inl (.inr (meets_mem (List.mem_singleton.2 rfl) (List.mem_singleton.2 rfl))),by simp only [cl,hw,hwi,Bool.or_eq_true];exact .inl (.inr (meets_mem (List.mem_singleton.2 rfl) (List.mem_singleton.2 rfl)))⟩]
      have : (j < i) ↔ (j < i + 1):=by omega
      simp only [this]
    rw [e,Md_lt rl.length (by omega)]
    simp only [Md,if_true,hb,updO,upd]
   ·have e : Md u (fun j=>(listed.setIfInBounds i true).getD j false) (lm s.mem) rl.length k = Md u (fun j=>listed.getD j false) (lm s.mem) rl.length k:=by
     refine Md_congr _ (fun j hj b' hu=>?_)
     simp only [hset]
     rw [if_neg (fun hij=>hk ⟨b',by rw [← hij];exact hu⟩)]
    rw [e]
    cases hui : u i with
    |none=>rfl
    |some kb=>
     obtain ⟨k',b⟩:=kb
     simp only [updO,upd]
     rw [if_neg (fun hkk=>hk ⟨b,by rw [hui,hkk]⟩)]
  have hf2 : Sat G (Fd rl (fun j=>gdd (pp j) (out j)) (fun j=>(listed.setIfInBounds i true).getD j false) (lk s.tm) rl.length) (Md u (fun j=>(listed.setIfInBounds i true).getD j false) (lm s.mem) rl.length) E' (a.put oi.dst v) w':=by
   rw [hu2]
   cases hd : oi.dst with
   |none=>
    have e : Fd rl (fun j=>gdd (pp j) (out j)) (fun j=>(listed.setIfInBounds i true).getD j false) (lk s.tm) rl.length = Fd rl (fun j=>gdd (pp j) (out j)) (fun j=>listed.getD j false) (lk s.tm) rl.length:=by
     funext t
     refine Fd_congr _ (fun j hj hdj=>?_)
     simp only [hset]
     rw [if_neg (fun hij=>by subst hij;simp [dstAt,hro,ht.dst,hd] at hdj)]
    rw [e]
    exact h4
   |some d=>
    have hrd : ro.dst = some d:=by rw [ht.dst,hd]
    have e : Fd rl (fun j=>gdd (pp j) (out j)) (fun j=>(listed.setIfInBounds i true).getD j false) (lk s.tm) rl.length = upd (Fd rl (fun j=>gdd (pp j) (out j)) (fun j=>listed.getD j false) (lk s.tm) rl.length) d (gdd (pp i) (out i)):=by
     funext t
     by_cases htd : t = d
     ·subst htd
      have e : Fd rl (fun j=>gdd (pp j) (out j)) (fun j=>(listed.setIfInBounds i true).getD j false) (lk s.tm) rl.length t = Fd rl (fun j=>gdd (pp j) (out j)) (fun j=>decide (j < i + 1)) (lk s.tm) rl.length t:=by
       refine Fd_congr _ (fun j hj hdj=>?_)
       have hrj : rl[j]? = some rl[j]:=List.getElem?_eq_getElem hj
       have hdj' : rl[j].dst = some t:=by simpa [dstAt,hrj] using hdj
       simp only [hset]
       by_cases hij : j = i
       ·subst hij;simp
       ·rw [if_neg hij,hslot j _ hj hrj hij ⟨clash_dd hdj' hrd,clash_dd hrd hdj'⟩]
        have : (j < i) ↔ (j < i + 1):=by omega
        simp only [this]
      rw [e,Fd_lt rl.length (by omega)]
      simp only [Fd,if_true,dstAt,hro,Option.bind_some,hrd,upd]
     ·have e : Fd rl (fun j=>gdd (pp j) (out j)) (fun j=>(listed.setIfInBounds i true).getD j false) (lk s.tm) rl.length t = Fd rl (fun j=>gdd (pp j) (out j)) (fun j=>listed.getD j false) (lk s.tm) rl.length t:=by
       refine Fd_congr _ (fun j hj hdj=>?_)
       simp only [hset]
       rw [if_neg (fun hij=>by subst hij;simp [dstAt,hro,hrd] at hdj;exact htd hdj.symm)]
      rw [e]
      simp only [upd]
      rw [if_neg htd]
    rw [e]
    exact h4.put (by rw [hG];exact ht.lt d hd) h5
  exact hf2
theorem region_any (hm : P.follows .mixedOrders = true) (hG : G.N = N) (hrl : trL P N fz ops ops.toList = some rl) (hE : edgeOK 0 ops.toList = true) (hO : ordAll [] rl (masks ops.toList []) = true)
  {Q : Exit → Act → World → Prop} {K : S → Prop} (hK : ∀ s E a w,K s → SatS G s E a w → Q .normal a w) {E : Env} {a : Act} {w : World} {id : Nat}
  (hc : chain P (some ⟨masks ops.toList [],0,[]⟩) rl s K) (hS : SatS G s E a w) : (Code.region id ops true).wpIn (W1 r) nf P Q a w:=by
 obtain ⟨st,pp,out,u,R,hk⟩:=chain_Run hc
 refine wpIn_region_any hm ?_
 have hrep : ∀ j,(Array.replicate ops.size false).getD j false = false:=fun j=>by
  rcases Nat.lt_or_ge j ops.size with h | h
  ·simp [h]
  ·simp [h]
 refine anyorder hG hrl rfl hE hO R hS.nx (fun E a w h=>hK _ E a w hk h) ops.size _ E a _ ?_ ⟨by simp,fun j oj hj hl=>by rw [hrep] at hl;cases hl⟩ ?_
 ·simp [unl]
 ·have e0 : (fun j=>(Array.replicate ops.size false).getD j false) = fun _=>false:=funext hrep
  have e1 : ∀ n,Fd rl (fun j=>gdd (pp j) (out j)) (fun _=>false) (lk s.tm) n = lk s.tm:=fun n=>by
   induction n with
   |zero=>rfl
   |succ n ih=>simp only [Fd,Bool.false_eq_true,if_false];exact ih
  have e2 : ∀ n,Md u (fun _=>false) (lm s.mem) n = lm s.mem:=fun n=>by
   induction n with
   |zero=>rfl
   |succ n ih=>simp only [Md,Bool.false_eq_true,if_false];exact ih
  rw [e0,e1,e2]
  exact hS.st.drew
end
inductive C : Type where
 |reg (ms : Option (List Nat)) (ops : List RO)
 |seq (a b : C)
 |cond (x : Operand) (a b : C)
 |block (id : Nat) (c : C)
 |loop (c : C)
 |exit (id : Nat)
 |ret
 |skip
 |rfn (g : Operand) (ps : List Nat) (a b : C)
 |scp (c : C)
 deriving Inhabited
def trG (P : Program) (N : Nat) (fz : List Nat) (ops : Array Oper) (d : Bool) : Option C:=
 match trL P N fz ops ops.toList with
 |some rl=>if d then (if edgeOK 0 ops.toList && ordAll [] rl (masks ops.toList []) then some (.reg (some (masks ops.toList [])) rl) else none) else some (.reg none rl)
 |none=>none
def trC (P : Program) (N : Nat) (fz : List Nat) : Code → Option C
 |.skip=>some .skip
 |.label _=>some .skip
 |.region _ ops d=>trG P N fz ops d
 |.seq a b=>match trC P N fz a,trC P N fz b with
  |some a,some b=>some (.seq a b)
  |_,_=>none
 |.cond x a b=>match trC P N fz a,trC P N fz b with
  |some a,some b=>some (.cond x a b)
  |_,_=>none
 |.block id c=>match trC P N fz c with
  |some c=>some (.block id c)
  |none=>none
 |.loop c=>match trC P N fz c with
  |some c=>some (.loop c)
  |none=>none
 |.exit id=>some (.exit id)
 |.ret=>some .ret
 |.rangeFunc g ps a b=>match trC P N fz a,trC P N fz b with
  |some a,some b=>some (.rfn g ps.toList a b)
  |_,_=>none
 |.scope c=>match trC P N fz c with
  |some c=>some (.scp c)
  |none=>none
 |_=>none
inductive Ex where
 |n
 |e (id : Nat)
 |r
def WX (G : Gl) (Q : Ex → S → Prop) : Exit → Act → World → Prop
 |.normal,a,w=>∃ s E,Q .n s ∧ SatS G s E a w
 |.exit id,a,w=>∃ s E,Q (.e id) s ∧ SatS G s E a w
 |.ret,a,w=>∃ s E,Q .r s ∧ SatS G s E a w
 |_,_,_=>False
def NopD (P : Program) (d : Deferred) : Prop:=∃ fv cap,d.target = .fn fv cap ∧ ∀ w : World,∃ f args,(invoke d.target d.args).run P w = .ok (.enter f args) w ∧
 ∀ n,CallsDIn Fence.wide n P f args .returning w fun e u' w'=>(∃ v,e = .returned v) ∧ u' = .returning ∧ Below w.heap.size w w'
def AlwD (P : Program) : Deferred → Bool → Prop:=fun d b=>b = true ∧ NopD P d
def W (P : Program) (N : Nat) (c : C) (s : S) (Q : Ex → S → Prop) : Prop:=
 P.follows .mixedOrders = true → ∀ code fz,trC P N fz code = some c → ∀ (r : Option Nat) (nf : Nat) (G : Gl) (E : Env) (a : Act) (w : World),(G.N = N ∧ G.rd = r ∧ ∀ d,G.dd d true → NopD P d) → SatS G s E a w → code.wpIn (W1 r) nf P (WX G Q) a w
def le (s s' : S) : Prop:=∀ G E a w,SatS G s E a w → ∃ E',SatS G s' E' a w
theorem le.refl (s : S) : le s s:=fun G E a w h=>⟨E,h⟩
theorem le.trans {a b c : S} (h : le a b) (k : le b c) : le a c:=fun G E x w hs=>by
 obtain ⟨E',h'⟩:=h G E x w hs
 exact k G E' x w h'
def thenQ (K : S → Prop) (Q : Ex → S → Prop) : Ex → S → Prop
 |.n,s=>K s
 |e,s=>Q e s
def blockQ (id : Nat) (Q : Ex → S → Prop) : Ex → S → Prop
 |.e j,s=>if j = id then Q .n s else Q (.e j) s
 |e,s=>Q e s
def S.keep (ks : List Nat) (s : S) : S:=⟨ks.map fun t=>(t,lk s.tm t),s.mem,s.nx⟩
theorem lk_keep (ks : List Nat) (f : Nat → AV) (t : Nat) : lk (ks.map fun t=>(t,f t)) t = f t ∨ lk (ks.map fun t=>(t,f t)) t = .bad:=by
 induction ks with
 |nil=>exact .inr rfl
 |cons k ks ih=>
  simp only [List.map_cons,lk]
  split
  ·rename_i h;subst h;exact .inl rfl
  ·exact ih
theorem keep_sat {G : Gl} {s : S} {E : Env} {a : Act} {w : World} (ks : List Nat) (h : SatS G s E a w) : SatS G (s.keep ks) E a w:=
 ⟨h.st.forget (fun t=>lk_keep ks (lk s.tm) t),h.nx⟩
theorem le_keep {s : S} (ks : List Nat) : le s (s.keep ks):=fun G E a w h=>⟨E,keep_sat ks h⟩
section
variable {P : Program} {N : Nat} {s s' : S} {Q Q' : Ex → S → Prop} {a b c : C} {K : S → Prop}
theorem WX_mono {G : Gl} {e : Exit} {x : Act} {w : World} (h : ∀ e s,Q e s → ∃ s',le s s' ∧ Q' e s') (hx : WX G Q e x w) : WX G Q' e x w:=by
 cases e <;> simp only [WX] at hx ⊢ <;> first
  |exact hx
  |(obtain ⟨s,E,h1,h2⟩:=hx
    obtain ⟨s',h3,h4⟩:=h _ _ h1
    obtain ⟨E',h5⟩:=h3 _ _ _ _ h2
    exact ⟨s',E',h4,h5⟩)
theorem W_mono (h : W P N c s Q) (hq : ∀ e s,Q e s → ∃ s',le s s' ∧ Q' e s') : W P N c s Q':=
 fun hm code fz ht r nf G E x w hG hS=>wpIn_mono (h hm code fz ht r nf G E x w hG hS) (fun _ _ _ hx=>WX_mono hq hx)
theorem W_mono' (h : W P N c s Q) (hq : ∀ e s,Q e s → Q' e s) : W P N c s Q':=W_mono h fun e s h=>⟨s,le.refl s,hq e s h⟩
theorem W_le (hl : le s s') (h : W P N c s' Q) : W P N c s Q:=fun hm code fz ht r nf G E x w hG hS=>by
 obtain ⟨E',hS'⟩:=hl G E x w hS
 exact h hm code fz ht r nf G E' x w hG hS'
theorem trC_seq {fz : List Nat} {code : Code} (h : trC P N fz code = some (.seq a b)) : ∃ x y,code = .seq x y ∧ trC P N fz x = some a ∧ trC P N fz y = some b:=by
 cases code <;> simp only [trC,trG] at h <;> (try (simp at h;done)) <;> (repeat' (split at h)) <;> (try (simp at h;done))
 rename_i x y _ _ _ _ h1 h2
 simp only [Option.some.injEq,C.seq.injEq] at h
 obtain ⟨rfl,rfl⟩:=h
 exact ⟨_,_,rfl,h1,h2⟩
theorem trC_cond {fz : List Nat} {code : Code} {x : Operand} (h : trC P N fz code = some (.cond x a b)) : ∃ y z,code = .cond x y z ∧ trC P N fz y = some a ∧ trC P N fz z = some b:=by
 cases code <;> simp only [trC,trG] at h <;> (try (simp at h;done)) <;> (repeat' (split at h)) <;> (try (simp at h;done))
 rename_i h1 h2
 simp only [Option.some.injEq,C.cond.injEq] at h
 obtain ⟨rfl,rfl,rfl⟩:=h
 exact ⟨_,_,rfl,h1,h2⟩
theorem trC_block {fz : List Nat} {code : Code} {id : Nat} (h : trC P N fz code = some (.block id c)) : ∃ y,code = .block id y ∧ trC P N fz y = some c:=by
 cases code <;> simp only [trC,trG] at h <;> (try (simp at h;done)) <;> (repeat' (split at h)) <;> (try (simp at h;done))
 rename_i h1
 simp only [Option.some.injEq,C.block.injEq] at h
 obtain ⟨rfl,rfl⟩:=h
 exact ⟨_,rfl,h1⟩
theorem trC_scp {fz : List Nat} {code : Code} (h : trC P N fz code = some (.scp c)) : ∃ y,code = .scope y ∧ trC P N fz y = some c:=by
 cases code <;> simp only [trC,trG] at h <;> (try (simp at h;done)) <;> (repeat' (split at h)) <;> (try (simp at h;done))
 rename_i h1
 simp only [Option.some.injEq,C.scp.injEq] at h
 obtain rfl:=h
 exact ⟨_,rfl,h1⟩
theorem trC_loop {fz : List Nat} {code : Code} (h : trC P N fz code = some (.loop c)) : ∃ y,code = .loop y ∧ trC P N fz y = some c:=by
 cases code <;> simp only [trC,trG] at h <;> (try (simp at h;done)) <;> (repeat' (split at h)) <;> (try (simp at h;done))
 rename_i h1
 simp only [Option.some.injEq,C.loop.injEq] at h
 obtain rfl:=h
 exact ⟨_,rfl,h1⟩
theorem trC_exit {fz : List Nat} {code : Code} {id : Nat} (h : trC P N fz code = some (.exit id)) : code = .exit id:=by
 cases code <;> simp only [trC,trG] at h <;> (try (simp at h;done)) <;> (repeat' (split at h)) <;> (try (simp at h;done))
 simp only [Option.some.injEq,C.exit.injEq] at h
 rw [h]
theorem trC_ret {fz : List Nat} {code : Code} (h : trC P N fz code = some .ret) : code = .ret:=by
 cases code <;> simp only [trC,trG] at h <;> (try (simp at h;done)) <;> (repeat' (split at h)) <;> (try (simp at h;done))
 rfl
theorem trC_skip {fz : List Nat} {code : Code} (h : trC P N fz code = some .skip) : code = .skip ∨ ∃ l,code = .label l:=by
 cases code <;> simp only [trC,trG] at h <;> (try (simp at h;done)) <;> (repeat' (split at h)) <;> (try (simp at h;done))
 ·exact .inl rfl
 ·exact .inr ⟨_,rfl⟩
theorem trC_rfn {fz : List Nat} {code : Code} {g : Operand} {ps : List Nat} (h : trC P N fz code = some (.rfn g ps a b)) : ∃ qs x y,code = .rangeFunc g qs x y ∧ qs.toList = ps ∧ trC P N fz x = some a ∧ trC P N fz y = some b:=by
 cases code <;> simp only [trC,trG] at h <;> (try (simp at h;done)) <;> (repeat' (split at h)) <;> (try (simp at h;done))
 rename_i h1 h2
 simp only [Option.some.injEq,C.rfn.injEq] at h
 obtain ⟨rfl,rfl,rfl,rfl⟩:=h
 exact ⟨_,_,_,rfl,rfl,h1,h2⟩
theorem trC_reg {fz : List Nat} {code : Code} {ms : Option (List Nat)} {rl : List RO} (h : trC P N fz code = some (.reg ms rl)) :
  ∃ id ops d,code = .region id ops d ∧ trL P N fz ops ops.toList = some rl ∧ ((d = false ∧ ms = none) ∨ (d = true ∧ ms = some (masks ops.toList []) ∧ edgeOK 0 ops.toList = true ∧ ordAll [] rl (masks ops.toList []) = true)):=by
 cases code <;> simp only [trC,trG] at h <;> (try (simp at h;done)) <;> (repeat' (split at h)) <;> (try (simp at h;done))
 ·rename_i id ops d _ _ h1 h2 h3
  simp only [Option.some.injEq,C.reg.injEq] at h
  obtain ⟨rfl,rfl⟩:=h
  simp only [Bool.and_eq_true] at h3
  exact ⟨_,_,_,rfl,h1,.inr ⟨h2,rfl,h3.1,h3.2⟩⟩
 ·rename_i id ops d _ _ h1 h2
  simp only [Option.some.injEq,C.reg.injEq] at h
  obtain ⟨rfl,rfl⟩:=h
  exact ⟨_,_,_,rfl,h1,.inl ⟨by simpa using h2,rfl⟩⟩
def ddOf (ms : Option (List Nat)) : Option DD:=ms.map fun m=>⟨m,0,[]⟩
theorem W_reg {ms : Option (List Nat)} {rl : List RO} (ks : List Nat) (h : chain P (ddOf ms) rl s (fun s'=>Q .n (s'.keep ks))) : W P N (.reg ms rl) s Q:=by
 intro hm code fz ht r nf G E x w hG hS
 obtain ⟨id,ops,d,rfl,hrl,hd⟩:=trC_reg ht
 rcases hd with ⟨rfl,rfl⟩ | ⟨rfl,rfl,hE,hO⟩
 ·refine wpIn_region ?_
  rw [List.range_eq_range']
  exact inorder hG.1 hrl (K:=fun s'=>Q .n (s'.keep ks)) (fun s E a w hk hS=>⟨_,E,hk,keep_sat ks hS⟩) ops.size 0 s E x w (by omega) (by rw [List.drop_zero];exact h) hS
 ·exact region_any hm hG.1 hrl hE hO (K:=fun s'=>Q .n (s'.keep ks)) (fun s E a w hk hS=>⟨_,E,hk,keep_sat ks hS⟩) h hS
theorem W_seq (h : W P N a s (thenQ (fun s'=>W P N b s' Q) Q)) : W P N (.seq a b) s Q:=by
 intro hm code fz ht r nf G E x w hG hS
 obtain ⟨c1,c2,rfl,h1,h2⟩:=trC_seq ht
 refine wpIn_seq (wpIn_mono (h hm c1 fz h1 r nf G E x w hG hS) (fun e x' w' hx=>?_))
 cases e <;> simp only [WX,thenQ] at hx <;> first
  |exact hx
  |exact hx.elim
  |(obtain ⟨s',E',h3,h4⟩:=hx;exact h3 hm c2 fz h2 r nf G E' x' w' hG h4)
theorem W_cond {x : Operand} {t : Bool} (hx : ev s.tm x = .v (.bool t)) (h1 : t = true → W P N a s Q) (h2 : t = false → W P N b s Q) : W P N (.cond x a b) s Q:=by
 intro hm code fz ht r nf G E y w hG hS
 obtain ⟨c1,c2,rfl,h3,h4⟩:=trC_cond ht
 have hv:=ev_sat (l:=s.tm) hS.st x (fun _ _=>rfl)
 rw [hx] at hv
 simp only [sat] at hv
 exact wpIn_cond_split hv (fun ht=>h1 ht hm c1 fz h3 r nf G E y w hG hS) (fun ht=>h2 ht hm c2 fz h4 r nf G E y w hG hS)
theorem W_block {id : Nat} (h : W P N c s (blockQ id Q)) : W P N (.block id c) s Q:=by
 intro hm code fz ht r nf G E x w hG hS
 obtain ⟨c1,rfl,h1⟩:=trC_block ht
 refine wpIn_block (wpIn_mono (h hm c1 fz h1 r nf G E x w hG hS) (fun e x' w' hx=>?_))
 cases e <;> simp only [WX,blockQ] at hx <;> try exact hx
 rename_i j
 simp only [Exit.inBlock]
 split
 ·rename_i hj;simp only [hj,if_true] at hx;exact hx
 ·rename_i hj;simp only [hj,if_false] at hx;exact hx
theorem stepR_scope {P : Program} {b : Frame} {a : Act} {k : List Item} {cs : List Frame} {w : World} {c : Code} : step P (lone (b.atR a (.code (.scope c) :: k)) cs w) = .next (lone (b.atR a (.code c :: .inScope c :: k)) cs w):=
 step_lone_go (by simp [stepG,stepG.exec,Frame.atR])
theorem stepR_inScope {P : Program} {b : Frame} {a : Act} {k : List Item} {cs : List Frame} {w : World} {c : Code} : step P (lone (b.atR a (.inScope c :: k)) cs w) = .next (lone (b.atR a k) cs w):=
 step_lone_go (by simp [stepG,stepG.exec,Frame.atR])
theorem wpIn_scope {F : Fence} {n : Nat} {P : Program} {Q : Exit → Act → World → Prop} {a : Act} {w : World} {c : Code} (hq0 : ∀ l a w,¬ Q (.goto l) a w) (h : c.wpIn F n P Q a w) : (Code.scope c).wpIn F n P Q a w:=by
 intro b k cs hro hb hr
 have h0 : (lone (b.atR a (.code (.scope c) :: k)) cs w).fenced P F:=fenced_calm hb hr rfl
 obtain ⟨e,a₁,w₁,hq,harr⟩:=h b (.inScope c :: k) cs hro hb hr
 cases e with
 |normal=>exact ⟨.normal,a₁,w₁,hq,.head h0 stepR_scope (StepsIn.trans harr (.one (fenced_calm hb hr rfl) stepR_inScope))⟩
 |exit id'=>
  have hx : exitTo id' (.inScope c :: k) = exitTo id' k:=by simp [exitTo]
  exact ⟨.exit id',a₁,w₁,hq,fun k' hk=>.head h0 stepR_scope (harr.1 k' (by rw [hx];exact hk)),
   fun hr' hk=>let ⟨k₁,h1,h2⟩:=harr.2 hr' (by rw [hx];exact hk);⟨k₁,h1,.head h0 stepR_scope h2⟩⟩
 |goto l=>exact absurd hq (hq0 l a₁ w₁)
 |ret=>exact ⟨_,a₁,w₁,hq,.of_steps (.one h0 stepR_scope) harr⟩
 |panic ch=>exact ⟨_,a₁,w₁,hq,.of_steps (.one h0 stepR_scope) harr⟩
 |outgrown=>exact ⟨_,a₁,w₁,hq,.of_steps (.one h0 stepR_scope) harr⟩
theorem W_scp (h : W P N c s Q) : W P N (.scp c) s Q:=by
 intro hm code fz ht r nf G E x w hG hS
 obtain ⟨c1,rfl,h1⟩:=trC_scp ht
 exact wpIn_scope (fun l a w hx=>hx) (h hm c1 fz h1 r nf G E x w hG hS)
theorem W_exit {id : Nat} (h : Q (.e id) s) : W P N (.exit id) s Q:=by
 intro hm code fz ht r nf G E x w hG hS
 obtain rfl:=trC_exit ht
 exact wpIn_exit ⟨s,E,h,hS⟩
theorem W_ret (h : Q .r s) : W P N .ret s Q:=by
 intro hm code fz ht r nf G E x w hG hS
 obtain rfl:=trC_ret ht
 exact wpIn_ret ⟨s,E,h,hS⟩
theorem W_skip (h : Q .n s) : W P N .skip s Q:=by
 intro hm code fz ht r nf G E x w hG hS
 rcases trC_skip ht with rfl | ⟨l,rfl⟩
 ·exact wpIn_skip ⟨s,E,h,hS⟩
 ·exact wpIn_label ⟨s,E,h,hS⟩
theorem W_loop {ι : Type} (St : ι → S) (I : ι → Prop) (μ : ι → Nat) (i₀ : ι) (h₀ : I i₀) (hs : le s (St i₀))
  (h : ∀ i,I i → W P N c (St i) (thenQ (fun s'=>∃ i',I i' ∧ μ i' < μ i ∧ le s' (St i')) Q)) : W P N (.loop c) s Q:=by
 intro hm code fz ht r nf G E x w hG hS
 obtain ⟨c1,rfl,h1⟩:=trC_loop ht
 obtain ⟨E₀,hS₀⟩:=hs G E x w hS
 have key : ∀ (I' : Act → World → Prop) (μ' : Act → World → Nat),(∀ a w,I' a w → ∃ i,I i ∧ μ' a w = μ i ∧ ∃ E,SatS G (St i) E a w) →
   (∀ i E a w,I i → SatS G (St i) E a w → I' a w ∧ μ' a w ≤ μ i) → (Code.loop c1).wpIn (W1 r) nf P (WX G Q) x w:=by
  intro I' μ' hI1 hI2
  refine wpIn_loop I' μ' (hI2 i₀ E₀ x w h₀ hS₀).1 (fun a' w' hI=>?_)
  obtain ⟨i,hi,hmu,E',hS'⟩:=hI1 a' w' hI
  refine wpIn_mono (h i hi hm c1 fz h1 r nf G E' a' w' hG hS') (fun e a'' w'' hx=>?_)
  cases e <;> simp only [WX,thenQ] at hx <;> first
   |exact hx
   |exact hx.elim
   |(obtain ⟨s',E'',⟨i',hi',hlt,hle⟩,h4⟩:=hx
     obtain ⟨E3,h5⟩:=hle G E'' a'' w'' h4
     obtain ⟨h6,h7⟩:=hI2 i' E3 a'' w'' hi' h5
     exact ⟨h6,by omega⟩)
 let Ok (a : Act) (w : World) (n : Nat) : Prop:=∃ i E,I i ∧ μ i = n ∧ SatS G (St i) E a w
 have hleast : ∀ a w,(∃ n,Ok a w n) → ∃ m,Ok a w m ∧ ∀ n,Ok a w n → m ≤ n:=by
  intro a w ⟨n,hn⟩
  induction n using Nat.strongRecOn with
  |_ n ih=>
   by_cases hex : ∃ k,k < n ∧ Ok a w k
   ·obtain ⟨k,hk,hok⟩:=hex
    exact ih k hk hok
   ·exact ⟨n,hn,fun k hk=>Nat.le_of_not_lt fun hlt=>hex ⟨k,hlt,hk⟩⟩
 classical
 refine key (fun a w=>∃ n,Ok a w n) (fun a w=>if hx : ∃ n,Ok a w n then Classical.choose (hleast a w hx) else 0) (fun a w hI=>?_) (fun i E a w hi hS=>?_)
 ·have hsp:=Classical.choose_spec (hleast a w hI)
  obtain ⟨i,E,h2,h3,h4⟩:=hsp.1
  refine ⟨i,h2,?_,E,h4⟩
  rw [dif_pos hI];exact h3.symm
 ·have hex : ∃ n,Ok a w n:=⟨μ i,i,E,hi,rfl,hS⟩
  refine ⟨hex,?_⟩
  rw [dif_pos hex]
  exact (Classical.choose_spec (hleast a w hex)).2 _ ⟨i,E,hi,rfl,hS⟩
end
section
variable {P : Program} {r : Option Nat} {nf nx : Nat} {G : Gl} {tm : Nat → AV} {mem : Nat → Option Blk} {E : Env} {a : Act} {w w' : World}
theorem view_satF (S : Sat G tm mem E a w) {F : Nat → Prop} (hF1 : ∀ b,E.F b → F b) (hF2 : ∀ b,G.w0.heap.size ≤ b → b < w.heap.size → F b) : ∀ (n : Nat) (x : AV) (y : Value),sat E w x y → fsat F w (view mem n x) y:=by
 have hfr : ∀ x y,frzB x = true → sat E w x y → fsat F w x y:=fun x y hx h=>
  fsat_mono hF1 (fun _ _=>rfl) _ _ (fsat_of_sat x y hx h)
 have hlist : ∀ (g : AV → AV),(∀ x y,sat E w x y → fsat F w (g x) y) → ∀ (cs : List AV) (vs : List Value),satL E w cs vs → fsatL F w (cs.map g) vs:=by
  intro g hg cs
  induction cs with
  |nil=>intro vs h;simpa [satL,fsatL] using h
  |cons c cs ih=>
   intro vs h
   simp only [satL] at h
   obtain ⟨x,xs,rfl,h1,h2,h3⟩:=h
   simp only [List.map_cons,fsatL]
   exact ⟨x,xs,rfl,h1,hg c x h2,ih xs h3⟩
 have hlistT : ∀ (g : AV → AV),(∀ x y,sat E w x y → fsat F w (g x) y) → ∀ (cs : List AV) (vs : List Value),satT E w cs vs → fsatT F w (cs.map g) vs:=by
  intro g hg cs
  induction cs with
  |nil=>intro vs h;simpa [satT,fsatT] using h
  |cons c cs ih=>
   intro vs h
   simp only [satT] at h
   obtain ⟨x,xs,rfl,h2,h3⟩:=h
   simp only [List.map_cons,fsatT]
   exact ⟨x,xs,rfl,hg c x h2,ih xs h3⟩
 intro n
 induction n with
 |zero=>
  intro x y h
  simp only [view]
  split
  ·rename_i hx;exact hfr x y hx h
  ·simp only [fsat]
 |succ n ih=>
  intro x y h
  have hdef : ∀ x,sat E w x y → fsat F w (if frzB x then x else .bad) y:=fun x h=>by
   split
   ·rename_i hx;exact hfr x y hx h
   ·simp only [fsat]
  cases x with
  |own k o=>
   simp only [view]
   cases hm : mem k with
   |none=>simp only [fsat]
   |some blk=>
    cases blk with
    |oth x=>first | trivial | (simp only [fsat]) | cases hl
    |row s e n' d f l=>simp only [fsat]
    |cells l=>
     simp only [sat] at h
     obtain ⟨b,h1,h2⟩:=h
     obtain ⟨b',cs,T,h3,h4,h5,h6⟩:=S.memv k _ hm
     rw [h1] at h3;cases h3
     simp only [fsat]
     exact ⟨b,0,cs.toList,by rw [h2,Nat.zero_add],hF2 b h4 (Array.getElem?_eq_some_iff.1 h5).1,cellsAt_of_heap h5,hlist _ ih _ _ h6⟩
  |row k s=>
   simp only [view]
   cases hm : mem k with
   |none=>simp only [fsat]
   |some blk=>
    cases blk with
    |oth x=>first | trivial | (simp only [fsat]) | cases hl
    |cells l=>simp only [fsat]
    |row s' e n' d f l=>
     simp only []
     split
     ·rename_i hs;subst hs
      simp only [sat] at h
      obtain ⟨hh,h1,h2⟩:=h
      obtain ⟨v,xs,h3,h4,h5,h6⟩:=S.memv k _ hm
      rw [h1] at h3;cases h3
      simp only [fsat]
      rcases h4.2 with ⟨h7,h8⟩ | ⟨g,cap,cur,h7,h8,h9,h10,h11,h12,h13⟩
      ·have hl : l = []:=List.eq_nil_of_length_eq_zero h8
       subst hl
       exact ⟨none,0,by rw [h2,h7];rfl,Nat.le_refl _,.inl rfl,.inl rfl⟩
      ·have hlt : F g:=hF2 g h8 (Array.getElem?_eq_some_iff.1 h9).1
       refine ⟨some ⟨g,0,none⟩,cap,by rw [h2,h7],h10,.inr ⟨g,0,rfl,hlt⟩,.inr ⟨g,0,rfl,hlt,fun i x hx=>?_⟩⟩
       obtain ⟨h14,h15⟩:=h6 i x hx
       have hc0 : cellsAt w g 0 xs:=fun j u hu=>by
        have:=h4.cells (g:=g) (by rw [h7];rfl) j u hu
        unfold Addr.add at this
        split at this
        ·rename_i h0;subst h0;simpa using this
        ·simpa using this
       exact ⟨h14,_,cellsAt_take (cellsAt_drop hc0),fsatL_mono hF1 (fun _ _=>rfl) _ _ h15⟩
     ·simp only [fsat]
  |agg cs=>
   simp only [view,fsat]
   simp only [sat] at h
   obtain ⟨vs,h1,h2⟩:=h
   exact ⟨vs,h1,hlist _ ih _ _ h2⟩
  |fq cs o=>
   simp only [view,fsat]
   simp only [sat] at h
   obtain ⟨b,o',vs,h1,h2,h3,h4⟩:=h
   exact ⟨b,o',vs,h1,hF1 b h2,h3,hlist _ ih _ _ h4⟩
  |cq g fi ca=>
   simp only [view,fsat]
   simp only [sat] at h
   obtain ⟨fv,cv,h1,h2,h3⟩:=h
   exact ⟨fv,cv,h1,hlistT _ ih _ _ h2,hlistT _ ih _ _ h3⟩
  |v x=>simp only [view];exact hdef _ h
  |fp cs o=>simp only [view];exact hdef _ h
  |sl k d f l=>simp only [view];exact hdef _ h
  |clo g fi ca=>simp only [view];exact hdef _ h
  |fm kd g=>simp only [view];exact hdef _ h
  |roff k s i j o=>simp only [view];exact hdef _ h
  |rsf k s i j=>simp only [view];exact hdef _ h
  |tup cs=>simp only [view];exact hdef _ h
  |gd p x=>simp only [view];exact hdef _ h
  |bad=>simp only [view];exact hdef _ h
theorem run_ldA (S : Sat G tm mem E a w) {T n : Nat} {ag : Bool} (hsz : sizeB P T = some n) (hag : aggB P T = some ag) (hn : (ag || n == 1) = true)
  {ax : AV} {y : Value} (hx : sat E w ax y) {q : Prop} {out : AV} {u : Option (Nat × Blk)} (hl : ldA mem n ag ax = .ok q out u) (hq : q) : ∃ z,(Instr.loadAt T y).run P w = .ok z w ∧ sat E w out z:=by
 cases ax <;> simp only [ldA] at hl <;> try (cases hl;done)
 case own k off=>
  cases hm : mem k with
  |none=>rw [hm] at hl;cases hl
  |some blk=>
   rw [hm] at hl
   cases blk with
   |oth x=>first | trivial | (simp only [fsat]) | cases hl
   |row s' el' n d f l=>cases hl
   |cells l=>
    simp only [ldL,SR.ok.injEq] at hl
    obtain ⟨rfl,rfl,_⟩:=hl
    obtain ⟨_,hl⟩:=hq
    simp only [sat] at hx
    obtain ⟨b,h1,h2⟩:=hx
    obtain ⟨b',cs,T',h3,h4,h5,h6⟩:=S.memv k _ hm
    rw [h1] at h3;cases h3
    obtain ⟨y,h7,h8⟩:=run_load (P:=P) (o:=0) hsz hag hn (cellsAt_of_heap h5) h6 hl
    rw [Nat.zero_add] at h7
    exact ⟨y,by rw [h2];exact h7,h8⟩
 case fp cs off=>
  simp only [ldL,SR.ok.injEq] at hl
  obtain ⟨rfl,rfl,_⟩:=hl
  obtain ⟨_,hl⟩:=hq
  simp only [sat,fsat] at hx
  obtain ⟨b,o',vs,h2,h3,h4,h5⟩:=hx
  obtain ⟨y,h7,h8⟩:=run_load (P:=P) hsz hag hn h4 (satL_of_fsatL (E:=E) _ _ h5) hl
  exact ⟨y,by rw [h2];exact h7,h8⟩
 case fq cs off=>
  simp only [ldL,SR.ok.injEq] at hl
  obtain ⟨rfl,rfl,_⟩:=hl
  obtain ⟨_,hl⟩:=hq
  simp only [sat] at hx
  obtain ⟨b,o',vs,h2,h3,h4,h5⟩:=hx
  obtain ⟨y,h7,h8⟩:=run_load (P:=P) hsz hag hn h4 h5 hl
  exact ⟨y,by rw [h2];exact h7,h8⟩
 case roff k s n' i off=>
  cases hm : mem k with
  |none=>rw [hm] at hl;cases hl
  |some blk=>
   rw [hm] at hl
   cases blk with
   |oth x=>first | trivial | (simp only [fsat]) | cases hl
   |cells l=>cases hl
   |row s' el' n'' d f l=>
    simp only [ldL,SR.ok.injEq] at hl
    obtain ⟨rfl,rfl,_⟩:=hl
    obtain ⟨⟨rfl,rfl,hi⟩,hl⟩:=hq
    simp only [sat] at hx
    obtain ⟨b,len,cap,h1,h2⟩:=hx
    obtain ⟨v,xs,h3,h4,h40,h41⟩:=S.memv k _ hm
    rw [h1] at h3;cases h3
    have hlx : l[i]? = some (l.getD i d):=by simp [List.getD,List.getElem?_eq_getElem hi]
    obtain ⟨h5,h6⟩:=h41 i _ hlx
    have hca : cellsAt w b (i * n') ((xs.drop (i * n')).take n'):=by
     have hc0 : cellsAt w b 0 xs:=fun j u hu=>by
      have:=h4.cells (g:=b) rfl j u hu
      unfold Addr.add at this
      split at this
      ·rename_i h0;subst h0;simpa using this
      ·simpa using this
     have:=cellsAt_take (j:=n') (cellsAt_drop (j:=i * n') hc0)
     rwa [Nat.zero_add] at this
    obtain ⟨y,h7,h8⟩:=run_load (P:=P) hsz hag hn hca (satL_of_fsatL (E:=E) _ _ h6) hl
    exact ⟨y,by rw [h2];exact h7,h8⟩
end
def isOK : SR → AV → Prop
 |.ok q out _,x=>q ∧ x = out
 |_,_=>False
inductive RV where
 |t (s : Nat)
 |c (s n : Nat) (ag : Bool)
def rvB (P : Program) : ResultVar → Option RV
 |.tmp t=>some (.t t)
 |.cell a t=>match sizeB P t,aggB P t with
  |some n,some ag=>if ag || n == 1 then some (.c a n ag) else none
  |_,_=>none
def rvL (P : Program) : List ResultVar → Option (List RV)
 |[]=>some []
 |x :: l=>match rvB P x,rvL P l with
  |some y,some m=>some (y :: m)
  |_,_=>none
def resOK (s : S) : List RV → List AV → Prop
 |[],xs=>xs = []
 |.t t :: l,xs=>match xs with
  |x :: xs=>x = lk s.tm t ∧ resOK s l xs
  |[]=>False
 |.c t n ag :: l,xs=>match xs with
  |x :: xs=>isOK (ldA (lm s.mem) n ag (lk s.tm t)) x ∧ resOK s l xs
  |[]=>False
def pack : List AV → AV
 |[a]=>a
 |l=>.tup l
def Fin (rv : List RV) (r : AV) : Ex → S → Prop
 |.e _,_=>False
 |_,s=>∃ xs,resOK s rv xs ∧ pack (xs.map (view (lm s.mem) 4)) = r
theorem mapM_list {P : Program} {w : World} {α : Type} {f : α → Sem Value} : ∀ (l : List α) (vs : List Value),l.length = vs.length → (∀ (i : Nat) x v,l[i]? = some x → vs[i]? = some v → (f x).run P w = .ok v w) → (l.mapM f).run P w = .ok vs w
 |[],[],_,_=>rfl
 |x :: l,[],h,_=>by simp at h
 |[],v :: vs,h,_=>by simp at h
 |x :: l,v :: vs,h,k=>by
  simp only [List.mapM_cons,Sem.run_bind]
  rw [k 0 x v rfl rfl]
  simp only [Result.andThen_ok,Sem.run_bind]
  rw [mapM_list l vs (by simpa using h) (fun i y u hy hu=>k (i + 1) y u (by simpa using hy) (by simpa using hu))]
  rfl
section
variable {P : Program} {G : Gl} {s : S} {E : Env} {a : Act} {w : World}
theorem res_run (hS : SatS G s E a w) : ∀ (l : List ResultVar) (rv : List RV) (xs : List AV),rvL P l = some rv → resOK s rv xs →
  ∃ vs : List Value,l.length = vs.length ∧ satT E w xs vs ∧ ∀ (i : Nat) x v,l[i]? = some x → vs[i]? = some v → ((match x with
  |.tmp t=>(pure (a.tmps.getD t undef) : Sem Value)
  |.cell a' t=>do loadVar t (← asAddr (a.tmps.getD a' undef)))).run P w = .ok v w
 |[],rv,xs,h1,h2=>by
  simp only [rvL,Option.some.injEq] at h1
  subst h1
  simp only [resOK] at h2
  subst h2
  exact ⟨[],rfl,rfl,fun i x v h=>by simp at h⟩
 |x :: l,rv,xs,h1,h2=>by
  simp only [rvL] at h1
  split at h1
  ·rename_i y m h3 h4
   simp only [Option.some.injEq] at h1
   subst h1
   cases x with
   |tmp t=>
    simp only [rvB,Option.some.injEq] at h3
    subst h3
    cases xs with
    |nil=>exact h2.elim
    |cons ax xs=>
     obtain ⟨h5,h6⟩:=h2
     obtain ⟨vs,h7,h8,h9⟩:=res_run hS l m xs h4 h6
     refine ⟨a.tmps.getD t undef :: vs,by simp [h7],?_,fun i x v hx hv=>?_⟩
     ·simp only [satT]
      exact ⟨_,_,rfl,by rw [h5];exact hS.st.tmv t,h8⟩
     ·cases i with
      |zero=>simp only [List.getElem?_cons_zero,Option.some.injEq] at hx hv;subst hx;subst hv;rfl
      |succ i=>exact h9 i x v (by simpa using hx) (by simpa using hv)
   |cell t ty=>
    simp only [rvB] at h3
    split at h3
    ·rename_i n ag h10 h11
     split at h3
     ·rename_i h12
      simp only [Option.some.injEq] at h3
      subst h3
      cases xs with
      |nil=>exact h2.elim
      |cons ax xs=>
       obtain ⟨h5,h6⟩:=h2
       obtain ⟨vs,h7,h8,h9⟩:=res_run hS l m xs h4 h6
       cases hl : ldA (lm s.mem) n ag (lk s.tm t) <;> rw [hl] at h5 <;> (try (exact h5.elim))
       obtain ⟨hq,hax⟩:=h5
       obtain ⟨z,hz,hsz⟩:=run_ldA hS.st h10 h11 h12 (hS.st.tmv t) hl hq
       refine ⟨z :: vs,by simp [h7],?_,fun i x v hx hv=>?_⟩
       ·simp only [satT]
        exact ⟨_,_,rfl,by rw [hax];exact hsz,h8⟩
       ·cases i with
        |zero=>
         simp only [List.getElem?_cons_zero,Option.some.injEq] at hx hv;subst hx;subst hv
         have hp : ∃ ad,a.tmps.getD t undef = .pointer (some ad):=by
          have:=hS.st.tmv t
          cases hk : lk s.tm t <;> rw [hk] at hl this <;> simp only [ldA] at hl <;> (try (cases hl;done)) <;> simp only [sat,fsat] at this
          ·obtain ⟨b,_,h⟩:=this;exact ⟨_,h⟩
          ·obtain ⟨b,len,cap,_,h⟩:=this;exact ⟨_,h⟩
          ·obtain ⟨b,o,vs,h,_⟩:=this;exact ⟨_,h⟩
          ·obtain ⟨b,o,vs,h,_⟩:=this;exact ⟨_,h⟩
         obtain ⟨ad,had⟩:=hp
         show (asAddr (a.tmps.getD t undef) >>= loadVar ty).run P w = _
         rw [had] at hz ⊢
         simpa [Instr.loadAt,Instr.sureAddr,asAddr] using hz
        |succ i=>exact h9 i x v (by simpa using hx) (by simpa using hv)
     ·cases h3
    ·cases h3
  ·cases h1
end
def initT : Nat → List AV → List (Nat × AV)
 |_,[]=>[]
 |i,a :: l=>(i,a) :: initT (i + 1) l
def init (args : List AV) : S:=⟨initT 0 args,[],0⟩
theorem lk_initT : ∀ (l : List AV) (i t : Nat),lk (initT i l) t = if t < i then .bad else (l[t - i]?).getD .bad
 |[],i,t=>by simp [initT,lk]
 |a :: l,i,t=>by
  simp only [initT,lk]
  split
  ·rename_i h;subst h;simp
  ·rename_i h
   rw [lk_initT l (i + 1) t]
   by_cases hlt : t < i
   ·rw [if_pos (by omega),if_pos hlt]
   ·rw [if_neg (by omega),if_neg hlt,show t - i = (t - (i + 1)) + 1 by omega,List.getElem?_cons_succ]
theorem fsatT_get {F : Nat → Prop} {w : World} : ∀ {aq : List AV} {vs : List Value},fsatT F w aq vs → aq.length = vs.length ∧ ∀ (i : Nat) a v,aq[i]? = some a → vs[i]? = some v → fsat F w a v
 |[],vs,h=>by simp only [fsatT] at h;subst h;exact ⟨rfl,fun i a v h=>by simp at h⟩
 |c :: cs,vs,h=>by
  simp only [fsatT] at h
  obtain ⟨x,xs,rfl,h1,h2⟩:=h
  obtain ⟨h3,h4⟩:=fsatT_get h2
  refine ⟨by simp [h3],fun i a v ha hv=>?_⟩
  cases i with
  |zero=>simp only [List.getElem?_cons_zero,Option.some.injEq] at ha hv;subst ha;subst hv;exact h1
  |succ i=>exact h4 i a v (by simpa using ha) (by simpa using hv)
structure Text (P : Program) (f : Nat) (c : C) (N np : Nat) (rv : List RV) : Prop where
 mk ::
 ex : ∃ fn fz, P.funcs[f]? = some fn ∧ fn.body.bind (trC P N fz) = some c ∧ (fn.name == "runtime.NumGoroutine") = false ∧ N = np + (fn.ntmps - np) ∧ rvL P fn.results.toList = some rv
section
variable {P : Program} {G : Gl} {tm : Nat → AV} {mem : Nat → Option Blk} {E : Env} {a : Act} {w : World}
theorem putD_other {D b : Nat} {x : Obj} (h : b ≠ D) : (w.putObj D x).heap[b]? = w.heap[b]?:=World.putObj_heap_other h
theorem putD_size {D : Nat} {x : Obj} : (w.putObj D x).heap.size = w.heap.size:=by simp [World.putObj]
theorem blkLoc_notD {B k : Nat} {blk : Blk} (h : blkSat E B w k blk) {b : Nat} (hb : blkLoc E k blk = some b) : ∀ x,w.heap[b]? ≠ some (Obj.deferred x):=by
 intro x hx
 cases blk with
 |oth y=>
  cases y with
  |fr vs tm=>cases hb
  |lp l rec tm=>cases hb;rw [h.2.1] at hx;cases hx
  |mp b' kd g=>
   obtain ⟨_,es,cl,h2,_⟩:=h
   cases hb;rw [h2] at hx;cases hx
  |si b' s pos=>cases hb;rw [h.2] at hx;cases hx
  |nm k b'=>cases hb
 |cells l=>have:=blkLoc_cells (.cells l) rfl h b hb _ hx;cases this
 |row s e n d f l=>have:=blkLoc_cells (.row s e n d f l) rfl h b hb _ hx;cases this
theorem Sat.shut (S : Sat G tm mem E a w) {D : Nat} {ds : List Deferred} (ha : a.defers = ⟨.collected D,#[]⟩ :: ds) :
  w.heap[D]? = some (Obj.deferred (some [])) ∧ Sat G tm mem E { a with defers:=ds } (w.putObj D (.deferred none)):=by
 obtain ⟨D',he,hn,hF,hD⟩ : MarkOK (max G.w0.heap.size G.wr.heap.size) E.F w ⟨.collected D,#[]⟩:=by
  rcases S.df _ (by rw [ha];exact List.mem_cons_self) with h | ⟨⟨fv,cap,h⟩,_⟩
  ·exact h
  ·cases h
 cases he
 refine ⟨hD,?_⟩
 have hFs : ∀ b,E.F b → (w.putObj D (.deferred none)).heap[b]? = w.heap[b]?:=fun b hb=>putD_other (fun e=>hF (e ▸ hb))
 have hm : ∀ k blk b,mem k = some blk → blkLoc E k blk = some b → (w.putObj D (.deferred none)).heap[b]? = w.heap[b]?:=fun k blk b hk hb=>putD_other (fun e=>blkLoc_notD (S.memv k blk hk) hb _ (e ▸ hD))
 have hwr : G.wr.heap.size ≤ D:=Nat.le_trans (Nat.le_max_right _ _) hn
 have hw0 : G.w0.heap.size ≤ D:=Nat.le_trans (Nat.le_max_left _ _) hn
 have hdn:=S.dn
 rw [ha] at hdn
 exact {
  ext:=⟨S.ext.os,S.ext.tape,S.ext.output,by rw [putD_size];exact S.ext.size,fun i hi=>(putD_other (by omega)).trans (S.ext.block i hi)⟩
  fz:=fun b hb=>by rw [putD_size];exact S.fz b hb
  tmv:=fun t=>sat_mono (Env.le.refl E) hFs _ _ (S.tmv t)
  sz:=S.sz
  memv:=fun k blk hk=>blkSat_mono (Env.le.refl E) hFs blk (fun b hb=>hm k blk b hk hb) (S.memv k blk hk)
  inj:=S.inj
  nF:=S.nF
  fresh:=S.fresh
  stampC:=S.stampC
  stampR:=S.stampR
  stampO:=S.stampO
  df:=fun d hd=>by
   rcases S.df d (by rw [ha];exact List.mem_cons_of_mem _ hd) with ⟨D2,rfl,h1,h2,h3⟩ | hd2
   ·refine .inl ⟨D2,rfl,h1,h2,(putD_other (fun e=>?_)).trans h3⟩
    subst e
    obtain ⟨_,_,hq⟩:=(List.pairwise_cons.1 hdn).1 _ hd rfl
    cases hq
   ·exact .inr hd2
  dn:=(List.pairwise_cons.1 hdn).2
  bt:=fun d hd=>by
   obtain ⟨h1,h2⟩:=S.bt d hd
   rw [ha] at h1
   rcases List.mem_cons.1 h1 with rfl | h
   ·obtain ⟨_,_,q⟩:=h2;cases q
   ·exact ⟨h,h2⟩
  kd:=⟨by rw [putD_size];exact S.kd.size,fun k x hk=>(putD_other (by have:=(Array.getElem?_eq_some_iff.1 hk).1;omega)).trans (S.kd.dfr k x hk),fun k r hk=>by
   obtain ⟨r',h'⟩:=S.kd.lps k r hk
   exact ⟨r',(putD_other (by have:=(Array.getElem?_eq_some_iff.1 hk).1;omega)).trans h'⟩⟩
  kF:=S.kF
  rd:=fun l hl=>by
   obtain ⟨r,hr⟩:=S.rd l hl
   exact ⟨r,(putD_other (fun e=>by subst e;rw [hD] at hr;cases hr)).trans hr⟩ }
theorem Sat.drop (hno : ∀ d,¬ G.dd d false) (S : Sat G tm mem E a w) {d : Deferred} {ds : List Deferred} (ha : a.defers = d :: ds) : Sat G tm mem E { a with defers:=ds } w:={
 ext:=S.ext
 fz:=S.fz
 tmv:=S.tmv
 sz:=S.sz
 memv:=S.memv
 inj:=S.inj
 nF:=S.nF
 fresh:=S.fresh
 stampC:=S.stampC
 stampR:=S.stampR
 stampO:=S.stampO
 df:=fun x hx=>S.df x (by rw [ha];exact List.mem_cons_of_mem _ hx)
 dn:=by have:=S.dn;rw [ha] at this;exact (List.pairwise_cons.1 this).2
 bt:=fun d hd=>absurd hd (hno d)
 kd:=S.kd
 kF:=S.kF
 rd:=S.rd }
theorem leavesM {n : Nat} {fn : Func} {R : Ending → World → Prop} (hdd : ∀ d,G.dd d true → NopD P d) (hno : ∀ d,¬ G.dd d false) : ∀ (ds : List Deferred) (E : Env) (a : Act) (w : World),a.defers = ds → Sat G tm mem E a w →
  (∀ E' w',Sat G tm mem E' { a with defers:=[] } w' → ∃ v,(results fn a.tmps).run P w' = .ok v w' ∧ R (.returned v) w') → LeavesInM Fence.wide n P fn a.tmps R ds .returning w
 |[],E,a,w,ha,S,h=>by
  have : { a with defers:=[] } = a:=by rw [← ha]
  rw [this] at h
  exact h E w S
 |d :: ds,E,a,w,ha,S,h=>by
  rcases S.df d (by rw [ha];exact List.mem_cons_self) with ⟨D,rfl,_,_,_⟩ | ⟨_,hn⟩
  ·obtain ⟨hD,S'⟩:=S.shut ha
   exact ⟨by simp,.inl ⟨D,_,rfl,run_takeDeferred hD,leavesM hdd hno ds E { a with defers:=ds } _ rfl S' h⟩⟩
  ·replace hn:=hdd _ hn
   obtain ⟨fv,cap,ht,hc⟩:=hn
   obtain ⟨f,args,h1,h2⟩:=hc w
   refine ⟨by simp,.inr ⟨(fun h=>by cases h),fv,cap,f,args,ht,h1,fun _ _=>trivial,?_⟩⟩
   refine (h2 (n - 1)).mono (fun e u' w' q=>?_)
   obtain ⟨⟨v,rfl⟩,rfl,hb⟩:=q
   exact leavesM hdd hno ds _ { a with defers:=ds } w' rfl ((S.drop hno ha).grow hb) h
end
def valOf (us : List Value) : Value:=if h : us.toArray.size = 1 then us.toArray[0] else .tuple us.toArray
theorem calls_of_W {P : Program} {f : Nat} {c : C} {N np : Nat} {rv : List RV} (hm : P.follows .mixedOrders = true) (ht : Text P f c N np rv) {s0 : S} {Q : Ex → S → Prop} (h : W P N c s0 Q)
  (hQ : ∀ e s,Q e s → (e = .n ∨ e = .r) ∧ ∃ xs,resOK s rv xs) {vs : List Value} (hlen : vs.length = np) {G : Gl} {E : Env} {w : World} (hG : G.N = N) (hrd : G.rd = none) (hdd : G.dd = AlwD P)
  (hS : ∀ a : Act,a.tmps.size = N → (∀ t v,vs[t]? = some v → a.tmps.getD t undef = v) → a.defers = [] → SatS G s0 E a w) (R : Ending → World → Prop)
  (hR : ∀ e s E' a' w' xs us,Q e s → resOK s rv xs → SatS G s E' a' w' → satT E' w' xs us → R (.returned (valOf us)) w') : Calls P f vs.toArray w R:=by
 obtain ⟨fn,fz,h1,h26,h3,h4,h5⟩:=ht.ex
 obtain ⟨code,h2,h6⟩ : ∃ code,fn.body = some code ∧ trC P N fz code = some c:=by
  cases hb : fn.body with
  |none=>rw [hb] at h26;cases h26
  |some code=>rw [hb] at h26;exact ⟨code,rfl,h26⟩
 refine callsIn_wide.1 (callsIn_of_wp_marks (F:=Fence.wide) (n:=0) h1 h2 trivial ?_)
 have key:=h hm code fz h6 none 0 G E { tmps:=vs.toArray ++ Array.replicate (fn.ntmps - vs.toArray.size) undef,defers:=[] } w ⟨hG,hrd,by rw [hdd];exact fun _ h=>h.2⟩ (hS _ (by simp;omega) (fun t v hv=>by
  have hlt : t < vs.length:=(List.getElem?_eq_some_iff.1 hv).1
  have h0 : vs[t] = v:=by rw [List.getElem?_eq_getElem hlt] at hv;simpa using hv
  simp [Array.getD_eq_getD_getElem?,Array.getElem?_append,hlt,h0]) rfl)
 refine wpIn_mono key (fun e a' w' hx=>?_)
 have fin : ∀ (e : Ex) (s : S) (E' : Env),Q e s → SatS G s E' a' w' → LeavesInM Fence.wide 0 P fn a'.tmps R a'.defers .returning w':=by
  intro e s E' hq hS'
  obtain ⟨_,xs,hx1⟩:=hQ e s hq
  refine leavesM (G:=G) (tm:=lk s.tm) (mem:=lm s.mem) (by rw [hdd];exact fun _ h=>h.2) (by rw [hdd];exact fun _ h=>by cases h.1) a'.defers E' a' w' rfl hS'.st (fun E2 w2 S2=>?_)
  have hS2 : SatS G s E2 { a' with defers:=[] } w2:=⟨S2,hS'.nx⟩
  obtain ⟨us,h7,h8,h9⟩:=res_run (P:=P) hS2 fn.results.toList rv xs h5 hx1
  have hrun : (results fn a'.tmps).run P w2 = .ok (valOf us) w2:=by
   unfold results
   rw [Sem.run_bind]
   have hmm : Sem.run P (fn.results.mapM fun
     |.tmp t=>(pure (a'.tmps.getD t undef) : Sem Value)
     |.cell x t=>do loadVar t (← asAddr (a'.tmps.getD x undef))) w2 = .ok us.toArray w2:=by
    obtain ⟨l,hl⟩ : ∃ l,fn.results = List.toArray l:=⟨fn.results.toList,by simp⟩
    rw [hl] at h7 h9 ⊢
    rw [List.mapM_toArray,Sem.run_map]
    rw [mapM_list l us (by simpa using h7) (fun i x v hx hv=>by
     have:=h9 i x v (by simpa using hx) hv
     cases x <;> exact this)]
    rfl
   exact (congrArg (fun z : Result (Array Value)=>z.andThen fun a w'=>Sem.run P (pure (if h : a.size = 1 then a[0] else Value.tuple a)) w') hmm)
  exact ⟨_,hrun,hR e s E2 _ w2 xs us hq hx1 hS2 h8⟩
 cases e <;> simp only [WX] at hx <;> first
  |exact hx.elim
  |(obtain ⟨s,E',hq,hS'⟩:=hx;exact fin _ s E' hq hS')
  |(obtain ⟨s,E',hq,hS'⟩:=hx;have:=(hQ _ _ hq).1;simp at this)
theorem pack_fsat {F : Nat → Prop} {w : World} {zs : List AV} {us : List Value} (hv : fsatT F w zs us) : fsat F w (pack zs) (valOf us):=by
 match zs,us,hv with
 |[],us,hv=>
  simp only [fsatT] at hv;subst hv
  simp only [pack,fsat]
  exact ⟨[],by simp [valOf],by simp [fsatT]⟩
 |[z],us,hv=>
  simp only [fsatT] at hv
  obtain ⟨y,ys,rfl,q1,rfl⟩:=hv
  simpa [pack,valOf] using q1
 |z1 :: z2 :: zs,us,hv=>
  have hv':=hv
  simp only [fsatT] at hv
  obtain ⟨y,ys,rfl,q1,y2,ys2,rfl,q2⟩:=hv
  simp only [pack,fsat]
  exact ⟨y :: y2 :: ys2,by simp [valOf],hv'⟩
theorem pack_sat {E : Env} {w : World} {zs : List AV} {us : List Value} (hv : satT E w zs us) : sat E w (pack zs) (valOf us):=by
 match zs,us,hv with
 |[],us,hv=>
  simp only [satT] at hv;subst hv
  simp only [pack,sat]
  exact ⟨[],by simp [valOf],by simp [satT]⟩
 |[z],us,hv=>
  simp only [satT] at hv
  obtain ⟨y,ys,rfl,q1,rfl⟩:=hv
  simpa [pack,valOf] using q1
 |z1 :: z2 :: zs,us,hv=>
  have hv':=hv
  simp only [satT] at hv
  obtain ⟨y,ys,rfl,q1,y2,ys2,rfl,q2⟩:=hv
  simp only [pack,sat]
  exact ⟨y :: y2 :: ys2,by simp [valOf],hv'⟩
theorem start_sat {D : Deferred → Bool → Prop} {A : Nat → Prop} {w : World} {args : List AV} {vs : List Value} {N : Nat} (hA : ∀ b,A b → b < w.heap.size) (hargs : fsatT A w args vs) (a : Act) (hz : a.tmps.size = N)
  (hv : ∀ t v,vs[t]? = some v → a.tmps.getD t undef = v) (hd : a.defers = []) (hno : ∀ d,¬ D d false:=by intro d h;cases h.1) : SatS ⟨A,w,N,none,w,A,D⟩ (init args) ⟨fun _=>none,fun _ _=>none,A⟩ a w:=by
 obtain ⟨hlen,hget⟩:=fsatT_get hargs
 exact ⟨{
   ext:=Below.refl _ _
   fz:=fun b hb=>⟨hA b hb,.inl hb⟩
   tmv:=fun t=>by
    simp only [init,lk_initT,Nat.not_lt_zero,if_false,Nat.sub_zero]
    cases ha : args[t]? with
    |none=>simp only [Option.getD_none,sat]
    |some av=>
     have hlt : t < args.length:=(List.getElem?_eq_some_iff.1 ha).1
     have hx : vs[t]? = some vs[t]:=List.getElem?_eq_getElem (by omega)
     simp only [Option.getD_some]
     rw [hv t _ hx]
     exact sat_of_fsat _ _ (hget t av _ ha hx)
   sz:=hz
   memv:=fun k blk hk=>by cases hk
   inj:=fun k k' blk blk' b hk=>by cases hk
   nF:=fun k blk b hk=>by cases hk
   fresh:=fun k hk=>⟨rfl,fun _=>rfl⟩
   stampC:=fun k l s hk=>by cases hk
   stampR:=fun k s e n α d f l hk=>by cases hk
   stampO:=fun k x hk=>by cases hk
   df:=fun d h=>by rw [hd] at h;cases h
   dn:=by rw [hd];exact .nil
   bt:=fun d hd=>absurd hd (hno d)
   kd:=KD.refl w
   kF:=fun b hb=>.inl hb
   rd:=fun l hl=>by cases hl },fun _ _=>rfl⟩
theorem fin_res {rv : List RV} {r : AV} {e : Ex} {s : S} (h : Fin rv r e s) : (e = .n ∨ e = .r) ∧ ∃ xs,resOK s rv xs:=by
 cases e with
 |e id=>exact h.elim
 |n=>obtain ⟨xs,h1,_⟩:=h;exact ⟨.inl rfl,xs,h1⟩
 |r=>obtain ⟨xs,h1,_⟩:=h;exact ⟨.inr rfl,xs,h1⟩
theorem resOK_det {s : S} : ∀ {rv : List RV} {xs ys : List AV},resOK s rv xs → resOK s rv ys → xs = ys
 |[],xs,ys,h,k=>by simp only [resOK] at h k;rw [h,k]
 |.t t :: l,xs,ys,h,k=>by
  cases xs with
  |nil=>exact h.elim
  |cons x xs=>
   cases ys with
   |nil=>exact k.elim
   |cons y ys=>rw [h.1,k.1,resOK_det h.2 k.2]
 |.c t n ag :: l,xs,ys,h,k=>by
  cases xs with
  |nil=>exact h.elim
  |cons x xs=>
   cases ys with
   |nil=>exact k.elim
   |cons y ys=>
    have h1:=h.1
    have k1:=k.1
    have e : x = y:=by
     cases hl : ldA (lm s.mem) n ag (lk s.tm t) <;> rw [hl] at h1 k1 <;> first
      |exact h1.elim
      |exact h1.2.trans k1.2.symm
    rw [e,resOK_det h.2 k.2]
theorem Fn_of_W {P : Program} {f : Nat} {c : C} {N np : Nat} {rv : List RV} (hm : P.follows .mixedOrders = true) (ht : Text P f c N np rv) {args : List AV} (hn : args.length = np) {r : AV} (h : W P N c (init args) (Fin rv r)) : Fn P f args r:=by
 refine ⟨?_,fun A w vs hA hargs=>?_⟩
 ·obtain ⟨fn,fz,h1,h26,h3,h4,h5⟩:=ht.ex
  cases hb : fn.body with
  |none=>rw [hb] at h26;cases h26
  |some code=>simp [hasBody,h1,hb,h3]
 have hlen:=(fsatT_get hargs).1
 refine calls_of_W hm ht h (fun e s hq=>fin_res hq) (by omega) (G:=⟨A,w,N,none,w,A,AlwD P⟩) (E:=⟨fun _=>none,fun _ _=>none,A⟩) rfl rfl rfl (fun a hz hv hd=>start_sat hA hargs a hz hv hd) _ ?_
 intro e s E' a' w' xs us hq hr hS h8
 have hq' : ∃ xs,resOK s rv xs ∧ pack (xs.map (view (lm s.mem) 4)) = r:=by
  cases e with
  |e id=>exact hq.elim
  |n=>exact hq
  |r=>exact hq
 obtain ⟨ys,hy,hx2⟩:=hq'
 obtain rfl:=resOK_det hr hy
 refine ⟨_,rfl,hS.st.ext,?_⟩
 have hF1 : ∀ b,E'.F b → (A b ∨ (w.heap.size ≤ b ∧ b < w'.heap.size)):=fun b hb=>by
  obtain ⟨q1,q2⟩:=hS.st.fz b hb
  rcases q2 with q2 | q2
  ·exact .inl q2
  ·exact .inr ⟨q2,q1⟩
 have hF2 : ∀ b,w.heap.size ≤ b → b < w'.heap.size → (A b ∨ (w.heap.size ≤ b ∧ b < w'.heap.size)):=fun b q1 q2=>.inr ⟨q1,q2⟩
 rw [← hx2]
 refine pack_fsat ?_
 clear hr hy hx2 hq
 induction xs generalizing us with
 |nil=>simp only [satT] at h8;subst h8;simp [fsatT]
 |cons x xs ih=>
  simp only [satT] at h8
  obtain ⟨y,ys,rfl,q1,q2⟩:=h8
  simp only [List.map_cons,fsatT]
  exact ⟨y,ys,rfl,view_satF hS.st hF1 hF2 4 x y q1,ih ys q2⟩
mutual
def onlyB (bs : List Nat) : AV → Bool
 |.v _=>true
 |.fp _ _=>true
 |.sl _ _ _ _=>true
 |.clo _ _ _=>true
 |.fm _ _=>true
 |.bad=>true
 |.own k _=>has bs k
 |.row k _=>has bs k
 |.roff k _ _ _ _=>has bs k
 |.rsf k _ _ _=>has bs k
 |.agg cs=>onlyL bs cs
 |.tup cs=>onlyL bs cs
 |.gd _ a=>onlyB bs a
 |.fq cs _=>onlyL bs cs
 |.cq _ fi ca=>onlyL bs fi && onlyL bs ca
def onlyL (bs : List Nat) : List AV → Bool
 |[]=>true
 |a :: r=>onlyB bs a && onlyL bs r
end
def Env.res (E : Env) (bs : List Nat) : Env:=⟨fun k=>if has bs k then E.b k else none,fun k s=>if has bs k then E.h k s else none,E.F⟩
mutual
theorem sat_res {E : Env} {w : World} {bs : List Nat} : ∀ (a : AV) (y : Value),onlyB bs a = true → sat E w a y → sat (E.res bs) w a y
 |.v x,y,_,h=>h
 |.fp cs off,y,_,h=>by simp only [sat] at h ⊢;exact h
 |.sl n d f l,y,_,h=>by simp only [sat] at h ⊢;exact h
 |.clo g fi ca,y,_,h=>by simp only [sat] at h ⊢;exact h
 |.fm kd g,y,_,h=>by simp only [sat] at h ⊢;exact h
 |.bad,y,_,h=>h
 |.own k off,y,ho,h=>by
  simp only [onlyB] at ho
  simp only [sat,Env.res,ho,if_true] at h ⊢;exact h
 |.row k s,y,ho,h=>by
  simp only [onlyB] at ho
  simp only [sat,Env.res,ho,if_true] at h ⊢;exact h
 |.roff k s n i off,y,ho,h=>by
  simp only [onlyB] at ho
  simp only [sat,Env.res,ho,if_true] at h ⊢;exact h
 |.rsf k s n i,y,ho,h=>by
  simp only [onlyB] at ho
  simp only [sat,Env.res,ho,if_true] at h ⊢;exact h
 |.agg cs,y,ho,h=>by
  simp only [onlyB] at ho
  simp only [sat] at h ⊢
  obtain ⟨vs,h1,h2⟩:=h
  exact ⟨vs,h1,satL_res cs vs ho h2⟩
 |.tup cs,y,ho,h=>by
  simp only [onlyB] at ho
  simp only [sat] at h ⊢
  obtain ⟨vs,h1,h2⟩:=h
  exact ⟨vs,h1,satT_res cs vs ho h2⟩
 |.fq cs off,y,ho,h=>by
  simp only [onlyB] at ho
  simp only [sat] at h ⊢
  obtain ⟨b,o,vs,h1,h2,h3,h4⟩:=h
  exact ⟨b,o,vs,h1,h2,h3,satL_res cs vs ho h4⟩
 |.cq g fi ca,y,ho,h=>by
  simp only [onlyB,Bool.and_eq_true] at ho
  simp only [sat] at h ⊢
  obtain ⟨fv,cv,h1,h2,h3⟩:=h
  exact ⟨fv,cv,h1,satT_res fi fv ho.1 h2,satT_res ca cv ho.2 h3⟩
 |.gd p a,y,ho,h=>by
  simp only [onlyB] at ho
  simp only [sat] at h ⊢
  exact ⟨fun hp=>sat_res a y ho (h.1 hp),h.2⟩
theorem satL_res {E : Env} {w : World} {bs : List Nat} : ∀ (aq : List AV) (vs : List Value),onlyL bs aq = true → satL E w aq vs → satL (E.res bs) w aq vs
 |[],vs,_,h=>h
 |c :: cs,vs,ho,h=>by
  simp only [onlyL,Bool.and_eq_true] at ho
  simp only [satL] at h ⊢
  obtain ⟨x,xs,h1,h2,h3,h4⟩:=h
  exact ⟨x,xs,h1,h2,sat_res c x ho.1 h3,satL_res cs xs ho.2 h4⟩
theorem satT_res {E : Env} {w : World} {bs : List Nat} : ∀ (aq : List AV) (vs : List Value),onlyL bs aq = true → satT E w aq vs → satT (E.res bs) w aq vs
 |[],vs,_,h=>h
 |c :: cs,vs,ho,h=>by
  simp only [onlyL,Bool.and_eq_true] at ho
  simp only [satT] at h ⊢
  obtain ⟨x,xs,h1,h3,h4⟩:=h
  exact ⟨x,xs,h1,sat_res c x ho.1 h3,satT_res cs xs ho.2 h4⟩
end
def keepM (bs : List Nat) : List (Nat × Blk) → List (Nat × Blk)
 |[]=>[]
 |(k,b) :: r=>if has bs k then (k,b) :: keepM bs r else keepM bs r
def okTm (bs : List Nat) : List (Nat × AV) → Bool
 |[]=>true
 |(_,a) :: r=>onlyB bs a && okTm bs r
def okBlk (bs : List Nat) : Blk → Bool
 |.cells l=>onlyL bs l
 |.row _ _ _ _ _ _=>true
 |.oth (.fr _ tm)=>okTm bs tm
 |.oth (.lp _ _ tm)=>okTm bs tm
 |.oth (.mp _ _ _)=>true
 |.oth (.si _ _ _)=>true
 |.oth (.nm k _)=>has bs k
def okMem (bs : List Nat) : List (Nat × Blk) → Bool
 |[]=>true
 |(k,b) :: r=>(if has bs k then okBlk bs b else true) && okMem bs r
def allLt (n : Nat) : List Nat → Bool
 |[]=>true
 |k :: r=>decide (k < n) && allLt n r
theorem lm_keepM (bs : List Nat) (k : Nat) : ∀ (m : List (Nat × Blk)),lm (keepM bs m) k = if has bs k then lm m k else none
 |[]=>by simp [keepM,lm]
 |(s,b) :: m=>by
  simp only [keepM]
  split
  ·rename_i h
   simp only [lm,lm_keepM bs k m]
   split
   ·rename_i h2;subst h2;rw [if_pos h]
   ·rfl
  ·rename_i h
   simp only [lm,lm_keepM bs k m]
   by_cases h2 : k = s
   ·subst h2;rw [if_neg h,if_neg h]
   ·simp only [if_neg h2]
theorem okMem_spec {bs : List Nat} {k : Nat} {b : Blk} : ∀ {m : List (Nat × Blk)},okMem bs m = true → has bs k = true → lm m k = some b → okBlk bs b = true
 |[],_,_,h=>by simp [lm] at h
 |(s,c) :: m,h,hk,hl=>by
  simp only [okMem,Bool.and_eq_true] at h
  simp only [lm] at hl
  split at hl
  ·rename_i h2;subst h2
   simp only [Option.some.injEq] at hl;subst hl
   have:=h.1
   rwa [if_pos hk] at this
  ·exact okMem_spec h.2 hk hl
theorem okTm_spec {bs : List Nat} {t : Nat} : ∀ {tm : List (Nat × AV)},okTm bs tm = true → onlyB bs (lk tm t) = true
 |[],_=>by simp [lk,onlyB]
 |(s,c) :: m,h=>by
  simp only [okTm,Bool.and_eq_true] at h
  simp only [lk]
  split
  ·exact h.1
  ·exact okTm_spec h.2
theorem allLt_spec {n k : Nat} : ∀ {l : List Nat},allLt n l = true → has l k = true → k < n
 |[],_,h=>by simp [has] at h
 |x :: l,h,hk=>by
  simp only [allLt,Bool.and_eq_true,decide_eq_true_eq] at h
  rw [has_mem] at hk
  rcases List.mem_cons.1 hk with rfl | hk
  ·exact h.1
  ·exact allLt_spec h.2 (has_mem.2 hk)
def S.norm (ks bs : List Nat) (nx : Nat) (s : S) : S:=⟨ks.map fun t=>(t,lk s.tm t),keepM bs s.mem,nx⟩
def normOK (ks bs : List Nat) (nx : Nat) (s : S) : Bool:=okTm bs (ks.map fun t=>(t,lk s.tm t)) && okMem bs s.mem && allLt nx bs
theorem le_norm {s : S} (ks bs : List Nat) (nx : Nat) (h : normOK ks bs nx s = true) : le s (s.norm ks bs nx):=by
 simp only [normOK,Bool.and_eq_true] at h
 obtain ⟨⟨h1,h2⟩,h3⟩:=h
 intro G E a w hS
 have hb : ∀ k,has bs k = true → (E.res bs).b k = E.b k:=fun k hk=>by simp [Env.res,hk]
 have hh : ∀ k,has bs k = true → ∀ s,(E.res bs).h k s = E.h k s:=fun k hk s=>by simp [Env.res,hk]
 have hlm : ∀ k blk,lm (keepM bs s.mem) k = some blk → has bs k = true ∧ lm s.mem k = some blk:=fun k blk hk=>by
  rw [lm_keepM] at hk
  split at hk
  ·rename_i h;exact ⟨h,hk⟩
  ·cases hk
 refine ⟨E.res bs,⟨?_,fun k hk=>?_⟩⟩
 ·exact {
   ext:=hS.st.ext
   fz:=hS.st.fz
   tmv:=fun t=>by
    refine sat_res _ _ (okTm_spec h1) ?_
    rcases lk_keep ks (lk s.tm) t with h | h
    ·show sat E w (lk (ks.map fun t=>(t,lk s.tm t)) t) _
     rw [h];exact hS.st.tmv t
    ·show sat E w (lk (ks.map fun t=>(t,lk s.tm t)) t) _
     rw [h];simp only [sat]
   sz:=hS.st.sz
   memv:=fun k blk hk=>by
    obtain ⟨hk1,hk2⟩:=hlm k blk hk
    have hbs:=hS.st.memv k blk hk2
    have ho:=okMem_spec h2 hk1 hk2
    cases blk with
    |cells l=>
     obtain ⟨b,cs,T,q1,q2,q3,q4⟩:=hbs
     exact ⟨b,cs,T,by rw [hb k hk1];exact q1,q2,q3,satL_res _ _ (by simpa only [okBlk] using ho) q4⟩
    |row s' e n d f l=>
     obtain ⟨v,xs,q1,q2,q3,q4⟩:=hbs
     exact ⟨v,xs,by rw [hh k hk1];exact q1,q2,q3,q4⟩
    |oth x=>
     cases x with
     |fr vs tm=>exact fun t=>sat_res _ _ (okTm_spec ho) (hbs t)
     |lp l rec tm=>exact ⟨hbs.1,hbs.2.1,fun t=>sat_res _ _ (okTm_spec ho) (hbs.2.2 t)⟩
     |mp b kd g=>exact hbs
     |si b s pos=>exact hbs
     |nm k' b=>exact (hb k' ho).trans hbs
   inj:=fun k k' blk blk' b hk hk' hbl hbl'=>by
    obtain ⟨hk1,hk2⟩:=hlm k blk hk
    obtain ⟨hk1',hk2'⟩:=hlm k' blk' hk'
    rw [blkLoc_same (hb k hk1) (hh k hk1)] at hbl
    rw [blkLoc_same (hb k' hk1') (hh k' hk1')] at hbl'
    exact hS.st.inj k k' blk blk' b hk2 hk2' hbl hbl'
   nF:=fun k blk b hk hbl=>by
    obtain ⟨hk1,hk2⟩:=hlm k blk hk
    rw [blkLoc_same (hb k hk1) (hh k hk1)] at hbl
    exact hS.st.nF k blk b hk2 hbl
   fresh:=fun k hk=>by
    by_cases hx : has bs k = true
    ·rw [show lm (s.norm ks bs nx).mem k = lm s.mem k by show lm (keepM bs s.mem) k = _;rw [lm_keepM,if_pos hx]] at hk
     obtain ⟨q1,q2⟩:=hS.st.fresh k hk
     exact ⟨by rw [hb k hx];exact q1,fun s=>by rw [hh k hx];exact q2 s⟩
    ·exact ⟨by simp [Env.res,hx],fun s=>by simp [Env.res,hx]⟩
   stampC:=fun k l s' hk=>by
    obtain ⟨hk1,hk2⟩:=hlm k _ hk
    rw [hh k hk1];exact hS.st.stampC k l s' hk2
   stampR:=fun k s' e n α d f l hk=>by
    obtain ⟨hk1,hk2⟩:=hlm k _ hk
    have:=hS.st.stampR k s' e n α d f l hk2
    exact ⟨by rw [hb k hk1];exact this.1,fun s'' hs=>by rw [hh k hk1];exact this.2 s'' hs⟩
   stampO:=fun k x hk=>by
    obtain ⟨hk1,hk2⟩:=hlm k _ hk
    have:=hS.st.stampO k x hk2
    exact ⟨by rw [hb k hk1];exact this.1,fun s''=>by rw [hh k hk1];exact this.2 s''⟩
   df:=hS.st.df
   dn:=hS.st.dn
   bt:=hS.st.bt
   kd:=hS.st.kd
   kF:=hS.st.kF
   rd:=hS.st.rd }
 ·show lm (keepM bs s.mem) k = none
  rw [lm_keepM]
  split
  ·rename_i hx
   have hk' : nx ≤ k:=hk
   have:=allLt_spec h3 hx;omega
  ·rfl
theorem le_to {s s' : S} (ks bs : List Nat) (nx : Nat) (h : normOK ks bs nx s = true) (he : s.norm ks bs nx = s') : le s s':=he ▸ le_norm ks bs nx h
theorem le_adopt {s : S} (t T n : Nat) {α : Type} (d : α) (f : α → List AV) (hn : 0 < n) (ht : lk s.tm t = .v (.slice none 0 0)) :
  le s ⟨(t,.row s.nx 0) :: s.tm,(s.nx,.row 0 T n d f []) :: s.mem,s.nx + 1⟩:=by
 intro G E a w hS
 have hfr:=hS.st.fresh s.nx (hS.nx _ (Nat.le_refl _))
 let E' : Env:=⟨E.b,fun k s'=>if k = s.nx ∧ s' = 0 then some (none,0,0) else E.h k s',E.F⟩
 have hE : E.le E':=⟨fun _ _ h=>h,fun k s' x h=>by
  by_cases hk : k = s.nx ∧ s' = 0
  ·obtain ⟨rfl,rfl⟩:=hk
   rw [hfr.2 0] at h;cases h
  ·simp only [E',if_neg hk];exact h,fun _ h=>h⟩
 have hold : ∀ k,k ≠ s.nx → E'.b k = E.b k ∧ ∀ s',E'.h k s' = E.h k s':=fun k hk=>⟨rfl,fun s'=>by simp only [E'];rw [if_neg (fun h=>hk h.1)]⟩
 have h0 : E'.h s.nx 0 = some (none,0,0):=by simp [E']
 have hlm : ∀ k,lm ((s.nx,Blk.row 0 T n d f []) :: s.mem) k = upd (lm s.mem) s.nx (some (.row 0 T n d f [])) k:=fun k=>by simp only [lm,upd]
 refine ⟨E',⟨?_,fun k hk=>?_⟩⟩
 ·have step:=hS.st.step s.nx (.row 0 T n d f []) E' w hE (fun _ _=>rfl) (KeepsOthers.refl w) hS.st.ext hS.st.fz hold
   (fun k blk b hk hm hb=>⟨rfl,hS.st.nF k blk b hm hb⟩)
   ⟨(none,0,0),[],h0,⟨by simp,.inl ⟨rfl,rfl⟩⟩,hn,fun i x hx=>by simp at hx⟩
   (fun b hb=>by simp [blkLoc,h0,hv,Value.ownBlock] at hb)
   (fun l s' h=>by cases h)
   (fun s1 e n' α' d' f' l' h=>by
    cases h
    exact ⟨hfr.1,fun s' hs=>by simp only [E'];rw [if_neg (fun h=>by omega)];exact hfr.2 s'⟩)
  have hlt : t < G.N ∨ ¬ t < G.N:=Nat.lt_or_ge t G.N |>.imp id (by omega)
  have e1 : lm ((s.nx,Blk.row 0 T n d f []) :: s.mem) = upd (lm s.mem) s.nx (some (.row 0 T n d f [])):=funext hlm
  show Sat G (lk ((t,.row s.nx 0) :: s.tm)) (lm ((s.nx,Blk.row 0 T n d f []) :: s.mem)) E' a w
  rw [e1]
  exact { step with
   tmv:=fun t'=>by
    simp only [lk]
    split
    ·rename_i h;subst h
     have:=hS.st.tmv t'
     rw [ht] at this
     simp only [sat] at this ⊢
     exact ⟨_,h0,by rw [this];rfl⟩
    ·exact step.tmv t' }
 ·have hk' : s.nx + 1 ≤ k:=hk
  show lm ((s.nx,Blk.row 0 T n d f []) :: s.mem) k = none
  simp only [lm]
  rw [if_neg (by omega)]
  exact hS.nx k (by omega)
section
variable {m : Nat → Option Blk} {n : Nat}
theorem ids_v {x : Value} : ids m (n + 1) (.v x) = []:=by simp [ids]
theorem ids_fp {cs : List AV} {o : Nat} : ids m (n + 1) (.fp cs o) = []:=by simp [ids]
theorem ids_sl {k : Nat} {α : Type} {d : α} {f : α → List AV} {l : List α} : ids m (n + 1) (.sl k d f l) = []:=by simp [ids]
theorem ids_clo {g : Nat} {a b : List AV} : ids m (n + 1) (.clo g a b) = []:=by simp [ids]
theorem ids_bad : ids m (n + 1) .bad = []:=by simp [ids]
theorem ids_gd {p : Path} {a : AV} : ids m (n + 1) (.gd p a) = ids m n a:=by simp [ids]
theorem ids_agg {cs : List AV} : ids m (n + 1) (.agg cs) = cs.flatMap (ids m n):=by simp [ids]
theorem ids_tup {cs : List AV} : ids m (n + 1) (.tup cs) = cs.flatMap (ids m n):=by simp [ids]
theorem ids_row {k s : Nat} : ids m (n + 1) (.row k s) = [k]:=by simp [ids]
theorem ids_rsf {k s i j : Nat} : ids m (n + 1) (.rsf k s i j) = [k]:=by simp [ids]
theorem ids_roff {k s i j o : Nat} : ids m (n + 1) (.roff k s i j o) = [k]:=by simp [ids]
def idsB (m : Nat → Option Blk) (n : Nat) : Option Blk → List Nat
 |some (.cells l)=>l.flatMap (ids m n)
 |_=>[]
theorem ids_own {k o : Nat} : ids m (n + 1) (.own k o) = k :: idsB m n (m k):=by
 simp only [ids]
 cases m k with
 |none=>rfl
 |some b=>cases b <;> rfl
theorem ids_fq {cs : List AV} {o : Nat} : ids m (n + 1) (.fq cs o) = cs.flatMap (ids m n):=by simp [ids]
theorem ids_cq {g : Nat} {a b : List AV} : ids m (n + 1) (.cq g a b) = a.flatMap (ids m n) ++ b.flatMap (ids m n):=by simp [ids]
theorem ids_zero {a : AV} : ids m 0 a = []:=by simp [ids]
theorem idsB_cells {l : List AV} : idsB m n (some (.cells l)) = l.flatMap (ids m n):=rfl
theorem idsB_row {s e k : Nat} {α : Type} {d : α} {f : α → List AV} {l : List α} : idsB m n (some (.row s e k d f l)) = []:=rfl
theorem idsB_none : idsB m n none = []:=rfl
theorem view_v {x : Value} : view m (n + 1) (.v x) = .v x:=by simp [view,frzB]
theorem view_fp {cs : List AV} {o : Nat} : view m (n + 1) (.fp cs o) = .fp cs o:=by simp [view,frzB]
theorem view_sl {k : Nat} {α : Type} {d : α} {f : α → List AV} {l : List α} : view m (n + 1) (.sl k d f l) = .sl k d f l:=by simp [view,frzB]
theorem view_clo {g : Nat} {a b : List AV} : view m (n + 1) (.clo g a b) = .clo g a b:=by simp [view,frzB]
theorem view_fm {kd : Nat} {g : Value → Option Value} : view m (n + 1) (.fm kd g) = .fm kd g:=by simp [view,frzB]
theorem ids_fm {kd : Nat} {g : Value → Option Value} : ids m (n + 1) (.fm kd g) = []:=by simp [ids]
theorem view_fq {cs : List AV} {o : Nat} : view m (n + 1) (.fq cs o) = .fp (cs.map (view m n)) o:=by simp [view]
theorem view_cq {g : Nat} {a b : List AV} : view m (n + 1) (.cq g a b) = .clo g (a.map (view m n)) (b.map (view m n)):=by simp [view]
theorem view_agg {cs : List AV} : view m (n + 1) (.agg cs) = .agg (cs.map (view m n)):=by simp [view]
def viewC (m : Nat → Option Blk) (n o : Nat) : Option Blk → AV
 |some (.cells l)=>.fp (l.map (view m n)) o
 |_=>.bad
theorem view_own {k o : Nat} : view m (n + 1) (.own k o) = viewC m n o (m k):=by
 simp only [view]
 cases m k with
 |none=>rfl
 |some b=>cases b <;> rfl
theorem viewC_cells {l : List AV} {o : Nat} : viewC m n o (some (.cells l)) = .fp (l.map (view m n)) o:=rfl
def viewR (s : Nat) : Option Blk → AV
 |some (.row s' _ n d f l)=>if s = s' then .sl n d f l else .bad
 |_=>.bad
theorem view_row {k s : Nat} : view m (n + 1) (.row k s) = viewR s (m k):=by
 simp only [view]
 cases m k with
 |none=>rfl
 |some b=>cases b <;> rfl
theorem viewR_row {s s' e k : Nat} {α : Type} {d : α} {f : α → List AV} {l : List α} : viewR s (some (.row s' e k d f l)) = if s = s' then .sl k d f l else .bad:=rfl
end
theorem wrap64 {x : Int} (h : -9223372036854775808 ≤ x ∧ x ≤ 9223372036854775807) : IntKind.wrap .i64 x = x:=by
 have e : IntKind.wrap .i64 x = if x % 18446744073709551616 ≥ 9223372036854775808 then x % 18446744073709551616 - 18446744073709551616 else x % 18446744073709551616:=by
  simp [IntKind.wrap,IntKind.signed,IntKind.bits]
 rw [e]
 split <;> omega
def evS (tm : List (Nat × AV)) (x : Operand) : AV:=strip (ev tm x)
def evL (tm : List (Nat × AV)) : List Operand → List AV
 |[]=>[]
 |x :: l=>evS tm x :: evL tm l
def evP (tm : List (Nat × AV)) : List (Nat × Nat × Operand) → Pts
 |[]=>[]
 |(o,n,x) :: l=>(o,n,cellsOf (evS tm x)) :: evP tm l
def evO (tm : List (Nat × AV)) : Option Operand → Option AV
 |none=>none
 |some x=>some (evS tm x)
theorem evL_eq (tm : List (Nat × AV)) : ∀ (l : List Operand),l.map (fun x=>strip (ev tm x)) = evL tm l
 |[]=>rfl
 |x :: l=>by simp only [List.map_cons,evL,evL_eq tm l];rfl
theorem evP_eq (tm : List (Nat × AV)) : ∀ (l : List (Nat × Nat × Operand)),l.map (fun p=>(p.1,p.2.1,cellsOf (strip (ev tm p.2.2)))) = evP tm l
 |[]=>rfl
 |(o,n,x) :: l=>by simp only [List.map_cons,evP,evP_eq tm l];rfl
theorem evO_eq (tm : List (Nat × AV)) (l : Option Operand) : l.map (fun x=>strip (ev tm x)) = evO tm l:=by cases l <;> rfl
theorem evS_tmp {tm : List (Nat × AV)} {t : Nat} : evS tm (.tmp t) = strip (lk tm t):=rfl
theorem evS_const {tm : List (Nat × AV)} {v : Value} : evS tm (.const v) = .v v:=rfl
theorem evS_func {tm : List (Nat × AV)} {f : Nat} : evS tm (.func f) = .clo f [] []:=rfl
theorem evS_global {tm : List (Nat × AV)} {g : Nat} : evS tm (.global g) = .v (.pointer (some ⟨g,0,none⟩)):=rfl
theorem ev_tmp {tm : List (Nat × AV)} {t : Nat} : ev tm (.tmp t) = lk tm t:=rfl
theorem ev_const {tm : List (Nat × AV)} {v : Value} : ev tm (.const v) = .v v:=rfl
theorem ev_func {tm : List (Nat × AV)} {f : Nat} : ev tm (.func f) = .clo f [] []:=rfl
theorem ev_global {tm : List (Nat × AV)} {g : Nat} : ev tm (.global g) = .v (.pointer (some ⟨g,0,none⟩)):=rfl
theorem strip_v {x : Value} : strip (.v x) = .v x:=rfl
theorem strip_own {k o : Nat} : strip (.own k o) = .own k o:=rfl
theorem strip_row {k s : Nat} : strip (.row k s) = .row k s:=rfl
theorem strip_rsf {k s n i : Nat} : strip (.rsf k s n i) = .rsf k s n i:=rfl
theorem strip_roff {k s n i o : Nat} : strip (.roff k s n i o) = .roff k s n i o:=rfl
theorem strip_fp {cs : List AV} {o : Nat} : strip (.fp cs o) = .fp cs o:=rfl
theorem strip_sl {n : Nat} {α : Type} {d : α} {f : α → List AV} {l : List α} : strip (.sl n d f l) = .sl n d f l:=rfl
theorem strip_agg {cs : List AV} : strip (.agg cs) = .agg cs:=rfl
theorem strip_tup {cs : List AV} : strip (.tup cs) = .tup cs:=rfl
theorem strip_clo {g : Nat} {a b : List AV} : strip (.clo g a b) = .clo g a b:=rfl
theorem strip_fq {cs : List AV} {o : Nat} : strip (.fq cs o) = .fq cs o:=rfl
theorem strip_cq {g : Nat} {a b : List AV} : strip (.cq g a b) = .cq g a b:=rfl
theorem strip_gd {p : Path} {a : AV} : strip (.gd p a) = a:=rfl
theorem strip_fm {kd : Nat} {g : Value → Option Value} : strip (.fm kd g) = .fm kd g:=rfl
theorem strip_bad : strip .bad = .bad:=rfl
def touchL (m : Nat → Option Blk) (tm : List (Nat × AV)) : List Operand → List Nat
 |[]=>[]
 |x :: l=>ids m 7 (ev tm x) ++ touchL m tm l
theorem dT_call {s : S} {f : Nat} {xs : List Operand} : dT s (.call f xs) = touchL (lm s.mem) s.tm xs:=by
 unfold dT touch
 simp only [R.opds]
 induction xs with
 |nil=>rfl
 |cons x l ih=>simp only [List.flatMap_cons,touchL,ih]
theorem dT_callv {s : S} {x : Operand} {xs : List Operand} : dT s (.callv x xs) = touchL (lm s.mem) s.tm (x :: xs):=by
 unfold dT touch
 simp only [R.opds]
 induction (x :: xs) with
 |nil=>rfl
 |cons x l ih=>simp only [List.flatMap_cons,touchL,ih]
theorem idH_own {k o : Nat} : idH (.own k o) = [k]:=rfl
theorem idH_row {k o : Nat} : idH (.row k o) = [k]:=rfl
theorem idH_rsf {k a b c : Nat} : idH (.rsf k a b c) = [k]:=rfl
theorem idH_roff {k a b c d : Nat} : idH (.roff k a b c d) = [k]:=rfl
theorem idH_v {v : Value} : idH (.v v) = []:=rfl
theorem idH_fp {cs : List AV} {o : Nat} : idH (.fp cs o) = []:=rfl
theorem idH_sl {n : Nat} {α : Type} {d : α} {f : α → List AV} {l : List α} : idH (.sl n d f l) = []:=rfl
theorem idH_fq {cs : List AV} {o : Nat} : idH (.fq cs o) = []:=rfl
theorem idH_agg {cs : List AV} : idH (.agg cs) = []:=rfl
theorem idH_clo {g : Nat} {a b : List AV} : idH (.clo g a b) = []:=rfl
theorem idH_fm {kd : Nat} {g : Value → Option Value} : idH (.fm kd g) = []:=rfl
theorem idH_bad : idH .bad = []:=rfl
section
variable {s : S} {p : Path} {x y z : Operand} {xs ys : List Operand} {T n k g len b : Nat} {ag : Bool}
theorem dT_mv : dT s (.mv x) = []:=rfl
theorem dT_pick : dT s (.pick k x y) = []:=rfl
theorem dT_box : dT s (.box ag T x) = []:=rfl
theorem dT_alc {v : Value} : dT s (.alc T v) = []:=rfl
theorem dT_bld {v : Value} {ps : List (Nat × Nat × Operand)} : dT s (.bld v ps) = []:=rfl
theorem dT_bls {v : Value} {ps : List (Nat × Nat × Operand)} : dT s (.bls T n len v ps) = []:=rfl
theorem dT_nilc : dT s (.nilc x) = []:=rfl
theorem dT_bin {op : BinOp} : dT s (.bin T op x y) = []:=rfl
theorem dT_eqb : dT s (.eqb T ag x y) = []:=rfl
theorem dT_un {op : UnOp} : dT s (.un op x) = []:=rfl
theorem dT_cvt {kk : IntKind} : dT s (.cvt kk x) = []:=rfl
theorem dT_mkf : dT s (.mkf g xs ys) = []:=rfl
theorem dT_mks {v : Value} : dT s (.mks T n b v x y) = []:=rfl
theorem dT_slc {lo hi : Option Operand} : dT s (.slc T n x lo hi) = idH (evS s.tm x):=rfl
theorem dT_sla : dT s (.sla T len n x) = []:=rfl
theorem dT_fa : dT s (.fa k x) = []:=rfl
theorem dT_fl : dT s (.fl k n ag x) = []:=rfl
theorem dT_iaa : dT s (.iaa len n x y) = []:=rfl
theorem dT_idx : dT s (.idx len n ag x y) = []:=rfl
theorem dT_ext : dT s (.ext k x) = []:=rfl
theorem dT_mx : dT s (.mx xs) = []:=rfl
theorem dT_mn : dT s (.mn xs) = []:=rfl
theorem dT_mlk {T kd : Nat} {z : Value} {m k : Operand} {ok : Bool} : dT s (.mlk T kd z m k ok) = []:=rfl
theorem dT_clr {T n : Nat} {z : Value} {x : Operand} : dT s (.clr T n z x) = idH (evS s.tm x):=rfl
theorem dT_dead : dT s .dead = []:=rfl
theorem dT_isn {neg : Bool} : dT s (.isn neg x) = []:=rfl
theorem dT_isp {neg : Bool} : dT s (.isp neg x) = []:=rfl
theorem dT_slen : dT s (.slen x) = []:=rfl
theorem dT_sidx : dT s (.sidx x y) = []:=rfl
theorem dT_ld : dT s (.ld T n ag x) = idH (evS s.tm x):=rfl
theorem dT_st : dT s (.st T n x y) = idH (evS s.tm x):=rfl
theorem dT_ia : dT s (.ia n x y) = idH (evS s.tm x):=rfl
theorem dT_len : dT s (.len x) = idH (evS s.tm x):=rfl
theorem dT_app : dT s (.app T n b x y) = idH (evS s.tm x) ++ idH (evS s.tm y):=rfl
theorem sp_mv : stepP s p (.mv x) = .ok True (evS s.tm x) none:=rfl
theorem sp_pick {c : Nat} : stepP s p (.pick c x y) = pickQ p c (lk s.tm c) (ev s.tm x) (ev s.tm y) (strip (lk s.tm c)) (strip (ev s.tm x)) (strip (ev s.tm y)):=rfl
theorem sp_box {f : Bool} : stepP s p (.box f T x) = newC s.nx f (cellsOf (evS s.tm x)):=rfl
theorem sp_alc {v : Value} : stepP s p (.alc T v) = newC s.nx false (cellsV v):=rfl
theorem sp_bld {v : Value} {ps : List (Nat × Nat × Operand)} : stepP s p (.bld v ps) = bldB (evP s.tm ps) (cellsV v):=by
 show bldA v (ps.map fun q=>(q.1,q.2.1,cellsOf (strip (ev s.tm q.2.2)))) = _
 rw [evP_eq];rfl
theorem sp_bls {v : Value} {ps : List (Nat × Nat × Operand)} : stepP s p (.bls T n len v ps) = blsB T n len (evP s.tm ps) (cellsV v):=by
 show blsA T n len v (ps.map fun q=>(q.1,q.2.1,cellsOf (strip (ev s.tm q.2.2)))) = _
 rw [evP_eq];rfl
theorem sp_ld : stepP s p (.ld T n ag x) = ldA (lm s.mem) n ag (evS s.tm x):=rfl
theorem sp_st : stepP s p (.st T n x y) = stA (lm s.mem) n (evS s.tm x) (cellsOf (evS s.tm y)):=rfl
theorem sp_nilc : stepP s p (.nilc x) = nilA (evS s.tm x):=rfl
theorem sp_bin {op : BinOp} : stepP s p (.bin T op x y) = binA op (evS s.tm x) (evS s.tm y):=rfl
theorem sp_eqb : stepP s p (.eqb T ag x y) = eqV T ag (evS s.tm x) (evS s.tm y):=rfl
theorem sp_un {op : UnOp} : stepP s p (.un op x) = unA op (evS s.tm x):=rfl
theorem sp_cvt {k : IntKind} : stepP s p (.cvt k x) = cvtA k (evS s.tm x):=rfl
theorem sp_mkf : stepP s p (.mkf g xs ys) = mkfA g (evL s.tm xs) (evL s.tm ys):=by
 show mkfA g (xs.map fun x=>strip (ev s.tm x)) (ys.map fun x=>strip (ev s.tm x)) = _
 rw [evL_eq,evL_eq]
theorem sp_mks {v : Value} : stepP s p (.mks T n b v x y) = mksA T n b v (evS s.tm x) (evS s.tm y):=rfl
theorem sp_slc {lo hi : Option Operand} : stepP s p (.slc T n x lo hi) = slcM (lm s.mem) n (evS s.tm x) (evO s.tm lo) (evO s.tm hi):=by
 show slcM (lm s.mem) n (evS s.tm x) (lo.map fun x=>strip (ev s.tm x)) (hi.map fun x=>strip (ev s.tm x)) = _
 rw [evO_eq,evO_eq]
theorem sp_sla : stepP s p (.sla T len n x) = slaA len n (evS s.tm x):=rfl
theorem sp_fa : stepP s p (.fa n x) = faA n (evS s.tm x):=rfl
theorem sp_fl : stepP s p (.fl k n ag x) = flA k n ag (evS s.tm x):=rfl
theorem sp_ia : stepP s p (.ia n x y) = iaA (lm s.mem) n (evS s.tm x) (evS s.tm y):=rfl
theorem sp_iaa : stepP s p (.iaa len n x y) = iaaA len n (evS s.tm x) (evS s.tm y):=rfl
theorem sp_idx {ag : Bool} : stepP s p (.idx len n ag x y) = idxA len n ag (evS s.tm x) (evS s.tm y):=rfl
theorem sp_ext : stepP s p (.ext n x) = extA n (evS s.tm x):=rfl
theorem sp_mlk {T kd : Nat} {z : Value} {m k : Operand} {ok : Bool} : stepP s p (.mlk T kd z m k ok) = mlkA kd z ok (evS s.tm m) (keyV (evS s.tm k)):=rfl
theorem sp_clr {n : Nat} {z : Value} : stepP s p (.clr T n z x) = clrA (lm s.mem) n (cellsV z) (evS s.tm x):=rfl
theorem sp_dead : stepP s p .dead = .no:=rfl
theorem sp_isn {neg : Bool} : stepP s p (.isn neg x) = isnA neg (evS s.tm x):=rfl
theorem sp_isp {neg : Bool} : stepP s p (.isp neg x) = ispA neg (evS s.tm x):=rfl
theorem sp_slen : stepP s p (.slen x) = slenA (evS s.tm x):=rfl
theorem sp_sidx : stepP s p (.sidx x y) = sidxA (evS s.tm x) (evS s.tm y):=rfl
theorem sp_len : stepP s p (.len x) = lenA (lm s.mem) (evS s.tm x):=rfl
def viewL (m : Nat → Option Blk) : List AV → List AV
 |[]=>[]
 |a :: l=>view m 4 a :: viewL m l
theorem viewL_eq (m : Nat → Option Blk) : ∀ (l : List AV),l.map (view m 4) = viewL m l
 |[]=>rfl
 |a :: l=>by simp only [List.map_cons,viewL,viewL_eq m l]
theorem sp_call : stepP s p (.call n xs) = .call True (frzAll (evL s.tm xs)) n (viewL (lm s.mem) (evL s.tm xs)) (evL s.tm xs):=by
 show SR.call True (frzAll (xs.map fun x=>strip (ev s.tm x))) n ((xs.map fun x=>strip (ev s.tm x)).map (view (lm s.mem) 4)) (xs.map fun x=>strip (ev s.tm x)) = _
 rw [evL_eq,viewL_eq]
def callB (m : Nat → Option Blk) (args : List AV) : AV → SR
 |.clo g fi ca=>.call True (frzAll args) g (fi ++ viewL m args ++ ca) (fi ++ args ++ ca)
 |.cq g fi ca=>.call True false g (viewL m fi ++ viewL m args ++ viewL m ca) (fi ++ args ++ ca)
 |.v (.func (.yield l) fi ca)=>.yld (fi = #[] ∧ ca = #[]) l args
 |_=>.no
theorem sp_callv : stepP s p (.callv x xs) = callB (lm s.mem) (evL s.tm xs) (evS s.tm x):=by
 show callA (lm s.mem) (xs.map _) (evS s.tm x) = _
 rw [evL_eq]
 unfold callA callB
 generalize evS s.tm x = ax
 cases ax <;> (try simp only [viewL_eq]) <;> (try rfl)
theorem sp_app : stepP s p (.app T n b x y) = appA (lm s.mem) T n b (evS s.tm x) (evS s.tm y):=rfl
theorem sp_mx : stepP s p (.mx xs) = mxA (evL s.tm xs):=by
 show mxA (xs.map fun x=>strip (ev s.tm x)) = _
 rw [evL_eq]
theorem sp_mn : stepP s p (.mn xs) = mnA (evL s.tm xs):=by
 show mnA (xs.map fun x=>strip (ev s.tm x)) = _
 rw [evL_eq]
end
def keepL (tm : List (Nat × AV)) : List Nat → List (Nat × AV)
 |[]=>[]
 |t :: l=>(t,lk tm t) :: keepL tm l
theorem keep_eq {ks : List Nat} {s : S} : s.keep ks = ⟨keepL s.tm ks,s.mem,s.nx⟩:=by
 have : ∀ l : List Nat,(l.map fun t=>(t,lk s.tm t)) = keepL s.tm l:=fun l=>by
  induction l with
  |nil=>rfl
  |cons a l ih=>simp only [List.map_cons,keepL,ih]
 simp only [S.keep,this]
theorem norm_eq {ks bs : List Nat} {nx : Nat} {s : S} : s.norm ks bs nx = ⟨keepL s.tm ks,keepM bs s.mem,nx⟩:=by
 have : ∀ l : List Nat,(l.map fun t=>(t,lk s.tm t)) = keepL s.tm l:=fun l=>by
  induction l with
  |nil=>rfl
  |cons a l ih=>simp only [List.map_cons,keepL,ih]
 simp only [S.norm,this]
mutual
theorem ids_frz {m : Nat → Option Blk} : ∀ (n : Nat) (x : AV),frzB x = true → ids m n x = []
 |0,x,_=>by simp [ids]
 |n + 1,.v x,_=>by simp [ids]
 |n + 1,.fp cs o,_=>by simp [ids]
 |n + 1,.sl k d f l,_=>by simp [ids]
 |n + 1,.clo g a b,_=>by simp [ids]
 |n + 1,.fm kd g,_=>by simp [ids]
 |n + 1,.agg cs,h=>by
  simp only [ids]
  exact flat_frz n cs (by simpa only [frzB] using h)
 |n + 1,.own k o,h=>by simp [frzB] at h
 |n + 1,.row k s,h=>by simp [frzB] at h
 |n + 1,.roff k s i j o,h=>by simp [frzB] at h
 |n + 1,.rsf k s i j,h=>by simp [frzB] at h
 |n + 1,.tup cs,h=>by simp [frzB] at h
 |n + 1,.fq cs o,h=>by simp [frzB] at h
 |n + 1,.cq g fi ca,h=>by simp [frzB] at h
 |n + 1,.gd p x,h=>by simp [frzB] at h
 |n + 1,.bad,h=>by simp [frzB] at h
theorem flat_frz {m : Nat → Option Blk} : ∀ (n : Nat) (cs : List AV),frzAll cs = true → cs.flatMap (ids m n) = []
 |n,[],_=>rfl
 |n,c :: cs,h=>by
  simp only [frzAll,Bool.and_eq_true] at h
  rw [List.flatMap_cons,ids_frz n c h.1,flat_frz n cs h.2];rfl
end
theorem le_frzE {s : S} (t : Nat) (x : AV) (ks bs : List Nat) (nx k : Nat) (hk : has bs k = false) (h : normOK ks bs nx s = true)
  (hx : ∀ G E a w,SatS G s E a w → ∃ b0 : Option Nat,(∀ b,b0 = some b → b < w.heap.size ∧ G.w0.heap.size ≤ b ∧ ∃ blk,lm s.mem k = some blk ∧ blkLoc E k blk = some b ∧ blk.isOth = false) ∧ fsat (fun b=>E.F b ∨ b0 = some b) w x (a.tmps.getD t undef)) :
  le s ⟨(t,x) :: keepL s.tm ks,keepM bs s.mem,nx⟩:=by
 intro G E a w hS
 obtain ⟨b0,hb0,hsx⟩:=hx G E a w hS
 obtain ⟨E1,hS1⟩:=le_norm ks bs nx h G E a w hS
 simp only [normOK,Bool.and_eq_true] at h
 obtain ⟨⟨h1,h2⟩,h3⟩:=h
 have hb : ∀ k,has bs k = true → (E.res bs).b k = E.b k:=fun k hk=>by simp [Env.res,hk]
 have hh : ∀ k,has bs k = true → ∀ s,(E.res bs).h k s = E.h k s:=fun k hk s=>by simp [Env.res,hk]
 have hlm : ∀ k blk,lm (keepM bs s.mem) k = some blk → has bs k = true ∧ lm s.mem k = some blk:=fun k blk hk=>by
  rw [lm_keepM] at hk
  split at hk
  ·rename_i h;exact ⟨h,hk⟩
  ·cases hk
 have hpl : ∀ b,b0 = some b → plainB w b:=fun b hb=>by
  obtain ⟨q0,_,blk0,q1,q2,q3⟩:=hb0 b hb
  have hc:=blkLoc_cells blk0 q3 (hS.st.memv k blk0 q1) b q2
  exact ⟨fun x hx=>(by have:=hc _ hx;cases this),fun r hr=>(by have:=hc _ hr;cases this)⟩
 let F' : Nat → Prop:=fun b=>E.F b ∨ b0 = some b
 let E' : Env:=⟨(E.res bs).b,(E.res bs).h,F'⟩
 have hle : (E.res bs).le E':=⟨fun _ _ h=>h,fun _ _ _ h=>h,fun _ h=>.inl h⟩
 have hkeq : ∀ l : List Nat,(l.map fun t=>(t,lk s.tm t)) = keepL s.tm l:=fun l=>by
  induction l with
  |nil=>rfl
  |cons a l ih=>simp only [List.map_cons,keepL,ih]
 refine ⟨E',⟨?_,fun k hk=>?_⟩⟩
 ·exact {
   ext:=hS.st.ext
   fz:=fun b hb=>by
    rcases hb with hb | hb
    ·exact hS.st.fz b hb
    ·obtain ⟨q1,q2,_⟩:=hb0 b hb
     exact ⟨q1,.inr q2⟩
   tmv:=fun t'=>by
    simp only [lk]
    split
    ·rename_i he;subst he
     exact sat_of_fsat (E:=E') _ _ hsx
    ·have hres : sat (E.res bs) w (lk (keepL s.tm ks) t') (a.tmps.getD t' undef):=by
      rw [← hkeq]
      refine sat_res _ _ (okTm_spec h1) ?_
      rcases lk_keep ks (lk s.tm) t' with h | h
      ·rw [h];exact hS.st.tmv t'
      ·rw [h];simp only [sat]
     exact sat_mono hle (fun _ _=>rfl) _ _ hres
   sz:=hS.st.sz
   memv:=fun k blk hk=>by
    obtain ⟨hk1,hk2⟩:=hlm k blk hk
    have hbs:=hS.st.memv k blk hk2
    have ho:=okMem_spec h2 hk1 hk2
    cases blk with
    |cells l=>
     obtain ⟨b,cs,T,q1,q2,q3,q4⟩:=hbs
     exact ⟨b,cs,T,(hb k hk1).trans q1,q2,q3,satL_mono hle (fun _ _=>rfl) _ _ (satL_res _ _ (by simpa only [okBlk] using ho) q4)⟩
    |row s' e n d f l=>
     obtain ⟨v,xs,q1,q2,q3,q4⟩:=hbs
     refine ⟨v,xs,(hh k hk1 s').trans q1,q2,q3,fun i x hx=>?_⟩
     obtain ⟨q5,q6⟩:=q4 i x hx
     exact ⟨q5,fsatL_mono (fun b hb=>.inl hb) (fun _ _=>rfl) _ _ q6⟩
    |oth x=>
     cases x with
     |fr vs tm=>exact fun t=>sat_mono hle (fun _ _=>rfl) _ _ (sat_res _ _ (okTm_spec ho) (hbs t))
     |lp l rec tm=>exact ⟨hbs.1,hbs.2.1,fun t=>sat_mono hle (fun _ _=>rfl) _ _ (sat_res _ _ (okTm_spec ho) (hbs.2.2 t))⟩
     |mp b kd g=>exact hbs
     |si b s pos=>exact hbs
     |nm k' b=>exact (hb k' ho).trans hbs
   inj:=fun k k' blk blk' b hk hk' hbl hbl'=>by
    obtain ⟨hk1,hk2⟩:=hlm k blk hk
    obtain ⟨hk1',hk2'⟩:=hlm k' blk' hk'
    rw [blkLoc_same (E:=E) (E':=E') (hb k hk1) (hh k hk1)] at hbl
    rw [blkLoc_same (E:=E) (E':=E') (hb k' hk1') (hh k' hk1')] at hbl'
    exact hS.st.inj k k' blk blk' b hk2 hk2' hbl hbl'
   nF:=fun k' blk b hk' hbl hF=>by
    obtain ⟨hk1,hk2⟩:=hlm k' blk hk'
    rw [blkLoc_same (E:=E) (E':=E') (hb k' hk1) (hh k' hk1)] at hbl
    rcases hF with hF | hF
    ·exact hS.st.nF k' blk b hk2 hbl hF
    ·obtain ⟨_,_,blk0,q1,q2,_⟩:=hb0 b hF
     have:=hS.st.inj k' k blk blk0 b hk2 q1 hbl q2
     subst this
     rw [hk] at hk1;cases hk1
   fresh:=fun k hk=>by
    by_cases hx : has bs k = true
    ·rw [lm_keepM,if_pos hx] at hk
     obtain ⟨q1,q2⟩:=hS.st.fresh k hk
     exact ⟨(hb k hx).trans q1,fun s=>(hh k hx s).trans (q2 s)⟩
    ·exact ⟨by simp [E',Env.res,hx],fun s=>by simp [E',Env.res,hx]⟩
   stampC:=fun k l s' hk=>by
    obtain ⟨hk1,hk2⟩:=hlm k _ hk
    exact (hh k hk1 s').trans (hS.st.stampC k l s' hk2)
   stampR:=fun k s' e n α d f l hk=>by
    obtain ⟨hk1,hk2⟩:=hlm k _ hk
    have:=hS.st.stampR k s' e n α d f l hk2
    exact ⟨(hb k hk1).trans this.1,fun s'' hs=>(hh k hk1 s'').trans (this.2 s'' hs)⟩
   stampO:=fun k x hk=>by
    obtain ⟨hk1,hk2⟩:=hlm k _ hk
    have:=hS.st.stampO k x hk2
    exact ⟨(hb k hk1).trans this.1,fun s''=>(hh k hk1 s'').trans (this.2 s'')⟩
   df:=fun d hd=>by
    rcases hS.st.df d hd with ⟨D,rfl,q1,q2,q3⟩ | hd2
    ·refine .inl ⟨D,rfl,q1,fun hF=>?_,q3⟩
     rcases hF with hF | hF
     ·exact q2 hF
     ·exact (hpl D hF).1 _ q3
    ·exact .inr hd2
   dn:=hS.st.dn
   bt:=hS.st.bt
   kd:=hS.st.kd
   kF:=fun b hF=>by
    rcases hF with hF | hF
    ·exact hS.st.kF b hF
    ·exact .inr (hS.st.kd.plain (hpl b hF))
   rd:=hS.st.rd }
 ·show lm (keepM bs s.mem) k = none
  rw [lm_keepM]
  split
  ·rename_i hx
   have hk' : nx ≤ k:=hk
   have:=allLt_spec h3 hx;omega
  ·rfl
theorem le_frz {s : S} (t : Nat) (ks bs : List Nat) (nx k o : Nat) (l : List AV) (ht : lk s.tm t = .own k o) (hm : lm s.mem k = some (.cells l)) (hl : frzAll l = true) (hk : has bs k = false) (h : normOK ks bs nx s = true) :
  le s ⟨(t,.fp l o) :: keepL s.tm ks,keepM bs s.mem,nx⟩:=
 le_frzE t (.fp l o) ks bs nx k hk h fun G E a w hS=>by
  have h1:=hS.st.tmv t
  rw [ht] at h1
  simp only [sat] at h1
  obtain ⟨b,h2,h3⟩:=h1
  obtain ⟨b',cs,T,h4,h5,h6,h7⟩:=hS.st.memv k _ hm
  rw [h2] at h4;cases h4
  refine ⟨some b,fun b' hb'=>?_,?_⟩
  ·cases hb'
   exact ⟨(Array.getElem?_eq_some_iff.1 h6).1,h5,_,hm,h2,rfl⟩
  ·simp only [fsat]
   exact ⟨b,0,cs.toList,by rw [h3,Nat.zero_add],.inr rfl,cellsAt_of_heap h6,fsatL_mono (fun b hb=>.inl hb) (fun _ _=>rfl) _ _ (fsatL_of_satL _ _ hl h7)⟩
theorem le_frzR {s : S} (t : Nat) (ks bs : List Nat) (nx k st T n : Nat) {α : Type} (d : α) (f : α → List AV) (l : List α) (ht : lk s.tm t = .row k st) (hm : lm s.mem k = some (.row st T n d f l)) (hk : has bs k = false) (h : normOK ks bs nx s = true) :
  le s ⟨(t,.sl n d f l) :: keepL s.tm ks,keepM bs s.mem,nx⟩:=
 le_frzE t (.sl n d f l) ks bs nx k hk h fun G E a w hS=>by
  have h0:=hS.st.tmv t
  rw [ht] at h0
  simp only [sat] at h0
  obtain ⟨hh,h1,h2⟩:=h0
  obtain ⟨v,xs,h3,h4,h5,h6⟩:=hS.st.memv k _ hm
  rw [h1] at h3;cases h3
  have hloc : ∀ b,(hv hh).ownBlock = some b → blkLoc E k (.row st T n d f l) = some b:=fun b hb=>by simp only [blkLoc,h1,Option.bind_some];exact hb
  rcases h4.2 with ⟨h7,h8⟩ | ⟨g,cap,cur,h7,h8,h9,h10,h11,h12,h13⟩
  ·refine ⟨none,⟨fun b (hb : (none : Option Nat) = some b)=>(by cases hb),?_⟩⟩
   have hl : l = []:=List.eq_nil_of_length_eq_zero h8
   subst hl
   simp only [fsat]
   exact ⟨none,0,by rw [h2,h7];rfl,Nat.le_refl _,.inl rfl,by simp⟩
  ·refine ⟨some g,⟨fun b (hb : some g = some b)=>?_,?_⟩⟩
   ·cases hb
    exact ⟨(Array.getElem?_eq_some_iff.1 h9).1,h8,_,hm,hloc g (by rw [h7];rfl),rfl⟩
   ·simp only [fsat]
    refine ⟨some ⟨g,0,none⟩,cap,by rw [h2,h7],h10,.inr ⟨g,0,rfl,.inr (by simp)⟩,.inr ⟨g,0,rfl,.inr (by simp),fun i x hx=>?_⟩⟩
    obtain ⟨h14,h15⟩:=h6 i x hx
    have hc0 : cellsAt w g 0 xs:=fun j u hu=>by
     have:=h4.cells (g:=g) (by rw [h7];rfl) j u hu
     unfold Addr.add at this
     split at this
     ·rename_i h0;subst h0;simpa using this
     ·simpa using this
    exact ⟨h14,_,cellsAt_take (cellsAt_drop hc0),fsatL_mono (fun b hb=>.inl hb) (fun _ _=>rfl) _ _ h15⟩
def newB (m : Nat → Option Blk) : AV → Prop
 |.row k s=>match m k with
  |some (.row _ _ _ _ f l)=>∀ x ∈ l,pureAll (f x) = true
  |_=>False
 |.own k _=>match m k with
  |some (.cells l)=>pureAll l = true ∧ frzAll l = true
  |_=>False
 |a=>pureB a = true ∧ frzB a = true
def newL (m : Nat → Option Blk) : List AV → Prop
 |[]=>True
 |x :: l=>newB m x ∧ newL m l
def FinN (rv : List RV) (r : AV) : Ex → S → Prop
 |.e _,_=>False
 |_,s=>∃ xs,resOK s rv xs ∧ pack (xs.map (view (lm s.mem) 4)) = r ∧ newL (lm s.mem) xs
section
variable {P : Program} {G : Gl} {tm : Nat → AV} {mem : Nat → Option Blk} {E : Env} {a : Act} {w : World}
theorem view_new (S : Sat G tm mem E a w) {F : Nat → Prop} (hF2 : ∀ b,G.w0.heap.size ≤ b → b < w.heap.size → F b) (x : AV) (y : Value) (hn : newB mem x) (h : sat E w x y) : fsat F w (view mem 4 x) y:=by
 have hpure : ∀ x y,pureB x = true → frzB x = true → sat E w x y → fsat F w x y:=fun x y hp hf h=>fsat_pure x y hp (fsat_of_sat x y hf h)
 have hdef : ∀ x,pureB x = true ∧ frzB x = true → sat E w x y → fsat F w (view mem 4 x) y:=fun x hp h=>by
  rw [view_frz 4 x hp.2];exact hpure x y hp.1 hp.2 h
 cases x with
 |own k o=>
  simp only [newB] at hn
  simp only [view]
  cases hm : mem k with
  |none=>rw [hm] at hn;exact hn.elim
  |some blk=>
   rw [hm] at hn
   cases blk with
   |oth x=>exact hn.elim
   |row s e n' d f l=>exact hn.elim
   |cells l=>
    simp only [sat] at h
    obtain ⟨b,h1,h2⟩:=h
    obtain ⟨b',cs,T,h3,h4,h5,h6⟩:=S.memv k _ hm
    rw [h1] at h3;cases h3
    simp only [fsat]
    refine ⟨b,0,cs.toList,by rw [h2,Nat.zero_add],hF2 b h4 (Array.getElem?_eq_some_iff.1 h5).1,cellsAt_of_heap h5,?_⟩
    rw [viewL_frz 3 l hn.2]
    exact fsatL_pure l _ hn.1 (fsatL_of_satL l _ hn.2 h6)
 |row k s=>
  simp only [newB] at hn
  simp only [view]
  cases hm : mem k with
  |none=>rw [hm] at hn;exact hn.elim
  |some blk=>
   rw [hm] at hn
   cases blk with
   |oth x=>exact hn.elim
   |cells l=>exact hn.elim
   |row s' e n' d f l=>
    simp only []
    split
    ·rename_i hs;subst hs
     simp only [sat] at h
     obtain ⟨hh,h1,h2⟩:=h
     obtain ⟨v,xs,h3,h4,h5,h6⟩:=S.memv k _ hm
     rw [h1] at h3;cases h3
     simp only [fsat]
     rcases h4.2 with ⟨h7,h8⟩ | ⟨g,cap,cur,h7,h8,h9,h10,h11,h12,h13⟩
     ·have hl : l = []:=List.eq_nil_of_length_eq_zero h8
      subst hl
      exact ⟨none,0,by rw [h2,h7];rfl,Nat.le_refl _,.inl rfl,.inl rfl⟩
     ·have hlt : F g:=hF2 g h8 (Array.getElem?_eq_some_iff.1 h9).1
      refine ⟨some ⟨g,0,none⟩,cap,by rw [h2,h7],h10,.inr ⟨g,0,rfl,hlt⟩,.inr ⟨g,0,rfl,hlt,fun i x hx=>?_⟩⟩
      obtain ⟨h14,h15⟩:=h6 i x hx
      have hc0 : cellsAt w g 0 xs:=fun j u hu=>by
       have:=h4.cells (g:=g) (by rw [h7];rfl) j u hu
       unfold Addr.add at this
       split at this
       ·rename_i h0;subst h0;simpa using this
       ·simpa using this
      exact ⟨h14,_,cellsAt_take (cellsAt_drop hc0),fsatL_pure _ _ (hn x (List.mem_of_getElem? hx)) h15⟩
    ·simp only [fsat]
 |v x=>exact hdef _ hn h
 |fp cs o=>exact hdef _ hn h
 |sl k d f l=>exact hdef _ hn h
 |clo g fi ca=>exact hdef _ hn h
 |fm kd g=>exact hdef _ hn h
 |roff k s i j o=>exact hdef _ hn h
 |rsf k s i j=>exact hdef _ hn h
 |agg cs=>exact hdef _ hn h
 |tup cs=>exact hdef _ hn h
 |fq cs o=>exact hdef _ hn h
 |cq g fi ca=>exact hdef _ hn h
 |gd p x=>exact hdef _ hn h
 |bad=>exact hdef _ hn h
end
theorem FnN_of_W {P : Program} {f : Nat} {c : C} {N np : Nat} {rv : List RV} (hm : P.follows .mixedOrders = true) (ht : Text P f c N np rv) {args : List AV} (hn : args.length = np) {r : AV} (h : W P N c (init args) (FinN rv r)) : FnN P f args r:=by
 refine ⟨?_,fun A w vs hA hargs=>?_⟩
 ·obtain ⟨fn,fz,h1,h26,h3,h4,h5⟩:=ht.ex
  cases hb : fn.body with
  |none=>rw [hb] at h26;cases h26
  |some code=>simp [hasBody,h1,hb,h3]
 have hlen:=(fsatT_get hargs).1
 have hfin : ∀ e s,FinN rv r e s → Fin rv r e s:=fun e s hq=>by
  cases e with
  |e id=>exact hq.elim
  |n=>obtain ⟨xs,q1,q2,_⟩:=hq;exact ⟨xs,q1,q2⟩
  |r=>obtain ⟨xs,q1,q2,_⟩:=hq;exact ⟨xs,q1,q2⟩
 refine calls_of_W hm ht h (fun e s hq=>fin_res (hfin e s hq)) (by omega) (G:=⟨A,w,N,none,w,A,AlwD P⟩) (E:=⟨fun _=>none,fun _ _=>none,A⟩) rfl rfl rfl (fun a hz hv hd=>start_sat hA hargs a hz hv hd) _ ?_
 intro e s E' a' w' xs us hq hr hS h8
 have hq' : ∃ xs,resOK s rv xs ∧ pack (xs.map (view (lm s.mem) 4)) = r ∧ newL (lm s.mem) xs:=by
  cases e with
  |e id=>exact hq.elim
  |n=>exact hq
  |r=>exact hq
 obtain ⟨ys,hy,hx2,hx3⟩:=hq'
 obtain rfl:=resOK_det hr hy
 refine ⟨_,rfl,hS.st.ext,?_⟩
 have hF2 : ∀ b,w.heap.size ≤ b → b < w'.heap.size → (False ∨ (w.heap.size ≤ b ∧ b < w'.heap.size)):=fun b q1 q2=>.inr ⟨q1,q2⟩
 rw [← hx2]
 refine pack_fsat ?_
 clear hr hy hx2 hq
 induction xs generalizing us with
 |nil=>simp only [satT] at h8;subst h8;simp [fsatT]
 |cons x xs ih=>
  simp only [satT] at h8
  obtain ⟨y,ys,rfl,q1,q2⟩:=h8
  simp only [List.map_cons,fsatT]
  exact ⟨y,ys,rfl,view_new hS.st hF2 x y hx3.1 q1,ih ys q2 hx3.2⟩
mutual
theorem onlyB_frz1 (bs : List Nat) : ∀ (x : AV),frzB x = true → onlyB bs x = true
 |.v x,_=>rfl
 |.fp cs o,_=>rfl
 |.sl k d f l,_=>rfl
 |.clo g a b,_=>rfl
 |.fm kd g,_=>rfl
 |.agg cs,h=>by
  simp only [onlyB]
  exact onlyL_frz1 bs cs (by simpa only [frzB] using h)
 |.own k o,h=>by simp [frzB] at h
 |.row k s,h=>by simp [frzB] at h
 |.roff k s i j o,h=>by simp [frzB] at h
 |.rsf k s i j,h=>by simp [frzB] at h
 |.tup cs,h=>by simp [frzB] at h
 |.fq cs o,h=>by simp [frzB] at h
 |.cq g fi ca,h=>by simp [frzB] at h
 |.gd p x,h=>by simp [frzB] at h
 |.bad,h=>by simp [frzB] at h
theorem onlyL_frz1 (bs : List Nat) : ∀ (cs : List AV),frzAll cs = true → onlyL bs cs = true
 |[],_=>rfl
 |c :: cs,h=>by
  simp only [frzAll,Bool.and_eq_true] at h
  simp only [onlyL,Bool.and_eq_true]
  exact ⟨onlyB_frz1 bs c h.1,onlyL_frz1 bs cs h.2⟩
end
def delm : List (Nat × Blk) → Nat → List (Nat × Blk)
 |[],_=>[]
 |(s,b) :: r,k=>if k = s then delm r k else (s,b) :: delm r k
theorem lm_delm (k j : Nat) : ∀ (m : List (Nat × Blk)),lm (delm m k) j = if j = k then none else lm m j
 |[]=>by simp [delm,lm]
 |(s,b) :: m=>by
  simp only [delm]
  split
  ·rename_i h;subst h
   rw [lm_delm k j m]
   simp only [lm]
   split
   ·rfl
   ·rfl
  ·rename_i h
   simp only [lm,lm_delm k j m]
   by_cases h1 : j = s
   ·subst h1;rw [if_pos rfl,if_pos rfl,if_neg (fun e=>h e.symm)]
   ·rw [if_neg h1,if_neg h1]
theorem satT_get {E : Env} {w : World} : ∀ {aq : List AV} {vs : List Value},satT E w aq vs → aq.length = vs.length ∧ ∀ (i : Nat) a v,aq[i]? = some a → vs[i]? = some v → sat E w a v
 |[],vs,h=>by simp only [satT] at h;subst h;exact ⟨rfl,fun i a v h=>by simp at h⟩
 |c :: cs,vs,h=>by
  simp only [satT] at h
  obtain ⟨x,xs,rfl,h1,h2⟩:=h
  obtain ⟨h3,h4⟩:=satT_get h2
  refine ⟨by simp [h3],fun i a v ha hv=>?_⟩
  cases i with
  |zero=>simp only [List.getElem?_cons_zero,Option.some.injEq] at ha hv;subst ha;subst hv;exact h1
  |succ i=>exact h4 i a v (by simpa using ha) (by simpa using hv)
section
variable {P : Program} {G : Gl} {tm : Nat → AV} {mem : Nat → Option Blk} {E : Env} {a : Act} {w : World}
theorem enter {Dd : Deferred → Bool → Prop} {s : S} (hS : SatS G s E a w) (N : Nat) (rd : Option Nat) (a' : Act) (tm' : List (Nat × AV)) (hz : a'.tmps.size = N) (hd : a'.defers = []) (ht : ∀ t,sat E w (lk tm' t) (a'.tmps.getD t undef))
  (hr : ∀ l,rd = some l → ∃ rec,w.heap[l]? = some (Obj.loop rec)) (hDd : ∀ d,¬ Dd d false:=by intro d h;cases h.1) :
  SatS ⟨G.A,G.w0,N,rd,w,E.F,Dd⟩ ⟨tm',(s.nx,.oth (.fr a.tmps s.tm)) :: s.mem,s.nx + 1⟩ E a' w:=by
 have hfr:=hS.st.fresh s.nx (hS.nx _ (Nat.le_refl _))
 have hlm : ∀ k,lm ((s.nx,Blk.oth (.fr a.tmps s.tm)) :: s.mem) k = if k = s.nx then some (.oth (.fr a.tmps s.tm)) else lm s.mem k:=fun k=>by simp only [lm]
 have hof : ∀ k blk,lm ((s.nx,Blk.oth (.fr a.tmps s.tm)) :: s.mem) k = some blk → (k = s.nx ∧ blk = .oth (.fr a.tmps s.tm)) ∨ (k ≠ s.nx ∧ lm s.mem k = some blk):=fun k blk hk=>by
  rw [hlm] at hk
  split at hk
  ·rename_i h;cases hk;exact .inl ⟨h,rfl⟩
  ·rename_i h;exact .inr ⟨h,hk⟩
 refine ⟨?_,fun k hk=>?_⟩
 ·exact {
   ext:=hS.st.ext
   fz:=hS.st.fz
   tmv:=ht
   sz:=hz
   memv:=fun k blk hk=>by
    rcases hof k blk hk with ⟨rfl,rfl⟩ | ⟨_,hk⟩
    ·exact fun t=>hS.st.tmv t
    ·exact hS.st.memv k blk hk
   inj:=fun k k' blk blk' b hk hk' hb hb'=>by
    rcases hof k blk hk with ⟨rfl,rfl⟩ | ⟨_,hk⟩
    ·cases hb
    ·rcases hof k' blk' hk' with ⟨rfl,rfl⟩ | ⟨_,hk'⟩
     ·cases hb'
     ·exact hS.st.inj k k' blk blk' b hk hk' hb hb'
   nF:=fun k blk b hk hb=>by
    rcases hof k blk hk with ⟨rfl,rfl⟩ | ⟨_,hk⟩
    ·cases hb
    ·exact hS.st.nF k blk b hk hb
   fresh:=fun k hk=>by
    rw [hlm] at hk
    split at hk
    ·cases hk
    ·exact hS.st.fresh k hk
   stampC:=fun k l s' hk=>by
    rcases hof k _ hk with ⟨rfl,h⟩ | ⟨_,hk⟩
    ·cases h
    ·exact hS.st.stampC k l s' hk
   stampR:=fun k s' e n α d f l hk=>by
    rcases hof k _ hk with ⟨rfl,h⟩ | ⟨_,hk⟩
    ·cases h
    ·exact hS.st.stampR k s' e n α d f l hk
   stampO:=fun k x hk=>by
    rcases hof k _ hk with ⟨rfl,h⟩ | ⟨_,hk⟩
    ·exact hfr
    ·exact hS.st.stampO k x hk
   df:=fun d h=>by rw [hd] at h;cases h
   dn:=by rw [hd];exact .nil
   bt:=fun d hd=>absurd hd (hDd d)
   kd:=KD.refl w
   kF:=fun b hb=>.inl hb
   rd:=hr }
 ·have hk' : s.nx + 1 ≤ k:=hk
  show lm ((s.nx,Blk.oth (.fr a.tmps s.tm)) :: s.mem) k = none
  rw [hlm,if_neg (by omega)]
  exact hS.nx k (by omega)
theorem restore {Dd : Deferred → Bool → Prop} {s s' : S} {E' : Env} {a' : Act} {w' : World} {N : Nat} {rd : Option Nat} {kf : Nat} {tmc : List (Nat × AV)} (hS : SatS G s E a w) (hS' : SatS ⟨G.A,G.w0,N,rd,w,E.F,Dd⟩ s' E' a' w')
  (hk : lm s'.mem kf = some (.oth (.fr a.tmps tmc))) : SatS G ⟨tmc,delm s'.mem kf,s'.nx⟩ E' a w':=by
 have hof : ∀ k blk,lm (delm s'.mem kf) k = some blk → k ≠ kf ∧ lm s'.mem k = some blk:=fun k blk h=>by
  rw [lm_delm] at h
  split at h
  ·cases h
  ·rename_i hn;exact ⟨hn,h⟩
 refine ⟨?_,fun k hk'=>?_⟩
 ·exact {
   ext:=hS'.st.ext
   fz:=hS'.st.fz
   tmv:=hS'.st.memv kf _ hk
   sz:=hS.st.sz
   memv:=fun k blk h=>hS'.st.memv k blk (hof k blk h).2
   inj:=fun k k' blk blk' b h h' hb hb'=>hS'.st.inj k k' blk blk' b (hof k blk h).2 (hof k' blk' h').2 hb hb'
   nF:=fun k blk b h hb=>hS'.st.nF k blk b (hof k blk h).2 hb
   fresh:=fun k h=>by
    rw [lm_delm] at h
    split at h
    ·rename_i he;subst he;exact hS'.st.stampO k _ hk
    ·exact hS'.st.fresh k h
   stampC:=fun k l s'' h=>hS'.st.stampC k l s'' (hof k _ h).2
   stampR:=fun k s'' e n α d f l h=>hS'.st.stampR k s'' e n α d f l (hof k _ h).2
   stampO:=fun k x h=>hS'.st.stampO k x (hof k _ h).2
   df:=fun d hd=>by
    rcases hS.st.df d hd with ⟨D,rfl,h1,h2,h3⟩ | hd2
    ·refine .inl ⟨D,rfl,h1,fun hF=>?_,hS'.st.kd.dfr D _ h3⟩
     rcases hS'.st.kF D hF with h | h
     ·exact h2 h
     ·exact h.1 _ h3
    ·exact .inr hd2
   dn:=hS.st.dn
   bt:=hS.st.bt
   kd:=hS.st.kd.trans hS'.st.kd
   kF:=fun b hb=>(hS'.st.kF b hb).elim (hS.st.kF b) (fun h=>.inr (hS.st.kd.plain h))
   rd:=fun l hl=>by
    obtain ⟨rec,h⟩:=hS.st.rd l hl
    exact hS'.st.kd.lps l rec h }
 ·show lm (delm s'.mem kf) k = none
  rw [lm_delm]
  split
  ·rfl
  ·exact hS'.nx k hk'
theorem Sat.setL (S : Sat G tm mem E a w) {k l : Nat} {R : Loop} {tm' : List (Nat × AV)} (hk : mem k = some (.oth (.lp l R tm'))) (R2 : Loop) (htm : R2.tmps = R.tmps) :
  Sat G tm (upd mem k (some (.oth (.lp l R2 tm')))) E a (w.putObj l (.loop R2)):=by
 obtain ⟨h1,h2,h3⟩:=S.memv k _ hk
 have hlt : l < w.heap.size:=(Array.getElem?_eq_some_iff.1 h2).1
 have hlF : ¬ E.F l:=S.nF k _ l hk rfl
 have hFs : ∀ b,E.F b → (w.putObj l (.loop R2)).heap[b]? = w.heap[b]?:=fun b hb=>putD_other (fun e=>hlF (e ▸ hb))
 have hof : ∀ j blk,upd mem k (some (Blk.oth (.lp l R2 tm'))) j = some blk → (j = k ∧ blk = .oth (.lp l R2 tm')) ∨ (j ≠ k ∧ mem j = some blk):=fun j blk h=>by
  simp only [upd] at h
  split at h
  ·rename_i he;cases h;exact .inl ⟨he,rfl⟩
  ·rename_i he;exact .inr ⟨he,h⟩
 exact {
  ext:=⟨S.ext.os,S.ext.tape,S.ext.output,by rw [putD_size];exact S.ext.size,fun i hi=>(putD_other (by omega)).trans (S.ext.block i hi)⟩
  fz:=fun b hb=>by rw [putD_size];exact S.fz b hb
  tmv:=fun t=>sat_mono (Env.le.refl E) hFs _ _ (S.tmv t)
  sz:=S.sz
  memv:=fun j blk h=>by
   rcases hof j blk h with ⟨rfl,rfl⟩ | ⟨hj,g⟩
   ·exact ⟨h1,World.putObj_heap_same hlt,fun t=>by rw [htm];exact sat_mono (Env.le.refl E) hFs _ _ (h3 t)⟩
   ·refine blkSat_mono (Env.le.refl E) hFs blk (fun b hb=>putD_other (fun e=>hj ?_)) (S.memv j blk g)
    exact S.inj j k blk _ l g hk (e ▸ hb) rfl
  inj:=fun j j' blk blk' b h h' hb hb'=>by
   rcases hof j blk h with ⟨g1,g2⟩ | ⟨hj,g⟩
   ·rcases hof j' blk' h' with ⟨g1',g2'⟩ | ⟨hj',g'⟩
    ·rw [g1,g1']
    ·subst g2;rw [g1];exact S.inj k j' _ blk' b hk g' hb hb'
   ·rcases hof j' blk' h' with ⟨g1',g2'⟩ | ⟨hj',g'⟩
    ·subst g2';rw [g1'];exact S.inj j k blk _ b g hk hb hb'
    ·exact S.inj j j' blk blk' b g g' hb hb'
  nF:=fun j blk b h hb=>by
   rcases hof j blk h with ⟨g1,g2⟩ | ⟨hj,g⟩
   ·subst g2;exact S.nF k _ b hk hb
   ·exact S.nF j blk b g hb
  fresh:=fun j h=>by
   simp only [upd] at h
   split at h
   ·cases h
   ·exact S.fresh j h
  stampC:=fun j l' s' h=>by
   rcases hof j _ h with ⟨_,g⟩ | ⟨hj,g⟩
   ·cases g
   ·exact S.stampC j l' s' g
  stampR:=fun j s' e n α d f l' h=>by
   rcases hof j _ h with ⟨_,g⟩ | ⟨hj,g⟩
   ·cases g
   ·exact S.stampR j s' e n α d f l' g
  stampO:=fun j x h=>by
   rcases hof j _ h with ⟨g1,_⟩ | ⟨hj,g⟩
   ·rw [g1];exact S.stampO k _ hk
   ·exact S.stampO j x g
  df:=fun d hd=>by
   rcases S.df d hd with ⟨D,rfl,q1,q2,q3⟩ | hd2
   ·exact .inl ⟨D,rfl,q1,q2,(putD_other (fun e=>by subst e;rw [q3] at h2;cases h2)).trans q3⟩
   ·exact .inr hd2
  dn:=S.dn
  bt:=S.bt
  kd:=⟨by rw [putD_size];exact S.kd.size,fun j x hj=>by
    have:=S.kd.dfr j x hj
    exact (putD_other (fun e=>by subst e;rw [this] at h2;cases h2)).trans this,fun j rec hj=>by
    obtain ⟨rec',hr⟩:=S.kd.lps j rec hj
    by_cases e : j = l
    ·subst e;exact ⟨R2,World.putObj_heap_same hlt⟩
    ·exact ⟨rec',(putD_other e).trans hr⟩⟩
  kF:=S.kF
  rd:=fun j hj=>by
   obtain ⟨rec',hr⟩:=S.rd j hj
   by_cases e : j = l
   ·subst e;exact ⟨R2,World.putObj_heap_same hlt⟩
   ·exact ⟨rec',(putD_other e).trans hr⟩ }
theorem satS_setL {s : S} (hS : SatS G s E a w) {k l : Nat} {R : Loop} {tm' : List (Nat × AV)} (hk : lm s.mem k = some (.oth (.lp l R tm'))) (R2 : Loop) (htm : R2.tmps = R.tmps) :
  SatS G ⟨s.tm,setm s.mem k (.oth (.lp l R2 tm')),s.nx⟩ E a (w.putObj l (.loop R2)):=by
 refine ⟨?_,fun j hj=>?_⟩
 ·show Sat G (lk s.tm) (lm (setm s.mem k (.oth (.lp l R2 tm')))) E a _
  rw [lm_setm]
  exact hS.st.setL hk R2 htm
 ·show lm (setm s.mem k (.oth (.lp l R2 tm'))) j = none
  have hj' : s.nx ≤ j:=hj
  rw [lm_setm]
  simp only [upd]
  split
  ·rename_i he;subst he
   have:=hS.nx j hj'
   rw [this] at hk;cases hk
  ·exact hS.nx j hj'
theorem satS_drop {s : S} (hS : SatS G s E a w) {k : Nat} {x : Oth} (hk : lm s.mem k = some (.oth x)) : SatS G ⟨s.tm,delm s.mem k,s.nx⟩ E a w:=by
 have hof : ∀ j blk,lm (delm s.mem k) j = some blk → lm s.mem j = some blk:=fun j blk h=>by
  rw [lm_delm] at h
  split at h
  ·cases h
  ·exact h
 refine ⟨?_,fun j hj=>?_⟩
 ·exact {
   ext:=hS.st.ext
   fz:=hS.st.fz
   tmv:=hS.st.tmv
   sz:=hS.st.sz
   memv:=fun j blk h=>hS.st.memv j blk (hof j blk h)
   inj:=fun j j' blk blk' b h h' hb hb'=>hS.st.inj j j' blk blk' b (hof j blk h) (hof j' blk' h') hb hb'
   nF:=fun j blk b h hb=>hS.st.nF j blk b (hof j blk h) hb
   fresh:=fun j h=>by
    rw [lm_delm] at h
    split at h
    ·rename_i he;subst he;exact hS.st.stampO j _ hk
    ·exact hS.st.fresh j h
   stampC:=fun j l s'' h=>hS.st.stampC j l s'' (hof j _ h)
   stampR:=fun j s'' e n α d f l h=>hS.st.stampR j s'' e n α d f l (hof j _ h)
   stampO:=fun j x h=>hS.st.stampO j x (hof j _ h)
   df:=hS.st.df
   dn:=hS.st.dn
   bt:=hS.st.bt
   kd:=hS.st.kd
   kF:=hS.st.kF
   rd:=hS.st.rd }
 ·show lm (delm s.mem k) j = none
  rw [lm_delm]
  split
  ·rfl
  ·exact hS.nx j hj
end
def FinI (rv : List RV) (k : Nat) (vs : Array Value) (K : AV → S → Prop) : Ex → S → Prop
 |.e _,_=>False
 |_,s'=>∃ xs tmc,resOK s' rv xs ∧ lm s'.mem k = some (.oth (.fr vs tmc)) ∧ K (pack xs) ⟨tmc,delm s'.mem k,s'.nx⟩
theorem Inl_of_W {P : Program} {f : Nat} {c : C} {N np : Nat} {rv : List RV} (hm : P.follows .mixedOrders = true) (ht : Text P f c N np rv) {raw : List AV} (hn : raw.length = np) {s : S} {K : AV → S → Prop}
  (h : ∀ vs : Array Value,W P N c ⟨initT 0 raw,(s.nx,.oth (.fr vs s.tm)) :: s.mem,s.nx + 1⟩ (FinI rv s.nx vs K)) : Inl P f raw s K:=by
 refine ⟨?_,fun G E a w vs hS hT=>?_⟩
 ·obtain ⟨fn,fz,h1,h26,h3,h4,h5⟩:=ht.ex
  cases hb : fn.body with
  |none=>rw [hb] at h26;cases h26
  |some code=>simp [hasBody,h1,hb,h3]
 obtain ⟨hlen,hget⟩:=satT_get hT
 have hq : ∀ e s',FinI rv s.nx a.tmps K e s' → (e = .n ∨ e = .r) ∧ ∃ xs tmc,resOK s' rv xs ∧ lm s'.mem s.nx = some (.oth (.fr a.tmps tmc)) ∧ K (pack xs) ⟨tmc,delm s'.mem s.nx,s'.nx⟩:=fun e s' h=>by
  cases e with
  |e id=>exact h.elim
  |n=>exact ⟨.inl rfl,h⟩
  |r=>exact ⟨.inr rfl,h⟩
 refine calls_of_W hm ht (h a.tmps) (fun e s' h=>⟨(hq e s' h).1,by obtain ⟨_,xs,_,h1,_⟩:=hq e s' h;exact ⟨xs,h1⟩⟩) (by omega) (G:=⟨G.A,G.w0,N,none,w,E.F,AlwD P⟩) (E:=E) rfl rfl rfl
  (fun a0 hz hv hd=>enter hS N none a0 _ hz hd (fun t=>?_) (fun l hl=>by cases hl)) _ ?_
 ·rw [lk_initT]
  simp only [Nat.not_lt_zero,if_false,Nat.sub_zero]
  cases ha : raw[t]? with
  |none=>simp only [Option.getD_none,sat]
  |some av=>
   have hlt : t < raw.length:=(List.getElem?_eq_some_iff.1 ha).1
   have hx : vs[t]? = some vs[t]:=List.getElem?_eq_getElem (by omega)
   simp only [Option.getD_some]
   rw [hv t _ hx]
   exact hget t av _ ha hx
 ·intro e s' E' a' w' xs us hQ hr hS' hus
  obtain ⟨_,ys,tmc,h1,h2,h3⟩:=hq e s' hQ
  obtain rfl:=resOK_det hr h1
  exact ⟨_,pack xs,_,E',rfl,h3,restore hS hS' h2,pack_sat hus⟩
structure LoopOK (P : Program) (N : Nat) (aq bd : C) (ps : List Nat) (R : Loop) : Prop where
 st : R.state = .ready
 pe : R.pending = none
 ps : R.params.toList = ps
 sz : R.tmps.size = N
 tr : ∃ fz,trC P N fz R.assign = some aq ∧ trC P N fz R.body = some bd
abbrev yv (l : Nat) : AV:=.v (.func (.yield l) #[] #[])
def busyL (R : Loop) : Loop:={ R with state:=.busy }
def doneL (R : Loop) (c : Code) : Loop:={ R with state:=.done,pending:=some c }
def EndP (Q : Ex → S → Prop) (s : S) : Option Code → Prop
 |none=>Q .n s
 |some .ret=>Q .r s
 |some (.exit id)=>Q (.e id) s
 |_=>False
def EndL (k l : Nat) (Q : Ex → S → Prop) : AV → S → Prop:=fun _ s'=>
 ∃ R' tm',lm s'.mem k = some (.oth (.lp l R' tm')) ∧ R'.state ≠ .busy ∧ EndP Q ⟨s'.tm,delm s'.mem k,s'.nx⟩ R'.pending
theorem W_rfn {P : Program} {N : Nat} {g : Operand} {ps : List Nat} {aq bd : C} {s : S} {Q : Ex → S → Prop} {gi : Nat} {fi ca : List AV} (hg : ev s.tm g = .clo gi fi ca ∨ ev s.tm g = .cq gi fi ca)
  (h : ∀ (l : Nat) (R : Loop),LoopOK P N aq bd ps R → Inl P gi (fi ++ [yv l] ++ ca) ⟨s.tm,(s.nx,.oth (.lp l R s.tm)) :: s.mem,s.nx + 1⟩ (EndL s.nx l Q)) : W P N (.rfn g ps aq bd) s Q:=by
 intro hm code fz ht r nf G E x w hG hS
 obtain ⟨qs,ca',cb',rfl,hqs,hta,htb⟩:=trC_rfn ht
 refine wpIn_rangeFunc (fun fn _=>?_)
 obtain ⟨l,mark,w1,rec,he,hok,hrec,hl,hbel,hmk,hpw,hrt⟩ : ∃ l mark w1 rec,(Instr.enterLoop fn x.tmps qs ca' cb' (W1 r).round).run P w = .ok (l,mark) w1 ∧ LoopOK P N aq bd ps rec ∧ w1.heap[l]? = some (Obj.loop rec) ∧ w.heap.size ≤ l ∧
   Below w.heap.size w w1 ∧ (∀ d ∈ mark,∃ D,d = { target:=.collected D,args:=#[] } ∧ w.heap.size ≤ D ∧ w1.heap[D]? = some (Obj.deferred (some []))) ∧ mark.Pairwise (· ≠ ·) ∧ rec.tmps = x.tmps:=by
  have hsz : x.tmps.size = N:=hS.st.sz.trans hG.1
  cases r with
  |none=>
   refine ⟨_,_,_,{ state:=.ready,pending:=none,fn,tmps:=x.tmps,params:=qs,assign:=ca',body:=cb',defers:=w.heap.size },run_enterLoop_outer _ _ _ _ _,⟨rfl,rfl,hqs,hsz,fz,hta,htb⟩,?_,by omega,?_,?_,?_,rfl⟩
   ·have:=World.alloc_heap_new (w.alloc (.deferred (some []))) (.loop { state:=.ready,pending:=none,fn,tmps:=x.tmps,params:=qs,assign:=ca',body:=cb',defers:=w.heap.size })
    rwa [World.size_alloc] at this
   ·exact ((Below.refl _ w).alloc (Nat.le_refl _) _).alloc (by simp) _
   ·intro d hd
    rw [List.mem_singleton] at hd
    subst hd
    refine ⟨w.heap.size,rfl,Nat.le_refl _,(Below.heap_alloc _ _ _ (by simp)).trans (World.alloc_heap_new w _)⟩
   ·simp
  |some l0=>
   obtain ⟨rec0,hr0⟩:=hS.st.rd l0 hG.2.1
   refine ⟨_,_,_,_,run_enterLoop_inner hr0 _ _ _ _ _,⟨rfl,rfl,hqs,hsz,fz,hta,htb⟩,World.alloc_heap_new w _,Nat.le_refl _,(Below.refl _ w).alloc (Nat.le_refl _) _,fun d hd=>(by cases hd),.nil,rfl⟩
 have hko:=keeps_grow hbel
 have hfr:=hS.st.fresh s.nx (hS.nx _ (Nat.le_refl _))
 have hlt : ∀ k blk b,lm s.mem k = some blk → blkLoc E k blk = some b → b < w.heap.size:=fun k blk b hk hb=>(blkLoc_lt blk (hS.st.memv k blk hk) b hb).2
 have hw0 : G.w0.heap.size ≤ w.heap.size:=hS.st.ext.size
 have hwr : G.wr.heap.size ≤ w.heap.size:=hS.st.kd.size
 have step:=hS.st.step s.nx (.oth (.lp l rec s.tm)) E w1 (Env.le.refl E) (fun b hb=>hbel.block b (hS.st.fz b hb).1) hko (hS.st.ext.trans (hbel.mono hw0))
  (fun b hb=>⟨Nat.lt_of_lt_of_le (hS.st.fz b hb).1 hbel.size,(hS.st.fz b hb).2⟩) (fun k _=>⟨rfl,fun _=>rfl⟩)
  (fun k blk b hk hkm hb=>⟨hbel.block b (hlt k blk b hkm hb),hS.st.nF k blk b hkm hb⟩)
  ⟨Nat.le_trans hw0 hl,hrec,fun t=>by rw [hrt];exact sat_mono (Env.le.refl E) (fun b hb=>hbel.block b (hS.st.fz b hb).1) _ _ (hS.st.tmv t)⟩
  (fun b hb=>by
   cases hb
   exact ⟨fun hF=>absurd (hS.st.fz _ hF).1 (by omega),fun k blk _ hkm hb'=>absurd (hlt k blk _ hkm hb') (by omega)⟩)
  (fun l' s' hh=>by cases hh) (fun s' e n α d f l' hh=>by cases hh) (fun y hy=>hfr)
 have hS1 : SatS G ⟨s.tm,(s.nx,.oth (.lp l rec s.tm)) :: s.mem,s.nx + 1⟩ E { x with defers:=mark ++ x.defers } w1:=by
  refine ⟨?_,fun k hk=>?_⟩
  ·have e1 : lm ((s.nx,Blk.oth (.lp l rec s.tm)) :: s.mem) = upd (lm s.mem) s.nx (some (.oth (.lp l rec s.tm))):=by funext k;simp only [lm,upd]
   show Sat G (lk s.tm) (lm ((s.nx,Blk.oth (.lp l rec s.tm)) :: s.mem)) E _ w1
   rw [e1]
   exact {
    ext:=step.ext
    fz:=step.fz
    tmv:=step.tmv
    sz:=step.sz
    memv:=step.memv
    inj:=step.inj
    nF:=step.nF
    fresh:=step.fresh
    stampC:=step.stampC
    stampR:=step.stampR
    stampO:=step.stampO
    df:=fun d hd=>by
     rcases List.mem_append.1 hd with hd | hd
     ·obtain ⟨D,h1,h2,h3⟩:=hmk d hd
      exact .inl ⟨D,h1,by omega,fun hF=>absurd (hS.st.fz D hF).1 (by omega),h3⟩
     ·exact step.df d hd
    dn:=by
     refine List.pairwise_append.2 ⟨hpw.imp (fun h e=>absurd e h),step.dn,fun d hd d' hd' he=>?_⟩
     exfalso
     obtain ⟨D,h1,h2,h3⟩:=hmk d hd
     rcases hS.st.df d' hd' with ⟨D',h1',_,_,h3'⟩ | ⟨⟨fv,cap,hfn⟩,_⟩
     ·rw [h1,h1'] at he
      simp only [Deferred.mk.injEq,Target.collected.injEq,and_true] at he
      have:=(Array.getElem?_eq_some_iff.1 h3').1
      omega
     ·rw [← he,h1] at hfn
      cases hfn
    bt:=fun d hd=>⟨List.mem_append_right _ (step.bt d hd).1,(step.bt d hd).2⟩
    kd:=step.kd
    kF:=step.kF
    rd:=step.rd }
  ·have hk' : s.nx + 1 ≤ k:=hk
   show lm ((s.nx,Blk.oth (.lp l rec s.tm)) :: s.mem) k = none
   simp only [lm]
   rw [if_neg (by omega)]
   exact hS.nx k (by omega)
 obtain ⟨hb,hinl⟩:=h l rec hok
 obtain ⟨fv,cv,hgv,hfv,hcv⟩ : ∃ fv cv : List Value,x.eval g = .func (.func gi) fv.toArray cv.toArray ∧ satT E w1 fi fv ∧ satT E w1 ca cv:=by
  have hsg:=ev_sat (l:=s.tm) hS1.st g (fun t _=>rfl)
  have hge : (({ x with defers:=mark ++ x.defers } : Act)).eval g = x.eval g:=by cases g <;> rfl
  rw [hge] at hsg
  rcases hg with hg | hg
  ·rw [hg] at hsg
   simp only [sat,fsat] at hsg
   obtain ⟨fv,cv,h1,h2,h3⟩:=hsg
   exact ⟨fv,cv,h1,satT_of_fsatT _ _ h2,satT_of_fsatT _ _ h3⟩
  ·rw [hg] at hsg
   simp only [sat] at hsg
   exact hsg
 have hT : satT E w1 (fi ++ [yv l] ++ ca) (fv ++ [.func (.yield l) #[] #[]] ++ cv):=by
  refine satT_append (satT_append hfv ?_) hcv
  simp only [satT,yv]
  exact ⟨_,[],rfl,by simp only [sat],rfl⟩
 refine ⟨l,mark,w1,{ target:=.fn (.func gi) cv.toArray,args:=fv.toArray ++ #[Value.func (.yield l) #[] #[]] },w1,gi,(fv ++ [Value.func (.yield l) #[] #[]] ++ cv).toArray,w1,he,?_,fun _ _=>trivial,?_,fun hh=>by simp [W1,Fence.wide] at hh,?_⟩
 ·simp only [resolve,hgv]
  simp [Deferred.ofValue,go_sem]
 ·have : (fv ++ [Value.func (.yield l) #[] #[]] ++ cv).toArray = fv.toArray ++ #[.func (.yield l) #[] #[]] ++ cv.toArray:=by simp
  rw [this]
  simp only [invoke,run_callFunc hb]
 ·refine (callsIn_of (hinl G E _ w1 _ hS1 hT)).mono ?_
  rintro e w3 ⟨v,rv,s',E',rfl,⟨R',tm',hk,hst,hend⟩,hS3,_⟩
  obtain ⟨q1,q2,q3⟩:=hS3.st.memv _ _ hk
  have hS4:=satS_setL hS3 hk { R' with state:=.exhausted } rfl
  have hS5:=satS_drop (k:=s.nx) (x:=.lp l { R' with state:=.exhausted } tm') hS4 (by rw [lm_setm];simp [upd])
  have hdel : ∀ (m : List (Nat × Blk)) (k : Nat) (b : Blk),(lm m k).isSome = true → delm (setm m k b) k = delm m k:=by
   intro m
   induction m with
   |nil=>intro k b hb;simp [lm] at hb
   |cons y m ih=>
    intro k b hb
    obtain ⟨j,c⟩:=y
    simp only [setm]
    by_cases hj : k = j
    ·subst hj;simp [delm]
    ·rw [if_neg hj]
     simp only [lm,if_neg hj] at hb
     simp only [delm,if_neg hj,ih k b hb]
  have hS6 : SatS G ⟨s'.tm,delm s'.mem s.nx,s'.nx⟩ E' { x with defers:=mark ++ x.defers } (w3.putObj l (.loop { R' with state:=.exhausted })):=by
   have:=hdel s'.mem s.nx (.oth (.lp l { R' with state:=.exhausted } tm')) (by rw [hk];rfl)
   rw [← this]
   exact hS5
  refine ⟨R'.pending,_,run_endLoop q2 hst,?_⟩
  clear hS5 hS4
  generalize w3.putObj l (.loop { R' with state:=.exhausted }) = w4 at hS6 ⊢
  cases hp : R'.pending with
  |none=>
   rw [hp] at hend
   exact ⟨_,E',hend,hS6⟩
  |some c=>
   rw [hp] at hend
   simp only [EndP] at hend
   cases c <;> try exact hend.elim
   ·exact wpIn_exit ⟨_,E',hend,hS6⟩
   ·exact wpIn_ret ⟨_,E',hend,hS6⟩
def setT : List (Nat × AV) → List Nat → List AV → List (Nat × AV)
 |tm,p :: ps,x :: xs=>setT ((p,x) :: tm) ps xs
 |tm,_,_=>tm
def RndQ (k kf l : Nat) (R : Loop) (vs : Array Value) (K : Bool → S → Prop) : Ex → S → Prop:=fun e s=>
 ∃ tm2 tmi,lm s.mem k = some (.oth (.lp l (busyL R) tm2)) ∧ lm s.mem kf = some (.oth (.fr vs tmi)) ∧ match e with
 |.n=>K true ⟨tmi,delm (setm s.mem k (.oth (.lp l R tm2))) kf,s.nx⟩
 |.e id=>K false ⟨tmi,delm (setm s.mem k (.oth (.lp l (doneL R (.exit id)) tm2))) kf,s.nx⟩
 |.r=>K false ⟨tmi,delm (setm s.mem k (.oth (.lp l (doneL R .ret) tm2))) kf,s.nx⟩
def AsgQ (P : Program) (N : Nat) (bd : C) (k kf l : Nat) (R : Loop) (vs : Array Value) (K : Bool → S → Prop) : Ex → S → Prop
 |.n,s=>∃ tm1,lm s.mem k = some (.oth (.lp l R tm1)) ∧ W P N bd ⟨s.tm,setm s.mem k (.oth (.lp l (busyL R) tm1)),s.nx⟩ (RndQ k kf l R vs K)
 |_,_=>False
theorem setT_sat {E : Env} {w : World} : ∀ (ps : List Nat) (xs : List AV) (vs : List Value) (tm : List (Nat × AV)) (ts : Array Value),(∀ p ∈ ps,p < ts.size) → satT E w xs vs → (∀ t,sat E w (lk tm t) (ts.getD t undef)) →
  ∀ t,sat E w (lk (setT tm ps xs) t) (((ps.zip vs).foldl (fun tmps p=>tmps.setIfInBounds p.1 p.2) ts).getD t undef)
 |[],xs,vs,tm,ts,_,_,h=>by
  intro t
  have : setT tm [] xs = tm:=by cases xs <;> rfl
  rw [this];simpa using h t
 |p :: ps,[],vs,tm,ts,_,hx,h=>by
  intro t
  simp only [satT] at hx;subst hx
  simpa [setT] using h t
 |p :: ps,x :: xs,vs,tm,ts,hp,hx,h=>by
  intro t
  simp only [satT] at hx
  obtain ⟨y,ys,rfl,h1,h2⟩:=hx
  simp only [setT,List.zip_cons_cons,List.foldl_cons]
  refine setT_sat ps xs ys _ _ (fun q hq=>by simpa using hp q (List.mem_cons_of_mem _ hq)) h2 (fun t'=>?_) t
  have hps:=hp p List.mem_cons_self
  simp only [lk]
  split
  ·rename_i he;subst he
   have : (ts.setIfInBounds t' y).getD t' undef = y:=by simp [hps]
   rw [this];exact h1
  ·rename_i he
   have : (ts.setIfInBounds p y).getD t' undef = ts.getD t' undef:=by
    simp only [Array.getD_eq_getD_getElem?]
    rw [Array.getElem?_setIfInBounds_ne (Ne.symm he)]
   rw [this];exact h t'
theorem fold_size : ∀ (l : List (Nat × Value)) (ts : Array Value),(l.foldl (fun tmps p=>tmps.setIfInBounds p.1 p.2) ts).size = ts.size
 |[],_=>rfl
 |p :: l,ts=>by simp only [List.foldl_cons];rw [fold_size l];simp
def allIn (N : Nat) : List Nat → Bool
 |[]=>true
 |p :: l=>decide (p < N) && allIn N l
theorem allIn_spec {N : Nat} : ∀ {l : List Nat},allIn N l = true → ∀ p ∈ l,p < N
 |[],_,p,hp=>by cases hp
 |q :: l,h,p,hp=>by
  simp only [allIn,Bool.and_eq_true,decide_eq_true_eq] at h
  rcases List.mem_cons.1 hp with rfl | hp
  ·exact h.1
  ·exact allIn_spec h.2 p hp
theorem Yl_of_W {P : Program} {N : Nat} {aq bd : C} {ps : List Nat} {s : S} {l k : Nat} {R : Loop} {tml : List (Nat × AV)} {args : List AV} {K : Bool → S → Prop} (hm : P.follows .mixedOrders = true)
  (hOK : LoopOK P N aq bd ps R) (hk : lm s.mem k = some (.oth (.lp l R tml))) (hn : args.length = ps.length) (hN : allIn N ps = true)
  (h : ∀ vs : Array Value,W P N aq ⟨setT tml ps args,(s.nx,.oth (.fr vs s.tm)) :: s.mem,s.nx + 1⟩ (AsgQ P N bd k s.nx l R vs K)) : Yl P l args s K:=by
 intro G E a w r nf vs hS hT
 obtain ⟨q1,q2,q3⟩:=hS.st.memv _ _ hk
 obtain ⟨fz,hta,htb⟩:=hOK.tr
 have hlen:=(satT_get hT).1
 have hps : R.params.size = ps.length:=by rw [← hOK.ps,Array.length_toList]
 refine ⟨_,_,_,_,run_yield q2 (by rw [hps];simp;omega),roundIn_of_wpIn trivial ?_⟩
 have hzip : (R.params.zip vs.toArray).foldl (fun tmps (t,a)=>tmps.setIfInBounds t a) R.tmps = (ps.zip vs).foldl (fun tmps p=>tmps.setIfInBounds p.1 p.2) R.tmps:=by
  rw [← hOK.ps,← Array.foldl_toList];simp
 rw [hzip]
 have hb:=enter (Dd:=AlwD P) hS N (some l) { tmps:=(ps.zip vs).foldl (fun tmps p=>tmps.setIfInBounds p.1 p.2) R.tmps,defers:=[] } (setT tml ps args) (by show Array.size _ = N;rw [fold_size];exact hOK.sz) rfl
  (setT_sat ps args vs tml R.tmps (fun p hp=>by rw [hOK.sz];exact allIn_spec hN p hp) hT q3) (fun l' hl'=>by cases hl';exact ⟨R,q2⟩)
 have key:=h a.tmps hm R.assign fz hta (some l) nf _ E _ w ⟨rfl,rfl,fun d (h : AlwD P d true)=>h.2⟩ hb
 refine wpIn_mono key (fun e a1 w1 hx=>?_)
 cases e <;> simp only [WX,AsgQ] at hx <;> first
  |exact hx.elim
  |(obtain ⟨_,_,hx,_⟩:=hx;exact hx.elim)
  |skip
 obtain ⟨s1,E1,⟨tm1,hk1,hW⟩,hS1⟩:=hx
 obtain ⟨p1,p2,p3⟩:=hS1.st.memv _ _ hk1
 refine ⟨_,run_beginRound p2 hOK.st,?_⟩
 have hS2:=satS_setL hS1 hk1 (busyL R) rfl
 refine wpIn_mono (hW hm R.body fz htb (some l) nf _ E1 a1 _ ⟨rfl,rfl,fun d (h : AlwD P d true)=>h.2⟩ hS2) (fun e a3 w3 hx=>?_)
 have fin : ∀ (s3 : S) (E3 : Env) (tm2 tmi : List (Nat × AV)) (jump : Option Code) (R3 : Loop),SatS ⟨G.A,G.w0,N,some l,w,E.F,AlwD P⟩ s3 E3 a3 w3 → lm s3.mem k = some (.oth (.lp l (busyL R) tm2)) → lm s3.mem s.nx = some (.oth (.fr a.tmps tmi)) →
   R3 = { busyL R with state:=if jump.isNone then .ready else .done,pending:=jump } → K jump.isNone ⟨tmi,delm (setm s3.mem k (.oth (.lp l R3 tm2))) s.nx,s3.nx⟩ →
   ∃ v w',(Instr.endRound l jump).run P w3 = .ok v w' ∧ ∃ b s' E',Ending.returned v = .returned (.bool b) ∧ K b s' ∧ SatS G s' E' a w':=by
  intro s3 E3 tm2 tmi jump R3 hS3 hk3 hf3 hR3 hK
  obtain ⟨o1,o2,o3⟩:=hS3.st.memv _ _ hk3
  refine ⟨_,_,run_endRound jump o2,jump.isNone,_,E3,rfl,hK,?_⟩
  subst hR3
  have hS4:=satS_setL hS3 hk3 { busyL R with state:=if jump.isNone then .ready else .done,pending:=jump } rfl
  have hne : k ≠ s.nx:=fun e=>by
   have:=hS.nx k (by omega)
   rw [this] at hk;cases hk
  exact restore hS hS4 (by
   show lm (setm s3.mem k _) s.nx = _
   rw [lm_setm];simp only [upd];rw [if_neg (Ne.symm hne)];exact hf3)
 have hRR : R = { busyL R with state:=if (none : Option Code).isNone then .ready else .done,pending:=none }:=by
  have h1:=hOK.st;have h2:=hOK.pe
  cases R;simp only at h1 h2;subst h1;subst h2;rfl
 cases e <;> simp only [WX] at hx <;> first
  |exact hx.elim
  |(obtain ⟨s3,E3,⟨tm2,tmi,hk3,hf3,hK⟩,hS3⟩:=hx
    first
     |exact fin s3 E3 tm2 tmi none R hS3 hk3 hf3 hRR hK
     |exact fin s3 E3 tm2 tmi (some .ret) (doneL R .ret) hS3 hk3 hf3 rfl hK
     |exact fin s3 E3 tm2 tmi (some (.exit _)) (doneL R (.exit _)) hS3 hk3 hf3 rfl hK)
def regL (ks : List Nat) (ms : Option (List Nat)) (ops : List RO) : C:=.reg ms ops
def loopL (ks : List Nat) (c : C) : C:=.loop c
section
variable {P : Program} {N : Nat} {s s' : S} {Q : Ex → S → Prop} {a b c : C}
theorem W_regL {ms : Option (List Nat)} {rl : List RO} {ks : List Nat} (h : chain P (ddOf ms) rl s (fun s'=>Q .n (s'.keep ks))) : W P N (regL ks ms rl) s Q:=W_reg ks h
theorem W_condD {x : Operand} {p : Prop} [Decidable p] (hx : ev s.tm x = .v (.bool (decide p))) (h1 : p → W P N a s Q) (h2 : ¬ p → W P N b s Q) : W P N (.cond x a b) s Q:=
 W_cond hx (fun h=>h1 (of_decide_eq_true h)) (fun h=>h2 (of_decide_eq_false h))
def repl : List (Nat × AV) → Nat → AV → List (Nat × AV)
 |[],_,_=>[]
 |(s,a) :: r,t,x=>if t = s then (s,x) :: r else (s,a) :: repl r t x
def putAll : List (Nat × AV) → List (Nat × AV) → List (Nat × AV)
 |tm,[]=>tm
 |tm,(t,x) :: r=>putAll (repl tm t x) r
def setAll : List (Nat × Blk) → List (Nat × Blk) → List (Nat × Blk)
 |m,[]=>m
 |m,(k,b) :: r=>setAll (setm m k b) r
def names : List (Nat × Blk) → List Nat
 |[]=>[]
 |(k,_) :: r=>k :: names r
def S.anew (s : S) (ks : List Nat) (f : List (Nat × AV)) (g : List (Nat × Blk)) : S:=⟨putAll (keepL s.tm ks) f,setAll s.mem g,s.nx⟩
theorem W_loopU {ks : List Nat} {ι : Type} (f : ι → List (Nat × AV)) (g : ι → List (Nat × Blk)) (I : ι → Prop) (μ : ι → Nat) (i₀ : ι) (h₀ : I i₀) (hn : normOK ks (names s.mem) s.nx s = true) (he : s.norm ks (names s.mem) s.nx = s.anew ks (f i₀) (g i₀))
  (h : ∀ i,I i → W P N c (s.anew ks (f i) (g i)) (thenQ (fun s'=>∃ i',I i' ∧ μ i' < μ i ∧ normOK ks (names s.mem) s.nx s' = true ∧ s'.norm ks (names s.mem) s.nx = s.anew ks (f i') (g i')) Q)) : W P N (loopL ks c) s Q:=
 W_loop (fun i=>s.anew ks (f i) (g i)) I μ i₀ h₀ (le_to _ _ _ hn he) fun i hi=>W_mono' (h i hi) fun e s'' hq=>by
  cases e with
  |n=>obtain ⟨i',h1,h2,h3,h4⟩:=hq;exact ⟨i',h1,h2,le_to _ _ _ h3 h4⟩
  |e id=>exact hq
  |r=>exact hq
def WK (ks : List Nat) (P : Program) (N : Nat) (b : C) (s : S) (Q : Ex → S → Prop) : Prop:=W P N b s Q
def seqL (ks : List Nat) (a b : C) : C:=.seq a b
theorem WK_go {ks : List Nat} (h : W P N b s Q) : WK ks P N b s Q:=h
theorem W_seqL {ks : List Nat} (h : W P N a s (thenQ (fun s'=>WK ks P N b s' Q) Q)) : W P N (seqL ks a b) s Q:=W_seq h
theorem W_meetF {ks : List Nat} (f : List (Nat × AV)) (g : List (Nat × Blk)) (φ : Prop) {Q' : Ex → S → Prop}
  (h : W P N a s (thenQ (fun s'=>φ ∧ normOK ks (names s.mem) s.nx s' = true ∧ s'.norm ks (names s.mem) s.nx = s.anew ks f g) Q)) (h2 : φ → W P N b (s.anew ks f g) Q') : W P N a s (thenQ (fun s'=>WK ks P N b s' Q') Q):=
 W_mono h fun e s'' hq=>by
  cases e with
  |n=>obtain ⟨h1,h3,h4⟩:=hq;exact ⟨_,le.refl _,W_le (le_to _ _ _ h3 h4) (h2 h1)⟩
  |e id=>exact ⟨_,le.refl _,hq⟩
  |r=>exact ⟨_,le.refl _,hq⟩
theorem W_meet {ks : List Nat} (f : List (Nat × AV)) (g : List (Nat × Blk)) {Q' : Ex → S → Prop}
  (h : W P N a s (thenQ (fun s'=>normOK ks (names s.mem) s.nx s' = true ∧ s'.norm ks (names s.mem) s.nx = s.anew ks f g) Q)) (h2 : W P N b (s.anew ks f g) Q') : W P N a s (thenQ (fun s'=>WK ks P N b s' Q') Q):=
 W_meetF f g True (W_mono' h fun e s'' hq=>by
  cases e with
  |n=>exact ⟨trivial,hq⟩
  |e id=>exact hq
  |r=>exact hq) (fun _=>h2)
end
theorem satL_nth_any {E : Env} {w : World} {l : List AV} {vs : List Value} (h : satL E w l vs) {i : Nat} (hi : i < l.length) : ∃ x,vs[i]? = some x ∧ sat E w (nth l i) x:=by
 obtain ⟨x,h1,_,h2⟩:=satL_nth h hi
 exact ⟨x,h1,h2⟩
theorem le_adoptC {s : S} (k o T n : Nat) {α : Type} (d : α) (f : α → List AV) (hn : 0 < n) (l : List AV) (hm : lm s.mem k = some (.cells l)) (ho : nth l o = .v (.slice none 0 0)) (hlt : o < l.length) :
  le s ⟨s.tm,(s.nx,.row 0 T n d f []) :: setm s.mem k (.cells (setL l o [.row s.nx 0])),s.nx + 1⟩:=by
 intro G E a w hS
 have hfr:=hS.st.fresh s.nx (hS.nx _ (Nat.le_refl _))
 have hne : k ≠ s.nx:=fun e=>by have:=hS.nx k (by omega);rw [this] at hm;cases hm
 let E' : Env:=⟨E.b,fun k s'=>if k = s.nx ∧ s' = 0 then some (none,0,0) else E.h k s',E.F⟩
 have hE : E.le E':=⟨fun _ _ h=>h,fun k s' x h=>by
  by_cases hk : k = s.nx ∧ s' = 0
  ·obtain ⟨rfl,rfl⟩:=hk
   rw [hfr.2 0] at h;cases h
  ·simp only [E',if_neg hk];exact h,fun _ h=>h⟩
 have hold : ∀ k,k ≠ s.nx → E'.b k = E.b k ∧ ∀ s',E'.h k s' = E.h k s':=fun k hk=>⟨rfl,fun s'=>by simp only [E'];rw [if_neg (fun h=>hk h.1)]⟩
 have h0 : E'.h s.nx 0 = some (none,0,0):=by simp [E']
 have step:=hS.st.step s.nx (.row 0 T n d f []) E' w hE (fun _ _=>rfl) (KeepsOthers.refl w) hS.st.ext hS.st.fz hold
   (fun k blk b hk hm hb=>⟨rfl,hS.st.nF k blk b hm hb⟩)
   ⟨(none,0,0),[],h0,⟨by simp,.inl ⟨rfl,rfl⟩⟩,hn,fun i x hx=>by simp at hx⟩
   (fun b hb=>by simp [blkLoc,h0,hv,Value.ownBlock] at hb)
   (fun l s' h=>by cases h)
   (fun s1 e n' α' d' f' l' h=>by
    cases h
    exact ⟨hfr.1,fun s' hs=>by simp only [E'];rw [if_neg (fun h=>by omega)];exact hfr.2 s'⟩)
 have hmk : upd (lm s.mem) s.nx (some (Blk.row 0 T n d f [])) k = some (.cells l):=by simp only [upd];rw [if_neg hne];exact hm
 obtain ⟨b,cs,T',q1,q2,q3,q4⟩:=step.memv k _ hmk
 have hnil : cs.toList[o]? = some (.slice none 0 0):=by
  obtain ⟨x,h1,h2⟩:=satL_nth_any q4 hlt
  rw [ho] at h2
  simp only [sat] at h2
  rw [h1,h2]
 have hlen:=satL_len q4
 have q5 : satL E' w (setL l o [.row s.nx 0]) cs.toList:=by
  have h1 : satL E' w [AV.row s.nx 0] [Value.slice none 0 0]:=by
   simp only [satL,sat]
   exact ⟨_,[],rfl,rfl,⟨_,h0,rfl⟩,rfl⟩
  have h2:=satL_setL (o:=o) q4 h1
  have : cs.toList.take o ++ [Value.slice none 0 0] ++ cs.toList.drop (o + 1) = cs.toList:=by
   have hlt' : o < cs.toList.length:=by omega
   have hg : cs.toList[o] = .slice none 0 0:=by rw [List.getElem?_eq_getElem hlt'] at hnil;simpa using hnil
   rw [← hg,List.append_assoc,List.singleton_append,← List.drop_eq_getElem_cons hlt',List.take_append_drop]
  simp only [List.length_cons,List.length_nil,Nat.zero_add] at h2
  rw [this] at h2
  exact h2
 have step2:=step.step k (.cells (setL l o [.row s.nx 0])) E' w (Env.le.refl E') (fun _ _=>rfl) (KeepsOthers.refl w) hS.st.ext step.fz (fun _ _=>⟨rfl,fun _=>rfl⟩)
   (fun k' blk b' hk hm' hb=>⟨rfl,step.nF k' blk b' hm' hb⟩) ⟨b,cs,T',q1,q2,q3,q5⟩
   (fun b' hb=>⟨step.nF k _ b' hmk hb,fun k' blk hk' hm' hb'=>hk' (step.inj k' k blk _ b' hm' hmk hb' hb)⟩)
   (fun l' s' h=>step.stampC k l s' hmk) (fun s1 e n' α' d' f' l' h=>by cases h)
 have hlm : lm ((s.nx,Blk.row 0 T n d f []) :: setm s.mem k (.cells (setL l o [.row s.nx 0]))) = upd (upd (lm s.mem) s.nx (some (.row 0 T n d f []))) k (some (.cells (setL l o [.row s.nx 0]))):=by
  funext j
  simp only [lm,lm_setm,upd]
  by_cases h1 : j = s.nx
  ·subst h1;rw [if_pos rfl,if_neg (Ne.symm hne),if_pos rfl]
  ·rw [if_neg h1,if_neg h1]
 refine ⟨E',⟨?_,fun j hj=>?_⟩⟩
 ·show Sat G (lk s.tm) (lm ((s.nx,Blk.row 0 T n d f []) :: setm s.mem k (.cells (setL l o [.row s.nx 0])))) E' a w
  rw [hlm];exact step2
 ·have hj' : s.nx + 1 ≤ j:=hj
  show lm ((s.nx,Blk.row 0 T n d f []) :: setm s.mem k (.cells (setL l o [.row s.nx 0]))) j = none
  simp only [lm,lm_setm,upd]
  rw [if_neg (by omega),if_neg (fun e=>by subst e;have:=hS.nx j (by omega);rw [this] at hm;cases hm)]
  exact hS.nx j (by omega)
theorem StopC.yld {P : Program} {s : S} {q : Prop} {l : Nat} {args : List AV} {p : Path} {dst : Option Nat} {rest : List RO} {K : S → Prop} (h : pc p → q ∧ Yl P l args s (fun b s'=>chain P none rest (s'.app dst [] (.v (.bool b)) none) K)) (h2 : ¬ pc p → chain P none rest (s.app dst p (.v (.bool false)) none) K) :
  StopC P (.yld q l args) none p dst rest s K:=⟨rfl,h,h2⟩
attribute [irreducible] WK seqL
attribute [push_cast] strip_rsf ids_rsf idH_rsf dT_clr sp_clr clrA slcM slcR strip_fm view_fm ids_fm idH_fm dT_mlk sp_mlk mlkA mlkB keyV allV outM dT_isn sp_isn isnA dT_isp sp_isp ispA dT_dead dT_slen dT_sidx sp_dead sp_slen sp_sidx slenA sidxA sp_idx idxA repl putAll setAll names S.anew delm setT chain2_yld drawStep_yld
theorem lm_nil (k : Nat) : lm [] k = none:=rfl
theorem lm_cons (s : Nat) (a : Blk) (r : List (Nat × Blk)) (t : Nat) : lm ((s,a) :: r) t = if t = s then some a else lm r t:=rfl
attribute [push_cast] chain_cons chain_nil chain1_some chain1_none chain1_drawS drawStep_ok drawStep_oku drawStep_call drawStep_bls drawStep_mks drawStep_sla drawStep_app drawStep_app0 drawStep_str drawStep_no chain2_ok chain2_call chain2_bls chain2_mks chain2_app chain2_app0 chain2_str chain2_sla chain2_no pathOf lk lm_nil lm_cons setm underAll R.opds R.uops under covers findL sp_mv sp_pick sp_box sp_alc sp_bld sp_bls sp_ld sp_st sp_nilc sp_bin sp_eqb sp_un sp_cvt sp_mkf sp_mks sp_slc sp_sla sp_fa sp_fl sp_ia sp_iaa sp_ext sp_len sp_call sp_callv sp_app sp_mx sp_mn evS_tmp evS_const evS_func evS_global evL evP evO viewL callB strip_v strip_own strip_row strip_roff strip_fp strip_sl strip_agg strip_tup strip_clo strip_fq strip_cq strip_gd strip_bad ev_tmp ev_const ev_func ev_global ldA ldL stA newC faA flA iaA iaaA extA lenA nilA slcA slaA mksA mksB appA appB bldB bldC blsB blsC partsL partsIn setL rep cellsOf cellsV valL mkfA binA binV eqV eqL eqA unA cvtA mxA mnA foldMx foldMn pickQ pk_true pk_false S.app putO putM gdd pc okU there hasM cut nth keep_eq keepL view_v view_fp view_sl view_clo view_agg view_fq view_cq view_own viewC_cells view_row viewR_row frzB frzAll pureB pureAll ddOf okD nextD dT_mv dT_pick dT_box dT_alc dT_bld dT_bls dT_nilc dT_bin dT_eqb dT_un dT_cvt dT_mkf dT_mks dT_slc dT_sla dT_fa dT_fl dT_iaa dT_idx dT_ext dT_mx dT_mn dT_ld dT_st dT_ia dT_len dT_app dT_call dT_callv idH_own idH_row idH_roff idH_v idH_fp idH_sl idH_fq idH_agg idH_clo idH_bad touchL ids_v ids_fp ids_sl ids_clo ids_bad ids_gd ids_agg ids_tup ids_row ids_roff ids_own ids_fq ids_cq ids_zero idsB_cells idsB_row idsB_none confl meets has init initT thenQ blockQ norm_eq keepM wrap64 Option.map_some Option.map_none Option.toList_some Option.toList_none List.map_cons List.map_nil List.flatMap_cons List.flatMap_nil List.append_nil List.nil_append List.cons_append List.any_cons List.any_nil List.isEmpty_nil List.isEmpty_cons List.tail_cons List.length_cons List.length_nil List.drop_succ_cons List.drop_zero List.drop_nil List.take_succ_cons List.take_zero List.take_nil List.toList_toArray List.all_cons List.all_nil Value.oneCell' Int.toNat_zero Int.le_refl Nat.le_refl Nat.zero_add Nat.add_zero Int.toNat_natCast Bool.or_false Bool.false_or Bool.or_true Bool.true_or Bool.and_true Bool.true_and Bool.and_self Bool.or_self Bool.false_eq_true Bool.and_false Bool.false_and Bool.not_true Bool.not_false beq_self_eq_true true_and and_true forall_const or_false false_or or_true true_or implies_true if_true if_false ite_true ite_false and_self eq_self false_implies Bool.if_false_right Bool.if_true_left not_true_eq_false not_false_eq_true true_implies ne_eq
theorem txA {P : Program} {f : Nat} {c : C} {N np : Nat} {rv : List RV} {fn : _} (fz : List Nat) (h : P.funcs[f]? = some fn) (h1 : fn.body.bind (trC P N fz) = some c := by kernel_rfl) (h2 : (fn.name == "runtime.NumGoroutine") = false := by kernel_rfl) (h3 : N = np + (fn.ntmps - np) := by kernel_rfl) (h4 : rvL P fn.results.toList = some rv := by kernel_rfl) : Text P f c N np rv := ⟨⟨fn, fz, h, h1, h2, h3, h4⟩⟩
def qt (n : Nat) : Operand:=.tmp n
def qi (n : Int) : Operand:=.const (.int .i64 n)
def qm (d x : Nat) : RO:=⟨some d,.mv (.tmp x),none⟩
def qf (d k x : Nat) : RO:=⟨some d,.fa k (.tmp x),none⟩
def ql (d T n x : Nat) : RO:=⟨some d,.ld T n false (.tmp x),none⟩
def qL (d T n x : Nat) : RO:=⟨some d,.ld T n true (.tmp x),none⟩
def qb (d T : Nat) (o : BinOp) (x y : Nat) : RO:=⟨some d,.bin T o (.tmp x) (.tmp y),none⟩
def qc (d T : Nat) (o : BinOp) (x : Nat) (c : Int) : RO:=⟨some d,.bin T o (.tmp x) (.const (.int .i64 c)),none⟩
def qe (d i x : Nat) : RO:=⟨some d,.ext i (.tmp x),none⟩
def qa (d n x i : Nat) : RO:=⟨some d,.ia n (.tmp x) (.tmp i),none⟩
def qw (d x : Nat) : RO:=⟨some d,.len (.tmp x),none⟩
def qx (d T x : Nat) : RO:=⟨some d,.box true T (.tmp x),none⟩
def qn (d x : Nat) : RO:=⟨some d,.un .not (.tmp x),none⟩
def qs (T n x y : Nat) : RO:=⟨none,.st T n (.tmp x) (.tmp y),none⟩
def qp (d g x : Nat) : RO:=⟨some d,.pick g (.const (.bool true)) (.tmp x),none⟩
def qq (d g x : Nat) : RO:=⟨some d,.pick g (.tmp x) (.const (.bool false)),none⟩
def qo (d : Nat) (o : R) : RO:=⟨some d,o,none⟩
def qg (d : Nat) (o : R) (g : Nat) (b : Bool) : RO:=⟨some d,o,some (g,b)⟩
def qM (d x g : Nat) (b : Bool) : RO:=⟨some d,.mv (.tmp x),some (g,b)⟩
def qk (d T n x g : Nat) (b : Bool) : RO:=⟨some d,.ld T n false (.tmp x),some (g,b)⟩
def qh (d k x g : Nat) (b : Bool) : RO:=⟨some d,.fa k (.tmp x),some (g,b)⟩
attribute [push_cast] qt qi qm qf ql qL qb qc qe qa qw qx qn qs qp qq qo qg qM qk qh
theorem sy1 {p q : Prop} (h : q) (e : p = q:=by conv=>lhs;simp (maxSteps:=400000) (disch:=omega) only [push_cast,↓reduceIte,reduceCtorEq,Nat.reduceAdd,Nat.reduceSub,Nat.reduceEqDiff,Nat.reduceLeDiff,Nat.reduceLT,Nat.reduceBEq,Nat.reduceDiv,Nat.reduceMod,Nat.reducePow,Nat.reduceMul,Int.reduceToNat,Int.reduceLT,Int.reduceLE]) : p:=e.mpr h
theorem syE {p q : Prop} (h : q) (e : p = q:=by conv=>lhs;simp (maxSteps:=400000) (disch:=omega) only [push_cast,↓reduceIte,reduceCtorEq,Nat.reduceAdd,Nat.reduceSub,Nat.reduceEqDiff,Nat.reduceLeDiff,Nat.reduceLT,Nat.reduceBEq,Nat.reduceDiv,Nat.reduceMod,Nat.reducePow,Nat.reduceMul,Int.reduceToNat,Int.reduceLT,Int.reduceLE,S.mk.injEq,List.cons.injEq,Prod.mk.injEq,AV.v.injEq,Value.int.injEq,Value.bool.injEq,Blk.cells.injEq]) : p:=e.mpr h
theorem an2 {p q : Prop} (k : q) (h : p:=by first | omega | (intro hq;(try simp only [Bool.and_eq_true,Bool.or_eq_true,Bool.and_eq_false_iff,Bool.or_eq_false_iff,decide_eq_true_eq,decide_eq_false_iff_not,Bool.not_eq_true',Bool.not_eq_false',beq_iff_eq,beq_eq_false_iff_ne,ne_eq] at hq);omega)) : p ∧ q:=⟨h,k⟩
section
variable {P : Program} {N : Nat} {ks : List Nat} {s : S} {Q : Ex → S → Prop} {a b c : C}
theorem w1g (h : W P N b s Q) : WK ks P N b s Q:=WK_go h
theorem w1l (h : W P N a s (thenQ (fun s'=>WK ks P N b s' Q) Q)) : W P N (seqL ks a b) s Q:=W_seqL h
theorem w1q (h : W P N a s (thenQ (fun s'=>W P N b s' Q) Q)) : W P N (.seq a b) s Q:=W_seq h
theorem w1b {id : Nat} (h : W P N c s (blockQ id Q)) : W P N (.block id c) s Q:=W_block h
theorem w1p (h : W P N c s Q) : W P N (.scp c) s Q:=W_scp h
theorem w1r {ms : Option (List Nat)} {rl : List RO} (h : chain P (ddOf ms) rl s (fun s'=>Q .n (s'.keep ks))) : W P N (regL ks ms rl) s Q:=W_regL h
theorem w1k (h : Q .n s) : W P N .skip s Q:=W_skip h
theorem w1e {id : Nat} (h : Q (.e id) s) : W P N (.exit id) s Q:=W_exit h
end
structure Hid (q : Prop) : Prop where
 mk ::
 get : q
theorem go0 {p q : Prop} (h : q) (e : Hid q → p:=by intro hq;(repeat' (first | refine w1g ?_ | refine w1l ?_ | refine w1q ?_ | refine w1b ?_ | refine w1p ?_ | ((first | refine w1r ?_ | refine w1k ?_ | refine w1e ?_);(refine sy1 ?_;try exact tTI)) | refine an2 ?_ | fail));all_goals exact hq.get) : p:=e ⟨h⟩
end Sy
namespace Sy
open Go Go.RowKit Go.Deep Go.ChangeShapes Go.WideShapes
set_option linter.unusedVariables false
set_option linter.unusedSimpArgs false
theorem fsatL_append {F : Nat → Prop} {w : World} : ∀ {l m : List AV} {vs us : List Value},fsatL F w l vs → fsatL F w m us → fsatL F w (l ++ m) (vs ++ us)
 |[],m,vs,us,h,k=>by simp only [fsatL] at h;subst h;simpa using k
 |c :: cs,m,vs,us,h,k=>by
  simp only [fsatL] at h
  obtain ⟨x,xs,rfl,h1,h2,h3⟩:=h
  simp only [List.cons_append,fsatL]
  exact ⟨x,xs ++ us,rfl,h1,h2,fsatL_append h3 k⟩
theorem weightsAll_mem {H : Type} {P : Program} {e : Nat} : ∀ {l : List (DataW H)} {d : DataW H},d ∈ l → ∀ n ∈ d.weights P e,n ∈ DataW.weightsAll P e l
 |x :: l,d,h,n,hn=>by
  simp only [DataW.weightsAll,List.mem_append]
  rcases List.mem_cons.1 h with rfl | h
  ·exact .inl hn
  ·exact .inr (weightsAll_mem h n hn)
theorem cell_lt {w : World} {a : Addr} {v : Value} (h : w.cell? a = some v) : a.block < w.heap.size:=by
 cases hb : w.heap[a.block]? with
 |none=>simp [World.cell?,hb] at h
 |some o=>exact (Array.getElem?_eq_some_iff.1 hb).1
abbrev inW (w : World) : Nat → Prop:=fun b=>b < w.heap.size
def Codec (P : Program) (t : Nat) {α : Type} (f : α → List AV) (ok : α → Prop) : Prop:=
 ∀ (H : Type) (enc : TypeId × Value → H) (w : World) (base : Nat) (held : Bool) (fuel : Nat) (cs : List Value) (x : DataW H × List MemPlace),
  DataW.trod enc P w base (fun _=>true) held fuel t cs = some x → (∀ n ∈ x.1.weights P t,n ≤ reachBytes) → ∃ a,ok a ∧ fsatL (inW w) w (f a) cs
def Parts (P : Program) (ts : List (Nat × Nat)) (o e : Nat) {α : Type} (f : α → List AV) (ok : α → Prop) : Prop:=
 ∀ (H : Type) (enc : TypeId × Value → H) (w : World) (base : Nat) (held : Bool) (fuel : Nat) (cs : List Value) (xs : List (DataW H × List MemPlace)),xs.length = ts.length →
  (∀ (i : Nat) p,ts[i]? = some p → DataW.trod enc P w base (fun _=>true) held fuel p.1 ((cs.drop p.2).take (P.cellsOf p.1)) = xs[i]?) → (∀ (i : Nat) p y,ts[i]? = some p → xs[i]? = some y → ∀ n ∈ y.1.weights P p.1,n ≤ reachBytes) →
  ∃ a,ok a ∧ fsatL (inW w) w (f a) ((cs.drop o).take (e - o)) ∧ o ≤ e
section
variable {P : Program} {t e : Nat} {α β : Type} {f : α → List AV} {ok : α → Prop} {g : β → List AV} {okb : β → Prop}
theorem Codec.map (h : Codec P t f ok) (m : α → β) (hf : ∀ a,g (m a) = f a) (hok : ∀ a,ok a → okb (m a)) : Codec P t g okb:=fun H enc w base held fuel cs x hx hw=>by
 obtain ⟨a,h1,h2⟩:=h H enc w base held fuel cs x hx hw
 exact ⟨m a,hok a h1,by rw [hf];exact h2⟩
theorem Codec.bool (hu : P.underlying t = some .bool) : Codec P t (fun b : Bool=>[.v (.bool b)]) (fun _=>True):=fun H enc w base held fuel cs x hx hw=>by
 obtain ⟨b,rfl,_⟩:=DataW.trod_bool hu hx
 refine ⟨b,trivial,?_⟩
 simp only [fsatL,fsat]
 exact ⟨_,[],rfl,rfl,rfl,rfl⟩
theorem Codec.int {k : IntKind} (hu : P.underlying t = some (.int k)) : Codec P t (fun n : Int=>[.v (.int k n)]) (fun n=>(Lit.int k n).wf = true):=fun H enc w base held fuel cs x hx hw=>by
 obtain ⟨n,rfl,_,hwf⟩:=DataW.trod_int hu hx
 refine ⟨n,hwf,?_⟩
 simp only [fsatL,fsat]
 exact ⟨_,[],rfl,rfl,rfl,rfl⟩
theorem Codec.slice (hu : P.underlying t = some (.slice e)) (hpos : 0 < P.cellsOf e) {n bytes : Nat} (hn : P.cellsOf e = n) (hb : P.bytesOf e = bytes) (d : α) (h : Codec P e f ok) :
  Codec P t (fun l : List α=>[.sl n d f l]) (fun l=>l.length * bytes ≤ 140737488351232 ∧ l.length ≤ maxLen ∧ ∀ x ∈ l,ok x):=by
 subst hn;subst hb
 intro H enc w base held fuel cs x hx hw
 rcases DataW.trod_slice hu hx with ⟨rfl,_⟩ | ⟨a,len,cap,elems,rest,m,hf,rfl,rfl,hb,hl,hm,hlen,hel,hsp,hns⟩
 ·refine ⟨[],⟨by simp,by simp,fun x hx=>by cases hx⟩,?_⟩
  simp only [fsatL,fsat]
  exact ⟨_,[],rfl,rfl,⟨none,0,rfl,Nat.le_refl _,by simp,by simp⟩,rfl⟩
 ·have hwt : (elems.length + rest.length) * P.bytesOf e ≤ reachBytes:=hw _ (by simp [DataW.weights,hu])
  have hwe : ∀ y ∈ elems,∀ m ∈ y.1.weights P e,m ≤ reachBytes:=fun y hy m hm=>hw m (by
   simp only [DataW.weights,hu,List.mem_cons,List.mem_append]
   exact .inr (.inl (weightsAll_mem (List.mem_map.2 ⟨y,hy,rfl⟩) m hm)))
  have helem : ∀ i,i < len → ∃ avs cs',w.cells? base (a.add (i * P.cellsOf e)) (P.cellsOf e) = some cs' ∧ ok avs ∧ fsatL (inW w) w (f avs) cs':=fun i hi=>by
   have h1:=hel i hi
   rw [List.getElem?_eq_getElem (by omega)] at h1
   obtain ⟨cs',h2,h3⟩:=Option.bind_eq_some_iff.1 h1
   obtain ⟨avs,h4,h5⟩:=h H enc w base held m cs' _ h3 (hwe _ (List.getElem_mem _))
   exact ⟨avs,cs',h2,h4,h5⟩
  have hlist : ∀ m,m ≤ len → ∃ l : List α,l.length = m ∧ ∀ (i : Nat) y,l[i]? = some y → ∃ cs',w.cells? base (a.add (i * P.cellsOf e)) (P.cellsOf e) = some cs' ∧ ok y ∧ fsatL (inW w) w (f y) cs':=by
   intro m
   induction m with
   |zero=>intro _;exact ⟨[],rfl,fun i y h=>by simp at h⟩
   |succ m ihm=>
    intro hm'
    obtain ⟨l,h1,h2⟩:=ihm (by omega)
    obtain ⟨avs,cs',h3,h4,h5⟩:=helem m (by omega)
    refine ⟨l ++ [avs],by simp [h1],fun i y hy=>?_⟩
    by_cases hi : i < m
    ·rw [List.getElem?_append_left (by omega)] at hy
     exact h2 i y hy
    ·rw [List.getElem?_append_right (by omega)] at hy
     have : i = m:=by
      have:=(List.getElem?_eq_some_iff.1 hy).1
      simp at this;omega
     subst this
     simp [h1] at hy;subst hy
     exact ⟨cs',h3,h4,h5⟩
  obtain ⟨l,hll,hl2⟩:=hlist len (Nat.le_refl _)
  have hspot : ∀ {cs' : List Value},w.cells? base (a.add (0 * P.cellsOf e)) (P.cellsOf e) = some cs' → a.block < w.heap.size ∧ a.spot = none:=fun {cs'} hc=>by
   have h0 : ∀ x : Addr,x.add 0 = x:=fun x=>by simp [Addr.add]
   rw [Nat.zero_mul,h0] at hc
   obtain ⟨_,h1,h2⟩:=World.cells?_some hc
   have h3:=h2 0 hpos
   rw [List.getElem?_eq_getElem (by omega),h0] at h3
   exact ⟨cell_lt h3,World.cell?_spot h3⟩
  have hcell : ∃ cs',cap = 0 ∨ w.cells? base (a.add (0 * P.cellsOf e)) (P.cellsOf e) = some cs':=by
   by_cases hc0 : cap = 0
   ·exact ⟨[],.inl hc0⟩
   ·obtain ⟨h1,h2⟩:=hsp rfl
    by_cases hl0 : len = 0
    ·have h3:=h2 0 (by omega)
     rw [List.getElem?_eq_getElem (by omega)] at h3
     obtain ⟨cs',h4,_⟩:=Option.bind_eq_some_iff.1 h3
     rw [hl0,Nat.add_zero] at h4
     exact ⟨cs',.inr h4⟩
    ·obtain ⟨_,cs',h3,_⟩:=helem 0 (by omega)
     exact ⟨cs',.inr h3⟩
  have hmid : cap = 0 ∨ ∃ b o,some a = some (⟨b,o,none⟩ : Addr) ∧ b < w.heap.size:=by
   obtain ⟨cs',h1 | h1⟩:=hcell
   ·exact .inl h1
   ·obtain ⟨h2,h3⟩:=hspot h1
    obtain ⟨b,o,sp⟩:=a
    simp only at h2 h3;subst h3
    exact .inr ⟨b,o,rfl,h2⟩
  refine ⟨l,⟨?_,by omega,fun y hy=>?_⟩,?_⟩
  ·rw [hll,← hlen]
   exact Nat.le_trans (Nat.mul_le_mul_right _ (Nat.le_add_right _ _)) hwt
  ·obtain ⟨i,hi⟩:=List.mem_iff_getElem?.1 hy
   obtain ⟨_,_,h4,_⟩:=hl2 i y hi
   exact h4
  ·simp only [fsatL,fsat]
   refine ⟨_,[],rfl,rfl,⟨some a,cap,by rw [hll],by omega,hmid,?_⟩,rfl⟩
   by_cases hl0 : l = []
   ·exact .inl hl0
   ·right
    have : 0 < len:=by rw [← hll];exact List.length_pos_iff.2 hl0
    obtain ⟨_,cs',h1,_⟩:=helem 0 this
    obtain ⟨h2,h3⟩:=hspot h1
    obtain ⟨b,o,sp⟩:=a
    simp only at h2 h3;subst h3
    refine ⟨b,o,rfl,h2,fun i y hy=>?_⟩
    obtain ⟨cs',h4,h5,h6⟩:=hl2 i y hy
    obtain ⟨_,h7,h8⟩:=World.cells?_some h4
    refine ⟨?_,cs',fun j z hz=>?_,h6⟩
    ·have:=fsatL_len h6
     omega
    ·have hj : j < P.cellsOf e:=by rw [← h7];exact (List.getElem?_eq_some_iff.1 hz).1
     have h9:=h8 j hj
     rw [hz] at h9
     have hadd : ∀ (b o k : Nat),(⟨b,o,none⟩ : Addr).add k = ⟨b,o + k,none⟩:=fun b o k=>by
      unfold Addr.add
      split
      ·rename_i h0;simp [h0]
      ·rfl
     rw [hadd,hadd] at h9
     exact h9
theorem Parts.nil {o : Nat} : Parts P [] o o (fun _ : Unit=>[]) (fun _=>True):=fun H enc w base held fuel cs xs _ _ _=>⟨(),trivial,by simp [fsatL],Nat.le_refl _⟩
theorem Parts.cons {ts : List (Nat × Nat)} {o c e : Nat} (h : Codec P t f ok) (hc : P.cellsOf t = c) (hs : Parts P ts (o + c) e g okb) : Parts P ((t,o) :: ts) o e (fun x : α × β=>f x.1 ++ g x.2) (fun x=>ok x.1 ∧ okb x.2):=by
 intro H enc w base held fuel cs xs hl ht hw
 obtain ⟨x,xs,rfl⟩ : ∃ x r,xs = x :: r:=by
  cases xs with
  |nil=>simp at hl
  |cons x r=>exact ⟨x,r,rfl⟩
 obtain ⟨a,h1,h2⟩:=h H enc w base held fuel _ x (ht 0 _ rfl) (hw 0 _ _ rfl rfl)
 obtain ⟨b,h3,h4,h5⟩:=hs H enc w base held fuel cs xs (by simpa using hl) (fun i p hp=>by simpa using ht (i + 1) p (by simpa using hp)) (fun i p y hp hy=>hw (i + 1) p y (by simpa using hp) (by simpa using hy))
 refine ⟨(a,b),⟨h1,h3⟩,?_,by omega⟩
 subst hc
 have hsplit : (cs.drop o).take (e - o) = (cs.drop o).take (P.cellsOf t) ++ (cs.drop (o + P.cellsOf t)).take (e - (o + P.cellsOf t)):=by
  rw [← List.drop_drop,show e - o = P.cellsOf t + (e - (o + P.cellsOf t)) by omega,List.take_add]
 rw [hsplit]
 exact fsatL_append h2 h4
theorem Codec.struct {fs : Array Field} {ts : List (Nat × Nat)} {z : Nat} (hu : P.underlying t = some (.struct fs)) (hts : fs.toList.map (fun f=>(f.type,f.offset)) = ts) (hz : P.cellsOf t = z) (h : Parts P ts 0 z f ok) : Codec P t f ok:=by
 intro H enc w base held fuel cs x hx hw
 obtain ⟨xs,n,hf,rfl,hcl,hxl,hg⟩:=DataW.trod_struct hu hx
 subst hts
 obtain ⟨a,h1,h2,_⟩:=h H enc w base held n cs xs (by simp [hxl]) (fun i p hp=>by
  rw [List.getElem?_map] at hp
  obtain ⟨fd,h3,rfl⟩:=Option.map_eq_some_iff.1 hp
  exact hg i fd (by simpa using h3)) (fun i p y hp hy m hm=>by
  rw [List.getElem?_map] at hp
  obtain ⟨fd,h3,rfl⟩:=Option.map_eq_some_iff.1 hp
  refine hw m ?_
  simp only [DataW.weights,hu]
  refine DataW.weights_mem_each (j:=i) (t:=fd.type) (d:=y.1) ?_ ?_ m hm
  ·rw [List.getElem?_map,h3];rfl
  ·rw [List.getElem?_map,hy];rfl)
 refine ⟨a,h1,?_⟩
 rw [List.drop_zero,Nat.sub_zero,← hz,← hcl,List.take_length] at h2
 exact h2
theorem Codec.array {n z c : Nat} {ts : List (Nat × Nat)} (hu : P.underlying t = some (.array n e)) (hc : P.cellsOf e = c) (hts : (List.range n).map (fun i=>(e,i * c)) = ts) (hz : P.cellsOf t = z) (h : Parts P ts 0 z f ok) : Codec P t f ok:=by
 subst hc
 intro H enc w base held fuel cs x hx hw
 obtain ⟨xs,m,hf,rfl,hcl,hxl,hg⟩:=DataW.trod_array hu hx
 subst hts
 obtain ⟨a,h1,h2,_⟩:=h H enc w base held m cs xs (by simp [hxl]) (fun i p hp=>by
  rw [List.getElem?_map] at hp
  obtain ⟨j,h3,rfl⟩:=Option.map_eq_some_iff.1 hp
  obtain ⟨hlt,he⟩:=List.getElem?_eq_some_iff.1 h3
  simp at hlt he;subst he
  exact hg i hlt) (fun i p y hp hy m hm=>by
  rw [List.getElem?_map] at hp
  obtain ⟨j,h3,rfl⟩:=Option.map_eq_some_iff.1 hp
  refine hw m ?_
  simp only [DataW.weights,hu]
  exact weightsAll_mem (List.mem_map.2 ⟨y,List.mem_of_getElem? hy,rfl⟩) m hm)
 refine ⟨a,h1,?_⟩
 rw [List.drop_zero,Nat.sub_zero,← hz,← hcl,List.take_length] at h2
 exact h2
end
end Sy
namespace Sy
open Go Go.RowKit
set_option linter.unusedVariables false
theorem le_tm {s : S} (tm' : List (Nat × AV)) (h : ∀ (G : Gl) (E : Env) (a : Act) (w : World),SatS G s E a w → ∀ t,sat E w (lk tm' t) (a.tmps.getD t undef)) : le s ⟨tm',s.mem,s.nx⟩:=
 fun G E a w hS=>⟨E,{ hS.st with tmv:=h G E a w hS },hS.nx⟩
section
variable {P : Program} {N : Nat} {a b : C} {s : S} {Q : Ex → S → Prop}
end
set_option linter.unusedSimpArgs false
def fullGo (n : Nat) : Nat → List Nat → Bool
 |_,[]=>true
 |i,m :: ms=>(decide (i < n) || m == 2 ^ i - 1) && fullGo n (i + 1) ms
def fullB (n : Nat) (ms : List Nat) : Bool:=fullGo n 0 ms
theorem fullGo_spec {n : Nat} : ∀ {ms : List Nat} {i : Nat},fullGo n i ms = true → ∀ (j m : Nat),ms[j]? = some m → n ≤ i + j → m = 2 ^ (i + j) - 1
 |[],i,_,j,m,hm,_=>by simp at hm
 |x :: ms,i,h,j,m,hm,hn=>by
  simp only [fullGo,Bool.and_eq_true,Bool.or_eq_true,decide_eq_true_eq,beq_iff_eq] at h
  cases j with
  |zero=>
   simp only [List.getElem?_cons_zero,Option.some.injEq] at hm
   subst hm
   rcases h.1 with q | q
   ·omega
   ·simpa using q
  |succ j=>
   have:=fullGo_spec h.2 j m (by simpa using hm) (by omega)
   rw [this,show i + 1 + j = i + (j + 1) by omega]
theorem full_tb {n : Nat} {ms : List Nat} (h : fullB n ms = true) {j m i : Nat} (hm : ms[j]? = some m) (hn : n ≤ j) (hi : i < j) : tb m i:=by
 have:=fullGo_spec h j m hm (by omega)
 rw [this,Nat.zero_add,tb_iff,Nat.testBit_two_pow_sub_one]
 simpa using hi
section
variable {P : Program} {r : Option Nat} {nf N : Nat} {fz : List Nat} {G : Gl} {ops : Array Oper} {rl : List RO} {ms : List Nat} {s : S} {st : Nat → S} {pp : Nat → Path} {out : Nat → AV} {u : Nat → Option (Nat × Blk)}
theorem restorder (hG : G.N = N) (hrl : trL P N fz ops ops.toList = some rl) (hms : ms = masks ops.toList []) (hE : edgeOK 0 ops.toList = true) {n : Nat} (hF : fullB n ms = true)
  {Q : Exit → Act → World → Prop} {K : S → Prop} (hK : ∀ s E a w,K s → SatS G s E a w → Q .normal a w) :
  ∀ (fuel m : Nat) (listed : Array Bool) (s : S) (E : Env) (a : Act) (w : World),unl listed ≤ fuel → LI ops ms listed → n ≤ m → m ≤ ops.size → (∀ j,j < ops.size → listed.getD j false = decide (j < m)) →
   chain P none (rl.drop m) s K → SatS G s E a w → wpAnyIn (W1 r) nf P .any ops Q fuel listed a w:=by
 obtain ⟨hl,hsp⟩:=trL_spec hrl
 have hlen : rl.length = ops.size:=by rw [hl,Array.length_toList]
 have hmsl : ∀ j,j < ops.size → ∃ mj,ms[j]? = some mj:=fun j hj=>by
  obtain ⟨ms',h1,h2,h3⟩:=masks_spec ops.toList []
  simp only [List.nil_append] at h1
  rw [hms,h1]
  exact ⟨ms'[j]'(by rw [h2,Array.length_toList];exact hj),List.getElem?_eq_getElem _⟩
 have hend : ∀ (m : Nat) (listed : Array Bool) (s : S) (E : Env) (a : Act) (w : World),LI ops ms listed → m ≤ ops.size → (∀ j,j < ops.size → listed.getD j false = decide (j < m)) →
   chain P none (rl.drop m) s K → SatS G s E a w → Region.ready .any ops listed = [] → Q .normal a w:=by
  intro m listed s E a w inv hm hlst hc hS hr
  have : m = ops.size:=by
   apply Classical.byContradiction
   intro hne
   have h1:=all_listed hE inv hr m m (Nat.le_refl _) (by omega)
   rw [hlst m (by omega)] at h1
   simp at h1
  subst this
  rw [List.drop_of_length_le (by omega),chain_nil] at hc
  exact hK s E a w hc hS
 intro fuel
 induction fuel with
 |zero=>
  intro m listed s E a w hf inv hnm hm hlst hc hS
  have hr : Region.ready .any ops listed = []:=by
   cases hc : Region.ready .any ops listed with
   |nil=>rfl
   |cons i l=>
    have : i ∈ Region.ready .any ops listed:=by rw [hc];simp
    have h1:=(mem_ready.1 this).1
    rw [unl_zero (by omega)] at h1
    cases h1
  exact ⟨hr,hend m listed s E a w inv hm hlst hc hS hr⟩
 |succ fuel ih=>
  intro m listed s E a w hf inv hnm hm hlst hc hS
  refine ⟨fun hr=>hend m listed s E a w inv hm hlst hc hS hr,fun i hi=>?_⟩
  obtain ⟨hun,oi,hoi,hall⟩:=mem_ready.1 hi
  have hil : i < ops.size:=(Array.getElem?_eq_some_iff.1 hoi).1
  have hunf:=getD_ff hun
  obtain ⟨mi,hmi⟩:=hmsl i hil
  have hmi' : m ≤ i:=by
   rw [hlst i hil] at hunf
   simpa using hunf
  have him : i = m:=by
   apply Classical.byContradiction
   intro hne
   have:=(anc hms hE inv i i (Nat.le_refl _) oi mi hoi hmi hall m (full_tb hF hmi (by omega) (by omega))).2
   rw [hlst m (by omega)] at this
   simp at this
  subst him
  obtain ⟨ro,hro,h2⟩:=hsp i oi (by simpa using hoi)
  have hdrop : rl.drop i = ro :: rl.drop (i + 1):=by
   have hlt : i < rl.length:=by omega
   rw [List.drop_eq_getElem_cons hlt]
   congr 1
   rw [List.getElem?_eq_getElem hlt] at hro
   simpa using hro
  rw [hdrop] at hc
  have hls : ∀ j,j < ops.size → (listed.setIfInBounds i true).getD j false = decide (j < i + 1):=fun j hj=>by
   by_cases hij : i = j
   ·subst hij
    have : i < listed.size:=by rw [inv.size];exact hil
    simp [this]
   ·rw [getD_set_ne false hij,hlst j hj]
    have : (j < i) ↔ (j < i + 1):=by omega
    simp only [this]
  have hnext : ∀ s' E' a' w',chain P none (rl.drop (i + 1)) s' K → SatS G s' E' a' w' → wpAnyIn (W1 r) nf P .any ops Q fuel (listed.setIfInBounds i true) a' w':=fun s' E' a' w' hc' hS'=>
   ih (i + 1) _ s' E' a' w' (by have:=unl_set hun;omega) (inv.set hi) (by omega) (by omega) hls hc' hS'
  rcases chain_step hc with ⟨p,out,u,_,hok,hc'⟩ | ⟨_,p,hp,hu,hsp'⟩
  rotate_left
  ·unfold wpOpIn
   simp only [hoi]
   exact sp_step hG h2 hS hp hu hsp' _ Q hnext
  have hslots : ∀ x,sat E w (ev s.tm x) (a.eval x):=fun x=>ev_sat hS.st x (fun t _=>rfl)
  obtain ⟨f,hop⟩:=h2.op
  have hG1 : GOk P r nf G (lk s.tm) (lm s.mem) E a w ops oi (gdd p out) u:=by
   refine gok_of hS.st h2.gd (by rw [← pathOf_eq];exact hok.path) (fun g b hg=>hslots _) hok.okU (fun hpc=>?_)
   refine hok.sem r nf G _ _ E a w oi ?_ hpc
   rw [stepP_eq]
   exact stepQ_sem hS.st (hS.nx _ (Nat.le_refl _)) hop hpc (fun x _=>hslots x) (by rw [← underAll_eq];exact hok.under)
  unfold wpOpIn
  simp only [hoi]
  refine hG1 _ Q (fun E' w' v h3 h4 h5=>?_)
  have hS':=satS_app (dst:=oi.dst) (p:=p) hS.nx h4 h5 hok.okU (fun d hd=>by rw [hG];exact h2.lt d hd)
  rw [h2.dst] at hc'
  exact hnext _ E' _ w' hc' hS'
theorem anyorderS (hG : G.N = N) (hrl : trL P N fz ops ops.toList = some rl) (hms : ms = masks ops.toList []) (hE : edgeOK 0 ops.toList = true) (hO : ordAll [] rl ms = true) {n : Nat} (hn : n ≤ ops.size) (hF : fullB n ms = true)
  (R : Run P (rl.take n) ms s st pp out u) (hnx : ∀ k,s.nx ≤ k → lm s.mem k = none) {Q : Exit → Act → World → Prop} {K : S → Prop} (hK : ∀ s E a w,K s → SatS G s E a w → Q .normal a w)
  (hc : chain P none (rl.drop n) (st n) K) :
  ∀ (fuel : Nat) (listed : Array Bool) (E : Env) (a : Act) (w : World),unl listed ≤ fuel → LI ops ms listed → (∀ j,n ≤ j → j < ops.size → listed.getD j false = false) →
   Sat G (Fd (rl.take n) (fun j=>gdd (pp j) (out j)) (fun j=>listed.getD j false) (lk s.tm) (rl.take n).length) (Md u (fun j=>listed.getD j false) (lm s.mem) (rl.take n).length) E a w →
   wpAnyIn (W1 r) nf P .any ops Q fuel listed a w:=by
 obtain ⟨hl,hsp⟩:=trL_spec hrl
 have hlen : rl.length = ops.size:=by rw [hl,Array.length_toList]
 have hl1 : (rl.take n).length = n:=by rw [List.length_take];omega
 have hmsl0 : ∀ j,j < ops.size → ∃ mj,ms[j]? = some mj:=fun j hj=>by
  obtain ⟨ms',h1,h2,h3⟩:=masks_spec ops.toList []
  simp only [List.nil_append] at h1
  rw [hms,h1]
  exact ⟨ms'[j]'(by rw [h2,Array.length_toList];exact hj),List.getElem?_eq_getElem _⟩
 have hget : ∀ j,j < n → (rl.take n)[j]? = rl[j]?:=fun j hj=>by rw [List.getElem?_take,if_pos hj]
 have hgo : ∀ (fuel : Nat) (listed : Array Bool) (E : Env) (a : Act) (w : World),unl listed ≤ fuel → LI ops ms listed → (∀ j,n ≤ j → j < ops.size → listed.getD j false = false) → (∀ j,j < n → listed.getD j false = true) →
   Sat G (Fd (rl.take n) (fun j=>gdd (pp j) (out j)) (fun j=>listed.getD j false) (lk s.tm) (rl.take n).length) (Md u (fun j=>listed.getD j false) (lm s.mem) (rl.take n).length) E a w → wpAnyIn (W1 r) nf P .any ops Q fuel listed a w:=by
  intro fuel listed E a w hf inv hhi hall hS
  have e1 : Fd (rl.take n) (fun j=>gdd (pp j) (out j)) (fun j=>listed.getD j false) (lk s.tm) (rl.take n).length = lk (st n).tm:=by
   rw [R.tm n (by omega),hl1]
   funext t
   exact Fd_congr _ (fun j hj _=>hall j hj)
  have e2 : Md u (fun j=>listed.getD j false) (lm s.mem) (rl.take n).length = lm (st n).mem:=by
   rw [R.mem n (by omega),hl1]
   funext t
   exact Md_congr _ (fun j hj _ _=>hall j hj)
  rw [e1,e2] at hS
  refine restorder hG hrl hms hE hF hK fuel n listed (st n) E a w hf inv (Nat.le_refl _) hn (fun j hj=>?_) hc ⟨hS,R.nxN hnx (by omega)⟩
  by_cases q : j < n
  ·rw [hall j q,decide_eq_true q]
  ·rw [hhi j (by omega) hj,decide_eq_false q]
 intro fuel
 induction fuel with
 |zero=>
  intro listed E a w hf inv hhi hS
  have hr : Region.ready .any ops listed = []:=by
   cases hc : Region.ready .any ops listed with
   |nil=>rfl
   |cons i l=>
    have : i ∈ Region.ready .any ops listed:=by rw [hc];simp
    have h1:=(mem_ready.1 this).1
    rw [unl_zero (by omega)] at h1
    cases h1
  exact hgo 0 listed E a w hf inv hhi (fun j hj=>all_listed hE inv hr j j (Nat.le_refl _) (by omega)) hS
 |succ fuel ih=>
  intro listed E a w hf inv hhi hS
  by_cases hdone : ∀ j,j < n → listed.getD j false = true
  ·exact hgo (fuel + 1) listed E a w hf inv hhi hdone hS
  refine ⟨fun hr=>absurd (fun j hj=>all_listed hE inv hr j j (Nat.le_refl _) (by omega)) hdone,fun i hi=>?_⟩
  obtain ⟨hun,oi,hoi,hall⟩:=mem_ready.1 hi
  have hil : i < ops.size:=(Array.getElem?_eq_some_iff.1 hoi).1
  have hunf:=getD_ff hun
  have hin : i < n:=by
   apply Classical.byContradiction
   intro hge
   obtain ⟨mi,hmi⟩:=hmsl0 i hil
   exact hdone (fun j hj=>(anc hms hE inv i i (Nat.le_refl _) oi mi hoi hmi hall j (full_tb hF hmi (by omega) (by omega))).2)
  have hirl : i < (rl.take n).length:=by omega
  obtain ⟨ro,hro',ht⟩:=hsp i oi (by simpa using hoi)
  have hro : (rl.take n)[i]? = some ro:=by rw [hget i hin];exact hro'
  have hok:=R.ok i ro hro
  obtain ⟨mi,hmi,hcf⟩:=R.cf i ro hro
  have hbefore : ∀ j,tb mi j → listed.getD j false = true:=fun j hj=>(anc hms hE inv i i (Nat.le_refl _) oi mi hoi hmi hall j hj).2
  have hafter : ∀ j rj mj,(rl.take n)[j]? = some rj → ms[j]? = some mj → tb mj i → listed.getD j false = false:=by
   intro j rj mj hj hmj htb
   cases hc : listed.getD j false with
   |false=>rfl
   |true=>
    have hjl : j < ops.size:=by
     have:=(List.getElem?_eq_some_iff.1 hj).1
     omega
    have hoj : ops[j]? = some ops[j]:=Array.getElem?_eq_getElem hjl
    have:=(anc hms hE inv j j (Nat.le_refl _) _ mj hoj hmj (fun e he hb=>inv.closed j _ hoj hc e he hb) i htb).2
    rw [hunf] at this;cases this
  have hmsl : ∀ j,j < (rl.take n).length → ∃ mj,ms[j]? = some mj:=fun j hj=>hmsl0 j (by omega)
  have hslot : ∀ j rj,j < (rl.take n).length → (rl.take n)[j]? = some rj → j ≠ i → (clashS rj ro = true ∧ clashS ro rj = true) → listed.getD j false = decide (j < i):=by
   intro j rj hj hrj hne hcl
   rcases Nat.lt_or_gt_of_ne hne with h | h
   ·rw [decide_eq_true h]
    exact hbefore j (tb_iff.2 (ordAll_spec rl [] ms hO i ro mi hro' hmi j rj (by simp;exact h) (by rw [hget j (by omega)] at hrj;simpa using hrj) hcl.1))
   ·rw [decide_eq_false (by omega)]
    obtain ⟨mj,hmj⟩:=hmsl j hj
    exact hafter j rj mj hrj hmj (tb_iff.2 (ordAll_spec rl [] ms hO j rj mj (by rw [hget j (by omega)] at hrj;exact hrj) hmj i ro (by simp;exact h) (by simpa using hro') hcl.2))
  have hblk : ∀ j rj,j < (rl.take n).length → (rl.take n)[j]? = some rj → j ≠ i →
    (cl (dT (st j) rj.op) (dW (st j) (pp j) rj.op) (dT (st i) ro.op) (dW (st i) (pp i) ro.op) = true ∧ cl (dT (st i) ro.op) (dW (st i) (pp i) ro.op) (dT (st j) rj.op) (dW (st j) (pp j) rj.op) = true) → listed.getD j false = decide (j < i):=by
   intro j rj hj hrj hne hcl
   rcases Nat.lt_or_gt_of_ne hne with h | h
   ·rw [decide_eq_true h]
    exact hbefore j (hcf j rj h hrj hcl.1)
   ·rw [decide_eq_false (by omega)]
    obtain ⟨mj,hmj,hcj⟩:=R.cf j rj hrj
    exact hafter j rj mj hrj hmj (hcj i ro h hro hcl.2)
  have hdec : decide (i < i) = false:=decide_eq_false (Nat.lt_irrefl i)
  have hread : ∀ t ∈ rdS ro,lk (st i).tm t = Fd (rl.take n) (fun j=>gdd (pp j) (out j)) (fun j=>listed.getD j false) (lk s.tm) (rl.take n).length t:=by
   intro t ht'
   rw [R.tm i (by omega),← Fd_lt (rl.take n).length (by omega)]
   refine (Fd_congr _ (fun j hj hd=>?_)).symm
   have hrj : (rl.take n)[j]? = some (rl.take n)[j]:=List.getElem?_eq_getElem hj
   have hdj : (rl.take n)[j].dst = some t:=by simpa [dstAt,hrj] using hd
   by_cases hij : j = i
   ·subst hij;simp only [hunf,hdec]
   ·exact hslot j _ hj hrj hij ⟨clash_rd hdj ht',clash_rd' hdj ht'⟩
  have hmem : ∀ k ∈ dT (st i) ro.op,Md u (fun j=>listed.getD j false) (lm s.mem) (rl.take n).length k = lm (st i).mem k:=by
   intro k hk
   rw [R.mem i (by omega),← Md_lt (rl.take n).length (by omega)]
   refine Md_congr _ (fun j hj b hu=>?_)
   have hrj : (rl.take n)[j]? = some (rl.take n)[j]:=List.getElem?_eq_getElem hj
   by_cases hij : j = i
   ·subst hij;simp only [hunf,hdec]
   ·have hw:=(R.ok j _ hrj).wr k b hu
    refine hblk j _ hj hrj hij ⟨?_,?_⟩
    ·simp only [cl,hw,Bool.or_eq_true];exact .inl (.inl (meets_mem (List.mem_singleton.2 rfl) hk))
    ·simp only [cl,hw,Bool.or_eq_true];exact .inr (meets_mem (List.mem_singleton.2 rfl) hk)
  have hnew : Md u (fun j=>listed.getD j false) (lm s.mem) (rl.take n).length (st i).nx = none:=by
   rw [R.nx i (by omega)]
   have h0 : Md u (fun j=>listed.getD j false) (lm s.mem) (rl.take n).length (s.nx + i) = Md u (fun _=>false) (lm s.mem) (rl.take n).length (s.nx + i):=by
    refine Md_congr _ (fun j hj b hu=>?_)
    have hrj : (rl.take n)[j]? = some (rl.take n)[j]:=List.getElem?_eq_getElem hj
    by_cases hij : j = i
    ·subst hij;exact hunf
    ·have hoku:=(R.ok j _ hrj).okU
     rw [hu] at hoku
     have hw:=(R.ok j _ hrj).wr _ b hu
     rcases hoku.2 with h1 | ⟨h1,h2⟩
     ·rw [R.nx j (by omega)] at h1;omega
     ·obtain ⟨h3,b',hb'⟩:=R.first hnx j (by omega) i ((hasM_iff _ _).1 h2)
      have hwi:=hok.wr _ b' hb'
      have:=hblk j _ hj hrj hij ⟨by simp only [cl,hw,hwi,Bool.or_eq_true];exact .inl (.inr (meets_mem (List.mem_singleton.2 rfl) (List.mem_singleton.2 rfl))),by simp only [cl,hw,hwi,Bool.or_eq_true];exact .inl (.inr (meets_mem (List.mem_singleton.2 rfl) (List.mem_singleton.2 rfl)))⟩
      rw [this];exact decide_eq_false (by omega)
   rw [h0]
   have : ∀ n,Md u (fun _=>false) (lm s.mem) n = lm s.mem:=fun n=>by
    induction n with
    |zero=>rfl
    |succ n ih=>simp only [Md,Bool.false_eq_true,if_false];exact ih
   rw [this]
   exact hnx _ (by omega)
  have hslots : ∀ x,(∀ t,x = .tmp t → t ∈ rdS ro) → sat E w (ev (st i).tm x) (a.eval x):=fun x hx=>ev_sat hS x (fun t htt=>hread t (hx t htt))
  obtain ⟨f,hop⟩:=ht.op
  have hG1 : GOk P r nf G (Fd (rl.take n) (fun j=>gdd (pp j) (out j)) (fun j=>listed.getD j false) (lk s.tm) (rl.take n).length) (Md u (fun j=>listed.getD j false) (lm s.mem) (rl.take n).length) E a w ops oi (gdd (pp i) (out i)) (u i):=by
   refine gok_of hS ht.gd (by rw [← pathOf_eq];exact hok.path) (fun g b hg=>hslots _ (fun t htt=>by cases htt;exact rdS_gd hg)) hok.okU (fun hpc=>?_)
   refine hok.sem r nf G _ _ E a w oi ?_ hpc
   rw [stepP_eq,← stepQ_loc (m':=Md u (fun j=>listed.getD j false) (lm s.mem) (rl.take n).length) hmem]
   exact stepQ_sem hS hnew hop hpc (fun x hx=>hslots x (fun t htt=>by subst htt;exact rdS_slot hx)) (by rw [← underAll_eq];exact hok.under)
  unfold wpOpIn
  simp only [hoi]
  refine hG1 _ Q (fun E' w' v h3 h4 h5=>?_)
  refine ih _ E' _ w' (by have:=unl_set hun;omega) (inv.set hi) (fun j h1 h2=>by rw [getD_set_ne false (show i ≠ j by omega)];exact hhi j h1 h2) ?_
  have hset : ∀ j,(listed.setIfInBounds i true).getD j false = (if j = i then true else listed.getD j false):=fun j=>by
   by_cases hij : j = i
   ·subst hij
    have : j < listed.size:=by rw [inv.size];exact hil
    simp [this]
   ·rw [if_neg hij,getD_set_ne false (Ne.symm hij)]
  have hu2 : Md u (fun j=>(listed.setIfInBounds i true).getD j false) (lm s.mem) (rl.take n).length = updO (Md u (fun j=>listed.getD j false) (lm s.mem) (rl.take n).length) (u i):=by
   funext k
   by_cases hk : ∃ b,u i = some (k,b)
   ·obtain ⟨b,hb⟩:=hk
    have hwi:=hok.wr k b hb
    have e : Md u (fun j=>(listed.setIfInBounds i true).getD j false) (lm s.mem) (rl.take n).length k = Md u (fun j=>decide (j < i + 1)) (lm s.mem) (rl.take n).length k:=by
     refine Md_congr _ (fun j hj b' hu=>?_)
     have hrj : (rl.take n)[j]? = some (rl.take n)[j]:=List.getElem?_eq_getElem hj
     simp only [hset]
     by_cases hij : j = i
     ·subst hij;simp
     ·rw [if_neg hij]
      have hw:=(R.ok j _ hrj).wr k b' hu
      rw [hblk j _ hj hrj hij ⟨by simp only [cl,hw,hwi,Bool.or_eq_true];exact .inl (.inr (meets_mem (List.mem_singleton.2 rfl) (List.mem_singleton.2 rfl))),by simp only [cl,hw,hwi,Bool.or_eq_true];exact .inl (.inr (meets_mem (List.mem_singleton.2 rfl) (List.mem_singleton.2 rfl)))⟩]
      have : (j < i) ↔ (j < i + 1):=by omega
      simp only [this]
    rw [e,Md_lt (rl.take n).length (by omega)]
    simp only [Md,if_true,hb,updO,upd]
   ·have e : Md u (fun j=>(listed.setIfInBounds i true).getD j false) (lm s.mem) (rl.take n).length k = Md u (fun j=>listed.getD j false) (lm s.mem) (rl.take n).length k:=by
     refine Md_congr _ (fun j hj b' hu=>?_)
     simp only [hset]
     rw [if_neg (fun hij=>hk ⟨b',by rw [← hij];exact hu⟩)]
    rw [e]
    cases hui : u i with
    |none=>rfl
    |some kb=>
     obtain ⟨k',b⟩:=kb
     simp only [updO,upd]
     rw [if_neg (fun hkk=>hk ⟨b,by rw [hui,hkk]⟩)]
  have hf2 : Sat G (Fd (rl.take n) (fun j=>gdd (pp j) (out j)) (fun j=>(listed.setIfInBounds i true).getD j false) (lk s.tm) (rl.take n).length) (Md u (fun j=>(listed.setIfInBounds i true).getD j false) (lm s.mem) (rl.take n).length) E' (a.put oi.dst v) w':=by
   rw [hu2]
   cases hd : oi.dst with
   |none=>
    have e : Fd (rl.take n) (fun j=>gdd (pp j) (out j)) (fun j=>(listed.setIfInBounds i true).getD j false) (lk s.tm) (rl.take n).length = Fd (rl.take n) (fun j=>gdd (pp j) (out j)) (fun j=>listed.getD j false) (lk s.tm) (rl.take n).length:=by
     funext t
     refine Fd_congr _ (fun j hj hdj=>?_)
     simp only [hset]
     rw [if_neg (fun hij=>by subst hij;simp [dstAt,hro,ht.dst,hd] at hdj)]
    rw [e]
    exact h4
   |some d=>
    have hrd : ro.dst = some d:=by rw [ht.dst,hd]
    have e : Fd (rl.take n) (fun j=>gdd (pp j) (out j)) (fun j=>(listed.setIfInBounds i true).getD j false) (lk s.tm) (rl.take n).length = upd (Fd (rl.take n) (fun j=>gdd (pp j) (out j)) (fun j=>listed.getD j false) (lk s.tm) (rl.take n).length) d (gdd (pp i) (out i)):=by
     funext t
     by_cases htd : t = d
     ·subst htd
      have e : Fd (rl.take n) (fun j=>gdd (pp j) (out j)) (fun j=>(listed.setIfInBounds i true).getD j false) (lk s.tm) (rl.take n).length t = Fd (rl.take n) (fun j=>gdd (pp j) (out j)) (fun j=>decide (j < i + 1)) (lk s.tm) (rl.take n).length t:=by
       refine Fd_congr _ (fun j hj hdj=>?_)
       have hrj : (rl.take n)[j]? = some (rl.take n)[j]:=List.getElem?_eq_getElem hj
       have hdj' : (rl.take n)[j].dst = some t:=by simpa [dstAt,hrj] using hdj
       simp only [hset]
       by_cases hij : j = i
       ·subst hij;simp
       ·rw [if_neg hij,hslot j _ hj hrj hij ⟨clash_dd hdj' hrd,clash_dd hrd hdj'⟩]
        have : (j < i) ↔ (j < i + 1):=by omega
        simp only [this]
      rw [e,Fd_lt (rl.take n).length (by omega)]
      simp only [Fd,if_true,dstAt,hro,Option.bind_some,hrd,upd]
     ·have e : Fd (rl.take n) (fun j=>gdd (pp j) (out j)) (fun j=>(listed.setIfInBounds i true).getD j false) (lk s.tm) (rl.take n).length t = Fd (rl.take n) (fun j=>gdd (pp j) (out j)) (fun j=>listed.getD j false) (lk s.tm) (rl.take n).length t:=by
       refine Fd_congr _ (fun j hj hdj=>?_)
       simp only [hset]
       rw [if_neg (fun hij=>by subst hij;simp [dstAt,hro,hrd] at hdj;exact htd hdj.symm)]
      rw [e]
      simp only [upd]
      rw [if_neg htd]
    rw [e]
    exact h4.put (by rw [hG];exact ht.lt d hd) h5
  exact hf2
theorem region_split (hm : P.follows .mixedOrders = true) (hG : G.N = N) (hrl : trL P N fz ops ops.toList = some rl) (hE : edgeOK 0 ops.toList = true) (hO : ordAll [] rl (masks ops.toList []) = true) {n : Nat} (hF : fullB n (masks ops.toList []) = true) (hn : n ≤ rl.length)
  {Q : Exit → Act → World → Prop} {K : S → Prop} (hK : ∀ s E a w,K s → SatS G s E a w → Q .normal a w) {E : Env} {a : Act} {w : World} {id : Nat}
  (hc : chain P (some ⟨masks ops.toList [],0,[]⟩) (rl.take n) s (fun s'=>chain P none (rl.drop n) s' K)) (hS : SatS G s E a w) : (Code.region id ops true).wpIn (W1 r) nf P Q a w:=by
 obtain ⟨st,pp,out,u,R,hk⟩:=chain_Run hc
 have hlen : rl.length = ops.size:=by rw [(trL_spec hrl).1,Array.length_toList]
 have hl1 : (rl.take n).length = n:=by rw [List.length_take];omega
 rw [hl1] at hk
 refine wpIn_region_any hm ?_
 have hrep : ∀ j,(Array.replicate ops.size false).getD j false = false:=fun j=>by
  rcases Nat.lt_or_ge j ops.size with h | h
  ·simp [h]
  ·simp [h]
 refine anyorderS hG hrl rfl hE hO (by omega) hF R hS.nx hK hk ops.size _ E a _ ?_ ⟨by simp,fun j oj hj hl=>by rw [hrep] at hl;cases hl⟩ (fun j _ _=>hrep j) ?_
 ·simp [unl]
 ·have e0 : (fun j=>(Array.replicate ops.size false).getD j false) = fun _=>false:=funext hrep
  have e1 : ∀ m,Fd (rl.take n) (fun j=>gdd (pp j) (out j)) (fun _=>false) (lk s.tm) m = lk s.tm:=fun m=>by
   induction m with
   |zero=>rfl
   |succ m ih=>simp only [Fd,Bool.false_eq_true,if_false];exact ih
  have e2 : ∀ m,Md u (fun _=>false) (lm s.mem) m = lm s.mem:=fun m=>by
   induction m with
   |zero=>rfl
   |succ m ih=>simp only [Md,Bool.false_eq_true,if_false];exact ih
  rw [e0,e1,e2]
  exact hS.st.drew
end
section
variable {P : Program} {N : Nat} {s : S} {Q : Ex → S → Prop}
theorem W_regS {ms : List Nat} {rl : List RO} {ks : List Nat} (n : Nat) (hF : fullB n ms = true) (hn : n ≤ rl.length) (h : chain P (some ⟨ms,0,[]⟩) (rl.take n) s (fun s1=>chain P none (rl.drop n) s1 (fun s'=>Q .n (s'.keep ks)))) : W P N (regL ks (some ms) rl) s Q:=by
 intro hm code fz ht r nf G E x w hG hS
 obtain ⟨id,ops,d,rfl,hrl,hd⟩:=trC_reg ht
 rcases hd with ⟨rfl,hx⟩ | ⟨rfl,hx,hE,hO⟩
 ·cases hx
 ·cases hx
  exact region_split hm hG.1 hrl hE hO hF hn (K:=fun s'=>Q .n (s'.keep ks)) (fun s E a w hk hS=>⟨_,E,hk,keep_sat ks hS⟩) h hS
end
theorem lm_set_same (m : List (Nat × Blk)) (k : Nat) (b : Blk) : lm (setm m k b) k = some b:=by
 rw [lm_setm];simp [upd]
theorem lm_set_other (m : List (Nat × Blk)) {k j : Nat} (b : Blk) (h : j ≠ k) : lm (setm m k b) j = lm m j:=by
 rw [lm_setm];simp [upd,h]
theorem setm_setm (k : Nat) (b b' : Blk) : ∀ (m : List (Nat × Blk)),setm (setm m k b) k b' = setm m k b'
 |[]=>by simp [setm]
 |(s,a) :: m=>by
  simp only [setm]
  by_cases h : k = s
  ·rw [if_pos h,if_pos h];simp [setm]
  ·rw [if_neg h,if_neg h];simp only [setm];rw [if_neg h,setm_setm k b b' m]
theorem hasM_set (m : List (Nat × Blk)) (k : Nat) (b : Blk) : hasM (setm m k b) k = true:=(hasM_iff k _).2 (by rw [lm_set_same];simp)
attribute [push_cast] lm_set_same setm_setm hasM_set
theorem le_down {s : S} (nx : Nat) (h : ∀ j,nx ≤ j → lm s.mem j = none) : le s ⟨s.tm,s.mem,nx⟩:=fun G E a w hS=>⟨E,⟨hS.st,h⟩⟩
theorem le_keepL {s : S} (ks : List Nat) (nx : Nat) (h : ∀ j,nx ≤ j → lm s.mem j = none) : le s ⟨keepL s.tm ks,s.mem,nx⟩:=by
 have h1:=le_keep (s:=s) ks
 rw [keep_eq] at h1
 exact h1.trans (le_down nx h)
section
variable {P : Program} {N : Nat} {s : S} {Q : Ex → S → Prop} {a b c : C}
theorem W_loopM {ks : List Nat} {ι : Type} (f : ι → List (Nat × AV)) (mm : ι → List (Nat × Blk)) (I : ι → Prop) (μ : ι → Nat) (nx : Nat) (hf : ∀ i,I i → ∀ j,nx ≤ j → lm (mm i) j = none) (i₀ : ι) (h₀ : I i₀) (he : keepL s.tm ks = putAll (keepL s.tm ks) (f i₀)) (hm : s.mem = mm i₀)
  (h : ∀ i,I i → W P N c ⟨putAll (keepL s.tm ks) (f i),mm i,nx⟩ (thenQ (fun s'=>∃ i',I i' ∧ μ i' < μ i ∧ keepL s'.tm ks = putAll (keepL s.tm ks) (f i') ∧ s'.mem = mm i') Q)) : W P N (loopL ks c) s Q:=
 W_loop (fun i=>⟨putAll (keepL s.tm ks) (f i),mm i,nx⟩) I μ i₀ h₀ (by rw [← he,← hm];exact le_keepL ks nx (fun j hj=>by rw [hm];exact hf i₀ h₀ j hj)) fun i hi=>W_mono' (h i hi) fun e s'' hq=>by
  cases e with
  |n=>
   obtain ⟨i',h1,h2,h3,h4⟩:=hq
   exact ⟨i',h1,h2,by rw [← h3,← h4];exact le_keepL ks nx (fun j hj=>by rw [h4];exact hf i' h1 j hj)⟩
  |e id=>exact hq
  |r=>exact hq
theorem Inl_le {f : Nat} {raw : List AV} {K K' : AV → S → Prop} (h : Inl P f raw s K') (hk : ∀ r s',K' r s' → ∃ s'',K r s'' ∧ ∀ G E a w,SatS G s' E a w → SatS G s'' E a w) : Inl P f raw s K:=by
 refine ⟨h.1,fun G E a w vs hS hT=>?_⟩
 refine (h.2 G E a w vs hS hT).mono ?_
 rintro e w' ⟨v,r,s',E',h1,h2,h3,h4⟩
 obtain ⟨s'',h5,h6⟩:=hk r s' h2
 exact ⟨v,r,s'',E',h1,h5,h6 G E' a w' h3,h4⟩
end
def covB (lo : Nat) (ms : List Nat) : Bool:=(ms.drop lo).all fun m=>m % 2 ^ lo == 2 ^ lo - 1
theorem cov_tb {lo : Nat} {ms : List Nat} (h : covB lo ms = true) {j m i : Nat} (hm : ms[j]? = some m) (hn : lo ≤ j) (hi : i < lo) : tb m i:=by
 have hmem : m ∈ ms.drop lo:=by
  rw [List.mem_iff_getElem?]
  exact ⟨j - lo,by rw [List.getElem?_drop,show lo + (j - lo) = j by omega];exact hm⟩
 have h1:=List.all_eq_true.1 h m hmem
 rw [beq_iff_eq] at h1
 have h2 : (m % 2 ^ lo).testBit i = true:=by rw [h1,Nat.testBit_two_pow_sub_one];simpa using hi
 rw [Nat.testBit_mod_two_pow] at h2
 rw [tb_iff]
 simpa [hi] using h2
def seqB (lo n : Nat) (ms : List Nat) : Bool:=(List.range (n + 1)).all fun i=>covB (lo + i) ms
def AtG (P : Program) (r : Option Nat) (nf : Nat) (G : Gl) (ops : Array Oper) (ms : List Nat) (Q : Exit → Act → World → Prop) (lo : Nat) (s : S) : Prop:=
 ∀ (fuel : Nat) (listed : Array Bool) (E : Env) (a : Act) (w : World),unl listed ≤ fuel → LI ops ms listed → (∀ j,j < ops.size → listed.getD j false = decide (j < lo)) → SatS G s E a w → wpAnyIn (W1 r) nf P .any ops Q fuel listed a w
section
variable {P : Program} {r : Option Nat} {nf N : Nat} {fz : List Nat} {G : Gl} {ops : Array Oper} {rl : List RO} {ms : List Nat} {s : S} {st : Nat → S} {pp : Nat → Path} {out : Nat → AV} {u : Nat → Option (Nat × Blk)}
theorem masks_get (hms : ms = masks ops.toList []) {j : Nat} (hj : j < ops.size) : ∃ mj,ms[j]? = some mj:=by
 obtain ⟨ms',h1,h2,h3⟩:=masks_spec ops.toList []
 simp only [List.nil_append] at h1
 rw [hms,h1]
 exact ⟨ms'[j]'(by rw [h2,Array.length_toList];exact hj),List.getElem?_eq_getElem _⟩
theorem ready_nil {listed : Array Bool} (h : unl listed ≤ 0) : Region.ready .any ops listed = []:=by
 cases hc : Region.ready .any ops listed with
 |nil=>rfl
 |cons i l=>
  have : i ∈ Region.ready .any ops listed:=by rw [hc];simp
  have h1:=(mem_ready.1 this).1
  rw [unl_zero (by omega)] at h1
  cases h1
theorem atg_end (hE : edgeOK 0 ops.toList = true) {Q : Exit → Act → World → Prop} {K : S → Prop} (hK : ∀ s E a w,K s → SatS G s E a w → Q .normal a w) (h : K s) : AtG P r nf G ops ms Q ops.size s:=by
 intro fuel listed E a w hf inv hl hS
 cases fuel with
 |zero=>exact ⟨ready_nil hf,hK s E a w h hS⟩
 |succ fuel=>
  refine ⟨fun _=>hK s E a w h hS,fun i hi=>?_⟩
  obtain ⟨hun,oi,hoi,hall⟩:=mem_ready.1 hi
  have hil : i < ops.size:=(Array.getElem?_eq_some_iff.1 hoi).1
  have:=getD_ff hun
  rw [hl i hil,decide_eq_true hil] at this
  cases this
theorem atg_one (hG : G.N = N) (hrl : trL P N fz ops ops.toList = some rl) (hms : ms = masks ops.toList []) (hE : edgeOK 0 ops.toList = true) {lo : Nat} (hlo : lo < ops.size) (h1 : covB lo ms = true) (h2 : covB (lo + 1) ms = true)
  {Q : Exit → Act → World → Prop} {ro : RO} (hro : rl[lo]? = some ro) {rest : List RO} {K : S → Prop} (hc : chain P none (ro :: rest) s K) (hn : ∀ s',chain P none rest s' K → AtG P r nf G ops ms Q (lo + 1) s') : AtG P r nf G ops ms Q lo s:=by
 obtain ⟨hl,hsp⟩:=trL_spec hrl
 intro fuel listed E a w hf inv hlst hS
 have hnr : Region.ready .any ops listed ≠ []:=fun hr=>by
  have:=all_listed hE inv hr lo lo (Nat.le_refl _) hlo
  rw [hlst lo hlo] at this
  simp at this
 cases fuel with
 |zero=>exact absurd (ready_nil hf) hnr
 |succ fuel=>
  refine ⟨fun hr=>absurd hr hnr,fun i hi=>?_⟩
  obtain ⟨hun,oi,hoi,hall⟩:=mem_ready.1 hi
  have hil : i < ops.size:=(Array.getElem?_eq_some_iff.1 hoi).1
  have hunf:=getD_ff hun
  obtain ⟨mi,hmi⟩:=masks_get hms hil
  have hmi' : lo ≤ i:=by
   rw [hlst i hil] at hunf
   simpa using hunf
  have him : i = lo:=by
   apply Classical.byContradiction
   intro hne
   have:=(anc hms hE inv i i (Nat.le_refl _) oi mi hoi hmi hall lo (cov_tb h2 hmi (by omega) (by omega))).2
   rw [hlst lo (by omega)] at this
   simp at this
  subst him
  obtain ⟨ro',hro',h2⟩:=hsp i oi (by simpa using hoi)
  rw [hro] at hro'
  cases hro'
  have hls : ∀ j,j < ops.size → (listed.setIfInBounds i true).getD j false = decide (j < i + 1):=fun j hj=>by
   by_cases hij : i = j
   ·subst hij
    have : i < listed.size:=by rw [inv.size];exact hil
    simp [this]
   ·rw [getD_set_ne false hij,hlst j hj]
    have : (j < i) ↔ (j < i + 1):=by omega
    simp only [this]
  have hnext : ∀ s' E' a' w',chain P none rest s' K → SatS G s' E' a' w' → wpAnyIn (W1 r) nf P .any ops Q fuel (listed.setIfInBounds i true) a' w':=fun s' E' a' w' hc' hS'=>
   hn s' hc' fuel _ E' a' w' (by have:=unl_set hun;omega) (inv.set hi) hls hS'
  rcases chain_step hc with ⟨p,out,u,_,hok,hc'⟩ | ⟨_,p,hp,hu,hsp'⟩
  rotate_left
  ·unfold wpOpIn
   simp only [hoi]
   exact sp_step hG h2 hS hp hu hsp' _ Q hnext
  have hslots : ∀ x,sat E w (ev s.tm x) (a.eval x):=fun x=>ev_sat hS.st x (fun t _=>rfl)
  obtain ⟨f,hop⟩:=h2.op
  have hG1 : GOk P r nf G (lk s.tm) (lm s.mem) E a w ops oi (gdd p out) u:=by
   refine gok_of hS.st h2.gd (by rw [← pathOf_eq];exact hok.path) (fun g b hg=>hslots _) hok.okU (fun hpc=>?_)
   refine hok.sem r nf G _ _ E a w oi ?_ hpc
   rw [stepP_eq]
   exact stepQ_sem hS.st (hS.nx _ (Nat.le_refl _)) hop hpc (fun x _=>hslots x) (by rw [← underAll_eq];exact hok.under)
  unfold wpOpIn
  simp only [hoi]
  refine hG1 _ Q (fun E' w' v h3 h4 h5=>?_)
  have hS':=satS_app (dst:=oi.dst) (p:=p) hS.nx h4 h5 hok.okU (fun d hd=>by rw [hG];exact h2.lt d hd)
  rw [h2.dst] at hc'
  exact hnext _ E' _ w' hc' hS'
theorem atg_seq (hG : G.N = N) (hrl : trL P N fz ops ops.toList = some rl) (hms : ms = masks ops.toList []) (hE : edgeOK 0 ops.toList = true) {Q : Exit → Act → World → Prop} {K : S → Prop} :
  ∀ (n lo : Nat) (s : S),lo + n ≤ ops.size → (∀ i,i ≤ n → covB (lo + i) ms = true) → chain P none ((rl.drop lo).take n) s K → (∀ s',K s' → AtG P r nf G ops ms Q (lo + n) s') → AtG P r nf G ops ms Q lo s
 |0,lo,s,_,_,hc,hn=>by
  rw [List.take_zero,chain_nil] at hc
  exact hn s hc
 |n + 1,lo,s,hle,hcv,hc,hn=>by
  have hlen : rl.length = ops.size:=by rw [(trL_spec hrl).1,Array.length_toList]
  have hlt : lo < rl.length:=by omega
  have hd : (rl.drop lo).take (n + 1) = rl[lo] :: (rl.drop (lo + 1)).take n:=by rw [List.drop_eq_getElem_cons hlt,List.take_succ_cons]
  rw [hd] at hc
  exact atg_one hG hrl hms hE (by omega) (hcv 0 (by omega)) (hcv 1 (by omega)) (List.getElem?_eq_getElem hlt) hc (fun s' hc'=>
   atg_seq hG hrl hms hE n (lo + 1) s' (by omega) (fun i hi=>by have:=hcv (i + 1) (by omega);rwa [show lo + (i + 1) = lo + 1 + i by omega] at this) hc' (fun s2 hk=>by rw [show lo + 1 + n = lo + (n + 1) by omega];exact hn s2 hk))
theorem anyorderM (hG : G.N = N) (hrl : trL P N fz ops ops.toList = some rl) (hms : ms = masks ops.toList []) (hE : edgeOK 0 ops.toList = true) (hO : ordAll [] rl ms = true) {lo n : Nat} (hn : lo + n ≤ ops.size) (hF : covB (lo + n) ms = true) {sg : List RO} (hsg : sg = (rl.drop lo).take n) {mf : List Nat}
  (R : Run P sg mf s st pp out u) (hcfR : ∀ j ro,sg[j]? = some ro → ∃ m,ms[lo + j]? = some m ∧ ∀ (k : Nat) rk,k < j → sg[k]? = some rk → cl (dT (st k) rk.op) (dW (st k) (pp k) rk.op) (dT (st j) ro.op) (dW (st j) (pp j) ro.op) = true → tb m (lo + k))
  (hnx : ∀ k,s.nx ≤ k → lm s.mem k = none) {Q : Exit → Act → World → Prop} (hc : AtG P r nf G ops ms Q (lo + n) (st n)) :
  ∀ (fuel : Nat) (listed : Array Bool) (E : Env) (a : Act) (w : World),unl listed ≤ fuel → LI ops ms listed → (∀ j,lo + n ≤ j → j < ops.size → listed.getD j false = false) → (∀ j,j < lo → listed.getD j false = true) →
   Sat G (Fd sg (fun j=>gdd (pp j) (out j)) (fun j=>listed.getD (lo + j) false) (lk s.tm) sg.length) (Md u (fun j=>listed.getD (lo + j) false) (lm s.mem) sg.length) E a w →
   wpAnyIn (W1 r) nf P .any ops Q fuel listed a w:=by
 obtain ⟨hl,hsp⟩:=trL_spec hrl
 have hlen : rl.length = ops.size:=by rw [hl,Array.length_toList]
 have hl1 : sg.length = n:=by rw [hsg,List.length_take,List.length_drop];omega
 have hget : ∀ j,j < n → sg[j]? = rl[lo + j]?:=fun j hj=>by rw [hsg,List.getElem?_take,if_pos hj,List.getElem?_drop]
 have hgo : ∀ (fuel : Nat) (listed : Array Bool) (E : Env) (a : Act) (w : World),unl listed ≤ fuel → LI ops ms listed → (∀ j,lo + n ≤ j → j < ops.size → listed.getD j false = false) → (∀ j,j < lo + n → listed.getD j false = true) →
   Sat G (Fd sg (fun j=>gdd (pp j) (out j)) (fun j=>listed.getD (lo + j) false) (lk s.tm) sg.length) (Md u (fun j=>listed.getD (lo + j) false) (lm s.mem) sg.length) E a w → wpAnyIn (W1 r) nf P .any ops Q fuel listed a w:=by
  intro fuel listed E a w hf inv hhi hall hS
  have e1 : Fd sg (fun j=>gdd (pp j) (out j)) (fun j=>listed.getD (lo + j) false) (lk s.tm) sg.length = lk (st n).tm:=by
   rw [R.tm n (by omega),hl1]
   funext t
   exact Fd_congr _ (fun j hj _=>hall (lo + j) (by omega))
  have e2 : Md u (fun j=>listed.getD (lo + j) false) (lm s.mem) sg.length = lm (st n).mem:=by
   rw [R.mem n (by omega),hl1]
   funext t
   exact Md_congr _ (fun j hj _ _=>hall (lo + j) (by omega))
  rw [e1,e2] at hS
  refine hc fuel listed E a w hf inv (fun j hj=>?_) ⟨hS,R.nxN hnx (by omega)⟩
  by_cases q : j < lo + n
  ·rw [hall j q,decide_eq_true q]
  ·rw [hhi j (by omega) hj,decide_eq_false q]
 intro fuel
 induction fuel with
 |zero=>
  intro listed E a w hf inv hhi hlw hS
  exact hgo 0 listed E a w hf inv hhi (fun j hj=>all_listed hE inv (ready_nil hf) j j (Nat.le_refl _) (by omega)) hS
 |succ fuel ih=>
  intro listed E a w hf inv hhi hlw hS
  by_cases hdone : ∀ j,j < lo + n → listed.getD j false = true
  ·exact hgo (fuel + 1) listed E a w hf inv hhi hdone hS
  refine ⟨fun hr=>absurd (fun j hj=>all_listed hE inv hr j j (Nat.le_refl _) (by omega)) hdone,fun I hi=>?_⟩
  obtain ⟨hun,oi,hoi,hall⟩:=mem_ready.1 hi
  have hil : I < ops.size:=(Array.getElem?_eq_some_iff.1 hoi).1
  have hunf:=getD_ff hun
  have hin' : I < lo + n:=by
   apply Classical.byContradiction
   intro hge
   obtain ⟨mi,hmi⟩:=masks_get hms hil
   exact hdone (fun j hj=>(anc hms hE inv I I (Nat.le_refl _) oi mi hoi hmi hall j (cov_tb hF hmi (by omega) (by omega))).2)
  have hlo' : lo ≤ I:=by
   apply Classical.byContradiction
   intro hge
   rw [hlw I (by omega)] at hunf
   cases hunf
  obtain ⟨i,rfl⟩ : ∃ i,I = lo + i:=⟨I - lo,by omega⟩
  have hin : i < n:=by omega
  have hirl : i < sg.length:=by omega
  obtain ⟨ro,hro',ht⟩:=hsp (lo + i) oi (by simpa using hoi)
  have hro : sg[i]? = some ro:=by rw [hget i hin];exact hro'
  have hok:=R.ok i ro hro
  obtain ⟨mi,hmi,hcf⟩:=hcfR i ro hro
  have hbefore : ∀ j,tb mi j → listed.getD j false = true:=fun j hj=>(anc hms hE inv (lo + i) (lo + i) (Nat.le_refl _) oi mi hoi hmi hall j hj).2
  have hafter : ∀ j rj mj,sg[j]? = some rj → ms[lo + j]? = some mj → tb mj (lo + i) → listed.getD (lo + j) false = false:=by
   intro j rj mj hj hmj htb
   cases hc : listed.getD (lo + j) false with
   |false=>rfl
   |true=>
    have hjl : lo + j < ops.size:=by
     have:=(List.getElem?_eq_some_iff.1 hj).1
     omega
    have hoj : ops[lo + j]? = some ops[lo + j]:=Array.getElem?_eq_getElem hjl
    have:=(anc hms hE inv (lo + j) (lo + j) (Nat.le_refl _) _ mj hoj hmj (fun e he hb=>inv.closed (lo + j) _ hoj hc e he hb) (lo + i) htb).2
    rw [hunf] at this;cases this
  have hmsl : ∀ j,j < sg.length → ∃ mj,ms[lo + j]? = some mj:=fun j hj=>masks_get hms (by omega)
  have hslot : ∀ j rj,j < sg.length → sg[j]? = some rj → j ≠ i → (clashS rj ro = true ∧ clashS ro rj = true) → listed.getD (lo + j) false = decide (j < i):=by
   intro j rj hj hrj hne hcl
   rcases Nat.lt_or_gt_of_ne hne with h | h
   ·rw [decide_eq_true h]
    exact hbefore (lo + j) (tb_iff.2 (ordAll_spec rl [] ms hO (lo + i) ro mi hro' hmi (lo + j) rj (by simp;omega) (by rw [hget j (by omega)] at hrj;simpa using hrj) hcl.1))
   ·rw [decide_eq_false (by omega)]
    obtain ⟨mj,hmj⟩:=hmsl j hj
    exact hafter j rj mj hrj hmj (tb_iff.2 (ordAll_spec rl [] ms hO (lo + j) rj mj (by rw [hget j (by omega)] at hrj;exact hrj) hmj (lo + i) ro (by simp;omega) (by simpa using hro') hcl.2))
  have hblk : ∀ j rj,j < sg.length → sg[j]? = some rj → j ≠ i →
    (cl (dT (st j) rj.op) (dW (st j) (pp j) rj.op) (dT (st i) ro.op) (dW (st i) (pp i) ro.op) = true ∧ cl (dT (st i) ro.op) (dW (st i) (pp i) ro.op) (dT (st j) rj.op) (dW (st j) (pp j) rj.op) = true) → listed.getD (lo + j) false = decide (j < i):=by
   intro j rj hj hrj hne hcl
   rcases Nat.lt_or_gt_of_ne hne with h | h
   ·rw [decide_eq_true h]
    exact hbefore (lo + j) (hcf j rj h hrj hcl.1)
   ·rw [decide_eq_false (by omega)]
    obtain ⟨mj,hmj,hcj⟩:=hcfR j rj hrj
    exact hafter j rj mj hrj hmj (hcj i ro h hro hcl.2)
  have hdec : decide (i < i) = false:=decide_eq_false (Nat.lt_irrefl i)
  have hread : ∀ t ∈ rdS ro,lk (st i).tm t = Fd sg (fun j=>gdd (pp j) (out j)) (fun j=>listed.getD (lo + j) false) (lk s.tm) sg.length t:=by
   intro t ht'
   rw [R.tm i (by omega),← Fd_lt sg.length (by omega)]
   refine (Fd_congr _ (fun j hj hd=>?_)).symm
   have hrj : sg[j]? = some sg[j]:=List.getElem?_eq_getElem hj
   have hdj : sg[j].dst = some t:=by simpa [dstAt,hrj] using hd
   by_cases hij : j = i
   ·subst hij;simp only [hunf,hdec]
   ·exact hslot j _ hj hrj hij ⟨clash_rd hdj ht',clash_rd' hdj ht'⟩
  have hmem : ∀ k ∈ dT (st i) ro.op,Md u (fun j=>listed.getD (lo + j) false) (lm s.mem) sg.length k = lm (st i).mem k:=by
   intro k hk
   rw [R.mem i (by omega),← Md_lt sg.length (by omega)]
   refine Md_congr _ (fun j hj b hu=>?_)
   have hrj : sg[j]? = some sg[j]:=List.getElem?_eq_getElem hj
   by_cases hij : j = i
   ·subst hij;simp only [hunf,hdec]
   ·have hw:=(R.ok j _ hrj).wr k b hu
    refine hblk j _ hj hrj hij ⟨?_,?_⟩
    ·simp only [cl,hw,Bool.or_eq_true];exact .inl (.inl (meets_mem (List.mem_singleton.2 rfl) hk))
    ·simp only [cl,hw,Bool.or_eq_true];exact .inr (meets_mem (List.mem_singleton.2 rfl) hk)
  have hnew : Md u (fun j=>listed.getD (lo + j) false) (lm s.mem) sg.length (st i).nx = none:=by
   rw [R.nx i (by omega)]
   have h0 : Md u (fun j=>listed.getD (lo + j) false) (lm s.mem) sg.length (s.nx + i) = Md u (fun _=>false) (lm s.mem) sg.length (s.nx + i):=by
    refine Md_congr _ (fun j hj b hu=>?_)
    have hrj : sg[j]? = some sg[j]:=List.getElem?_eq_getElem hj
    by_cases hij : j = i
    ·subst hij;exact hunf
    ·have hoku:=(R.ok j _ hrj).okU
     rw [hu] at hoku
     have hw:=(R.ok j _ hrj).wr _ b hu
     rcases hoku.2 with h1 | ⟨h1,h2⟩
     ·rw [R.nx j (by omega)] at h1;omega
     ·obtain ⟨h3,b',hb'⟩:=R.first hnx j (by omega) i ((hasM_iff _ _).1 h2)
      have hwi:=hok.wr _ b' hb'
      have:=hblk j _ hj hrj hij ⟨by simp only [cl,hw,hwi,Bool.or_eq_true];exact .inl (.inr (meets_mem (List.mem_singleton.2 rfl) (List.mem_singleton.2 rfl))),by simp only [cl,hw,hwi,Bool.or_eq_true];exact .inl (.inr (meets_mem (List.mem_singleton.2 rfl) (List.mem_singleton.2 rfl)))⟩
      rw [this];exact decide_eq_false (by omega)
   rw [h0]
   have : ∀ n,Md u (fun _=>false) (lm s.mem) n = lm s.mem:=fun n=>by
    induction n with
    |zero=>rfl
    |succ n ih=>simp only [Md,Bool.false_eq_true,if_false];exact ih
   rw [this]
   exact hnx _ (by omega)
  have hslots : ∀ x,(∀ t,x = .tmp t → t ∈ rdS ro) → sat E w (ev (st i).tm x) (a.eval x):=fun x hx=>ev_sat hS x (fun t htt=>hread t (hx t htt))
  obtain ⟨f,hop⟩:=ht.op
  have hG1 : GOk P r nf G (Fd sg (fun j=>gdd (pp j) (out j)) (fun j=>listed.getD (lo + j) false) (lk s.tm) sg.length) (Md u (fun j=>listed.getD (lo + j) false) (lm s.mem) sg.length) E a w ops oi (gdd (pp i) (out i)) (u i):=by
   refine gok_of hS ht.gd (by rw [← pathOf_eq];exact hok.path) (fun g b hg=>hslots _ (fun t htt=>by cases htt;exact rdS_gd hg)) hok.okU (fun hpc=>?_)
   refine hok.sem r nf G _ _ E a w oi ?_ hpc
   rw [stepP_eq,← stepQ_loc (m':=Md u (fun j=>listed.getD (lo + j) false) (lm s.mem) sg.length) hmem]
   exact stepQ_sem hS hnew hop hpc (fun x hx=>hslots x (fun t htt=>by subst htt;exact rdS_slot hx)) (by rw [← underAll_eq];exact hok.under)
  unfold wpOpIn
  simp only [hoi]
  refine hG1 _ Q (fun E' w' v h3 h4 h5=>?_)
  refine ih _ E' _ w' (by have:=unl_set hun;omega) (inv.set hi) (fun j h1 h2=>by rw [getD_set_ne false (show lo + i ≠ j by omega)];exact hhi j h1 h2) (fun j h1=>by rw [getD_set_ne false (show lo + i ≠ j by omega)];exact hlw j h1) ?_
  have hset : ∀ j,(listed.setIfInBounds (lo + i) true).getD (lo + j) false = (if j = i then true else listed.getD (lo + j) false):=fun j=>by
   by_cases hij : j = i
   ·subst hij
    have : lo + j < listed.size:=by rw [inv.size];exact hil
    simp [this]
   ·rw [if_neg hij,getD_set_ne false (show lo + i ≠ lo + j by omega)]
  have hu2 : Md u (fun j=>(listed.setIfInBounds (lo + i) true).getD (lo + j) false) (lm s.mem) sg.length = updO (Md u (fun j=>listed.getD (lo + j) false) (lm s.mem) sg.length) (u i):=by
   funext k
   by_cases hk : ∃ b,u i = some (k,b)
   ·obtain ⟨b,hb⟩:=hk
    have hwi:=hok.wr k b hb
    have e : Md u (fun j=>(listed.setIfInBounds (lo + i) true).getD (lo + j) false) (lm s.mem) sg.length k = Md u (fun j=>decide (j < i + 1)) (lm s.mem) sg.length k:=by
     refine Md_congr _ (fun j hj b' hu=>?_)
     have hrj : sg[j]? = some sg[j]:=List.getElem?_eq_getElem hj
     simp only [hset]
     by_cases hij : j = i
     ·subst hij;simp
     ·rw [if_neg hij]
      have hw:=(R.ok j _ hrj).wr k b' hu
      rw [hblk j _ hj hrj hij ⟨by simp only [cl,hw,hwi,Bool.or_eq_true];exact .inl (.inr (meets_mem (List.mem_singleton.2 rfl) (List.mem_singleton.2 rfl))),by simp only [cl,hw,hwi,Bool.or_eq_true];exact .inl (.inr (meets_mem (List.mem_singleton.2 rfl) (List.mem_singleton.2 rfl)))⟩]
      have : (j < i) ↔ (j < i + 1):=by omega
      simp only [this]
    rw [e,Md_lt sg.length (by omega)]
    simp only [Md,if_true,hb,updO,upd]
   ·have e : Md u (fun j=>(listed.setIfInBounds (lo + i) true).getD (lo + j) false) (lm s.mem) sg.length k = Md u (fun j=>listed.getD (lo + j) false) (lm s.mem) sg.length k:=by
     refine Md_congr _ (fun j hj b' hu=>?_)
     simp only [hset]
     rw [if_neg (fun hij=>hk ⟨b',by rw [← hij];exact hu⟩)]
    rw [e]
    cases hui : u i with
    |none=>rfl
    |some kb=>
     obtain ⟨k',b⟩:=kb
     simp only [updO,upd]
     rw [if_neg (fun hkk=>hk ⟨b,by rw [hui,hkk]⟩)]
  have hf2 : Sat G (Fd sg (fun j=>gdd (pp j) (out j)) (fun j=>(listed.setIfInBounds (lo + i) true).getD (lo + j) false) (lk s.tm) sg.length) (Md u (fun j=>(listed.setIfInBounds (lo + i) true).getD (lo + j) false) (lm s.mem) sg.length) E' (a.put oi.dst v) w':=by
   rw [hu2]
   cases hd : oi.dst with
   |none=>
    have e : Fd sg (fun j=>gdd (pp j) (out j)) (fun j=>(listed.setIfInBounds (lo + i) true).getD (lo + j) false) (lk s.tm) sg.length = Fd sg (fun j=>gdd (pp j) (out j)) (fun j=>listed.getD (lo + j) false) (lk s.tm) sg.length:=by
     funext t
     refine Fd_congr _ (fun j hj hdj=>?_)
     simp only [hset]
     rw [if_neg (fun hij=>by subst hij;simp [dstAt,hro,ht.dst,hd] at hdj)]
    rw [e]
    exact h4
   |some d=>
    have hrd : ro.dst = some d:=by rw [ht.dst,hd]
    have e : Fd sg (fun j=>gdd (pp j) (out j)) (fun j=>(listed.setIfInBounds (lo + i) true).getD (lo + j) false) (lk s.tm) sg.length = upd (Fd sg (fun j=>gdd (pp j) (out j)) (fun j=>listed.getD (lo + j) false) (lk s.tm) sg.length) d (gdd (pp i) (out i)):=by
     funext t
     by_cases htd : t = d
     ·subst htd
      have e : Fd sg (fun j=>gdd (pp j) (out j)) (fun j=>(listed.setIfInBounds (lo + i) true).getD (lo + j) false) (lk s.tm) sg.length t = Fd sg (fun j=>gdd (pp j) (out j)) (fun j=>decide (j < i + 1)) (lk s.tm) sg.length t:=by
       refine Fd_congr _ (fun j hj hdj=>?_)
       have hrj : sg[j]? = some sg[j]:=List.getElem?_eq_getElem hj
       have hdj' : sg[j].dst = some t:=by simpa [dstAt,hrj] using hdj
       simp only [hset]
       by_cases hij : j = i
       ·subst hij;simp
       ·rw [if_neg hij,hslot j _ hj hrj hij ⟨clash_dd hdj' hrd,clash_dd hrd hdj'⟩]
        have : (j < i) ↔ (j < i + 1):=by omega
        simp only [this]
      rw [e,Fd_lt sg.length (by omega)]
      simp only [Fd,if_true,dstAt,hro,Option.bind_some,hrd,upd]
     ·have e : Fd sg (fun j=>gdd (pp j) (out j)) (fun j=>(listed.setIfInBounds (lo + i) true).getD (lo + j) false) (lk s.tm) sg.length t = Fd sg (fun j=>gdd (pp j) (out j)) (fun j=>listed.getD (lo + j) false) (lk s.tm) sg.length t:=by
       refine Fd_congr _ (fun j hj hdj=>?_)
       simp only [hset]
       rw [if_neg (fun hij=>by subst hij;simp [dstAt,hro,hrd] at hdj;exact htd hdj.symm)]
      rw [e]
      simp only [upd]
      rw [if_neg htd]
    rw [e]
    exact h4.put (by rw [hG];exact ht.lt d hd) h5
  exact hf2
theorem atg_any (hG : G.N = N) (hrl : trL P N fz ops ops.toList = some rl) (hms : ms = masks ops.toList []) (hE : edgeOK 0 ops.toList = true) (hO : ordAll [] rl ms = true) {lo n : Nat} (hn : lo + n ≤ ops.size) (hF : covB (lo + n) ms = true) {Q : Exit → Act → World → Prop} {K : S → Prop}
  (hc : chain P (some ⟨ms.drop lo,lo,[]⟩) ((rl.drop lo).take n) s K) (hk : ∀ s',K s' → AtG P r nf G ops ms Q (lo + n) s') : AtG P r nf G ops ms Q lo s:=by
 obtain ⟨hl,hsp⟩:=trL_spec hrl
 have hlen : rl.length = ops.size:=by rw [hl,Array.length_toList]
 have hl1 : ((rl.drop lo).take n).length = n:=by rw [List.length_take,List.length_drop];omega
 obtain ⟨st,pp,out,u,h1,h2,h3⟩:=chain_run _ _ _ _ _ hc
 rw [hl1] at h2
 intro fuel listed E a w hf inv hlst hS
 have R : Run P ((rl.drop lo).take n) ((List.range n).map fun j=>2 ^ j - 1) s st pp out u:=⟨h1,fun j ro hj=>(h3 j ro hj).1,fun j ro hj=>(h3 j ro hj).2.1,fun j ro hj=>by
  have hjn : j < n:=by have:=(List.getElem?_eq_some_iff.1 hj).1;omega
  refine ⟨2 ^ j - 1,by simp [hjn],fun k rk hk _ _=>?_⟩
  rw [tb_iff,Nat.testBit_two_pow_sub_one]
  simpa using hk⟩
 refine anyorderM hG hrl hms hE hO hn hF rfl R (fun j ro hj=>?_) hS.nx (hk _ h2) fuel listed E a w hf inv (fun j q1 q2=>by rw [hlst j q2,decide_eq_false (by omega)]) (fun j q=>by rw [hlst j (by omega),decide_eq_true q]) ?_
 ·obtain ⟨_,_,m,h4,_,h5⟩:=h3 j ro hj
  exact ⟨m,by rwa [List.getElem?_drop] at h4,h5⟩
 ·have e1 : Fd ((rl.drop lo).take n) (fun j=>gdd (pp j) (out j)) (fun j=>listed.getD (lo + j) false) (lk s.tm) ((rl.drop lo).take n).length = lk s.tm:=by
   have : ∀ m,Fd ((rl.drop lo).take n) (fun j=>gdd (pp j) (out j)) (fun _=>false) (lk s.tm) m = lk s.tm:=fun m=>by
    induction m with
    |zero=>rfl
    |succ m ih=>simp only [Fd,Bool.false_eq_true,if_false];exact ih
   refine Eq.trans ?_ (this ((rl.drop lo).take n).length)
   funext t
   exact Fd_congr (D:=fun j=>listed.getD (lo + j) false) (D':=fun _=>false) _ (fun j hj _=>by show listed.getD (lo + j) false = false;rw [hlst (lo + j) (by omega),decide_eq_false (by omega)])
  have e2 : Md u (fun j=>listed.getD (lo + j) false) (lm s.mem) ((rl.drop lo).take n).length = lm s.mem:=by
   have : ∀ m,Md u (fun _=>false) (lm s.mem) m = lm s.mem:=fun m=>by
    induction m with
    |zero=>rfl
    |succ m ih=>simp only [Md,Bool.false_eq_true,if_false];exact ih
   refine Eq.trans ?_ (this ((rl.drop lo).take n).length)
   funext t
   exact Md_congr (D:=fun j=>listed.getD (lo + j) false) (D':=fun _=>false) _ (fun j hj _ _=>by show listed.getD (lo + j) false = false;rw [hlst (lo + j) (by omega),decide_eq_false (by omega)])
  rw [e1,e2]
  exact hS.st
end
section
variable {P : Program} {N : Nat} {s : S} {Q : Ex → S → Prop}
end
theorem lm_app (A B : List (Nat × Blk)) (k : Nat) : lm (A ++ B) k = match lm A k with | some b=>some b | none=>lm B k:=by
 induction A with
 |nil=>rfl
 |cons x A ih=>
  obtain ⟨s,b⟩:=x
  simp only [List.cons_append,lm]
  by_cases h : k = s
  ·rw [if_pos h,if_pos h]
  ·rw [if_neg h,if_neg h,ih]
theorem lm_app_r {A B : List (Nat × Blk)} {k : Nat} (h : lm A k = none) : lm (A ++ B) k = lm B k:=by
 rw [lm_app,h]
theorem le_same {s : S} (m : List (Nat × Blk)) (nx : Nat) (h : ∀ k,lm m k = lm s.mem k) (hn : ∀ k,nx ≤ k → lm m k = none) : le s ⟨s.tm,m,nx⟩:=fun G E a w hS=>by
 have e : lm m = lm s.mem:=funext h
 refine ⟨E,?_,hn⟩
 show Sat G (lk s.tm) (lm m) E a w
 rw [e]
 exact hS.st
theorem sat_same {s s' : S} (ht : s'.tm = s.tm) (h : ∀ k,lm s'.mem k = lm s.mem k) (hn : ∀ k,s'.nx ≤ k → lm s'.mem k = none) : ∀ G E a w,SatS G s E a w → SatS G s' E a w:=fun G E a w hS=>by
 have e : lm s'.mem = lm s.mem:=funext h
 refine ⟨?_,hn⟩
 rw [ht,e]
 exact hS.st
theorem lm_cons_ne {k s : Nat} {b : Blk} {m : List (Nat × Blk)} (h : k ≠ s) : lm ((s,b) :: m) k = lm m k:=by
 simp only [lm];rw [if_neg h]
theorem lm_cons_eq {k : Nat} {b : Blk} {m : List (Nat × Blk)} : lm ((k,b) :: m) k = some b:=by simp [lm]
theorem lm_back (A B : List (Nat × Blk)) {s : Nat} (b : Blk) (h : lm A s = none) (k : Nat) : lm (A ++ (s,b) :: B) k = lm ((s,b) :: (A ++ B)) k:=by
 by_cases q : k = s
 ·subst q
  rw [lm_app_r h,lm_cons_eq,lm_cons_eq]
 ·rw [lm_app,lm_cons_ne q,lm_cons_ne q,lm_app]
theorem setm_app {A B : List (Nat × Blk)} {k : Nat} (b : Blk) (h : lm A k ≠ none) : setm (A ++ B) k b = setm A k b ++ B:=by
 induction A with
 |nil=>exact absurd rfl h
 |cons x A ih=>
  obtain ⟨s,c⟩:=x
  simp only [List.cons_append,setm]
  by_cases q : k = s
  ·rw [if_pos q,if_pos q];rfl
  ·rw [if_neg q,if_neg q,ih (by simpa only [lm,if_neg q] using h)];rfl
abbrev Mem:=List (Nat × Blk)
def leS (s s' : S) : Prop:=∀ G E a w,SatS G s E a w → SatS G s' E a w
theorem leS.refl (s : S) : leS s s:=fun _ _ _ _ h=>h
theorem leS.trans {a b c : S} (h : leS a b) (k : leS b c) : leS a c:=fun G E x w hs=>k G E x w (h G E x w hs)
theorem leS.le {s s' : S} (h : leS s s') : le s s':=fun G E a w hs=>⟨E,h G E a w hs⟩
structure Opq (N0 : Nat) (R : Mem) (nx : Nat) : Prop where
 n : N0 ≤ nx
 lo : ∀ j,j < N0 → lm R j = none
 hi : ∀ j,nx ≤ j → lm R j = none
def Bas (N0 : Nat) (B : Mem) : Prop:=∀ j,N0 ≤ j → lm B j = none
def basB (N0 : Nat) : Mem → Bool
 |[]=>true
 |(k,_) :: B=>decide (k < N0) && basB N0 B
theorem bas_of {N0 : Nat} : ∀ {B : Mem},basB N0 B = true → Bas N0 B
 |[],_,_,_=>rfl
 |(k,b) :: B,h,j,hj=>by
  simp only [basB,Bool.and_eq_true,decide_eq_true_eq] at h
  simp only [lm]
  rw [if_neg (by omega)]
  exact bas_of h.2 j hj
theorem opq_nil (N0 : Nat) : Opq N0 [] N0:=⟨Nat.le_refl _,fun _ _=>rfl,fun _ _=>rfl⟩
theorem Opq.push {N0 nx : Nat} {R : Mem} (h : Opq N0 R nx) (b : Blk) : Opq N0 ((nx,b) :: R) (nx + 1):=
 ⟨by have:=h.n;omega,fun j hj=>by have:=h.n;simp only [lm];rw [if_neg (by omega)];exact h.lo j hj,fun j hj=>by simp only [lm];rw [if_neg (by omega)];exact h.hi j (by omega)⟩
theorem Opq.le {N0 nx nx2 : Nat} {R : Mem} (h : Opq N0 R nx) (hn : nx ≤ nx2) : Opq N0 R nx2:=⟨by have:=h.n;omega,h.lo,fun j hj=>h.hi j (by omega)⟩
theorem Opq.mem {N0 nx : Nat} {R B : Mem} (h : Opq N0 R nx) (hB : Bas N0 B) : ∀ j,nx ≤ j → lm (B ++ R) j = none:=fun j hj=>by
 have:=h.n
 rw [lm_app_r (hB j (by omega))]
 exact h.hi j hj
theorem leS_same {s : S} (m : Mem) (nx : Nat) (h : ∀ k,lm m k = lm s.mem k) (hn : ∀ k,nx ≤ k → lm m k = none) : leS s ⟨s.tm,m,nx⟩:=sat_same (s':=⟨s.tm,m,nx⟩) rfl h hn
section
variable {P : Program} {N : Nat}
theorem Inl_le' {f : Nat} {raw : List AV} {s : S} {K K' : AV → S → Prop} (h : Inl P f raw s K') (hk : ∀ r s',K' r s' → ∃ s'',K r s'' ∧ leS s' s'') : Inl P f raw s K:=Inl_le h hk
end
section
variable {P : Program} {r : Option Nat} {nf N : Nat} {fz : List Nat} {G : Gl} {ops : Array Oper} {rl : List RO} {ms : List Nat}
end
section
variable {P : Program} {N : Nat} {s : S} {Q : Ex → S → Prop}
end
section
variable {P : Program} {r : Option Nat} {nf N : Nat} {fz : List Nat} {G : Gl} {ops : Array Oper} {rl : List RO}
theorem inorder_part (hG : G.N = N) (hrl : trL P N fz ops ops.toList = some rl) {Q : Exit → Act → World → Prop} {K : S → Prop} {m e : Nat}
  (hK : ∀ s E a w,K s → SatS G s E a w → wpOpsIn (W1 r) nf P ops Q (List.range' e m) a w) :
  ∀ (k i : Nat) (s : S) (E : Env) (a : Act) (w : World),i + k = e → e + m = ops.size → chain P none ((rl.drop i).take k) s K → SatS G s E a w → wpOpsIn (W1 r) nf P ops Q (List.range' i (k + m)) a w
 |0,i,s,E,a,w,hi,he,hc,hS=>by
  rw [List.take_zero,chain_nil] at hc
  rw [Nat.zero_add,show i = e by omega]
  exact hK s E a w hc hS
 |k + 1,i,s,E,a,w,hi,he,hc,hS=>by
  obtain ⟨hl,hsp⟩:=trL_spec hrl
  have hil : i < ops.size:=by omega
  obtain ⟨ro,h1,h2⟩:=hsp i ops[i] (by simp [hil])
  have hdrop : rl.drop i = ro :: rl.drop (i + 1):=by
   have hlt : i < rl.length:=by rw [hl,Array.length_toList];exact hil
   rw [List.drop_eq_getElem_cons hlt]
   congr 1
   rw [List.getElem?_eq_getElem hlt] at h1
   simpa using h1
  rw [hdrop,List.take_succ_cons] at hc
  rw [show k + 1 + m = (k + m) + 1 by omega]
  rcases chain_step hc with ⟨p,out,u,_,hok,hc'⟩ | ⟨_,p,hp,hu,hsp⟩
  rotate_left
  ·rw [List.range'_succ,wpOpsIn_cons]
   unfold wpOpIn
   simp only [Array.getElem?_eq_getElem hil]
   exact sp_step hG h2 hS hp hu hsp _ Q (fun s' E' a' w' hc' hS'=>inorder_part hG hrl hK k (i + 1) s' E' a' w' (by omega) he hc' hS')
  have hslots : ∀ x,sat E w (ev s.tm x) (a.eval x):=fun x=>ev_sat hS.st x (fun t _=>rfl)
  obtain ⟨f,hop⟩:=h2.op
  have hG1 : GOk P r nf G (lk s.tm) (lm s.mem) E a w ops ops[i] (gdd p out) u:=by
   refine gok_of hS.st h2.gd (by rw [← pathOf_eq];exact hok.path) (fun g b hg=>hslots _) hok.okU (fun hpc=>?_)
   refine hok.sem r nf G _ _ E a w ops[i] ?_ hpc
   rw [stepP_eq]
   exact stepQ_sem hS.st (hS.nx _ (Nat.le_refl _)) hop hpc (fun x _=>hslots x) (by rw [← underAll_eq];exact hok.under)
  rw [List.range'_succ,wpOpsIn_cons]
  unfold wpOpIn
  simp only [Array.getElem?_eq_getElem hil]
  refine hG1 _ Q (fun E' w' v h3 h4 h5=>?_)
  have hS':=satS_app (dst:=ops[i].dst) (p:=p) hS.nx h4 h5 hok.okU (fun d hd=>by rw [hG];exact h2.lt d hd)
  rw [h2.dst] at hc'
  exact inorder_part hG hrl hK k (i + 1) _ E' _ w' (by omega) he hc' hS'
end
section
variable {P : Program} {N : Nat} {s : S} {Q : Ex → S → Prop}
end
theorem row_frz {G : Gl} {s : S} {E : Env} {a : Act} {w : World} (hS : SatS G s E a w) {k st T n : Nat} {α : Type} {d : α} {f : α → List AV} {l : List α} (hm : lm s.mem k = some (.row st T n d f l)) :
  ∃ b0 : Option Nat,(∀ b,b0 = some b → b < w.heap.size ∧ G.w0.heap.size ≤ b ∧ ∃ blk,lm s.mem k = some blk ∧ blkLoc E k blk = some b ∧ blk.isOth = false) ∧ ∀ y,sat E w (.row k st) y → fsat (fun b=>E.F b ∨ b0 = some b) w (.sl n d f l) y:=by
 obtain ⟨hh,xs,h1,h4,h5,h6⟩:=hS.st.memv k _ hm
 have hy : ∀ y,sat E w (.row k st) y → y = hv hh:=fun y h0=>by
  simp only [sat] at h0
  obtain ⟨hh',g1,g2⟩:=h0
  rw [h1] at g1;cases g1;exact g2
 have hloc : ∀ b,(hv hh).ownBlock = some b → blkLoc E k (.row st T n d f l) = some b:=fun b hb=>by simp only [blkLoc,h1,Option.bind_some];exact hb
 rcases h4.2 with ⟨h7,h8⟩ | ⟨g,cap,cur,h7,h8,h9,h10,h11,h12,h13⟩
 ·refine ⟨none,fun b (hb : (none : Option Nat) = some b)=>(by cases hb),fun y h0=>?_⟩
  have hl : l = []:=List.eq_nil_of_length_eq_zero h8
  subst hl
  simp only [fsat]
  exact ⟨none,0,by rw [hy y h0,h7];rfl,Nat.le_refl _,.inl rfl,by simp⟩
 ·refine ⟨some g,fun b (hb : some g = some b)=>?_,fun y h0=>?_⟩
  ·cases hb
   exact ⟨(Array.getElem?_eq_some_iff.1 h9).1,h8,_,hm,hloc g (by rw [h7];rfl),rfl⟩
  ·simp only [fsat]
   refine ⟨some ⟨g,0,none⟩,cap,by rw [hy y h0,h7],h10,.inr ⟨g,0,rfl,.inr (by simp)⟩,.inr ⟨g,0,rfl,.inr (by simp),fun i x hx=>?_⟩⟩
   obtain ⟨h14,h15⟩:=h6 i x hx
   have hc0 : cellsAt w g 0 xs:=fun j u hu=>by
    have:=h4.cells (g:=g) (by rw [h7];rfl) j u hu
    unfold Addr.add at this
    split at this
    ·rename_i h0;subst h0;simpa using this
    ·simpa using this
   exact ⟨h14,_,cellsAt_take (cellsAt_drop hc0),fsatL_mono (fun b hb=>.inl hb) (fun _ _=>rfl) _ _ h15⟩
section
variable {P : Program} {N : Nat} {s : S} {Q : Ex → S → Prop}
theorem atg_le {r : Option Nat} {nf : Nat} {G : Gl} {ops : Array Oper} {ms : List Nat} {Q : Exit → Act → World → Prop} {lo : Nat} {s s' : S} (h : le s s') (k : AtG P r nf G ops ms Q lo s') : AtG P r nf G ops ms Q lo s:=fun fuel listed E a w hf inv hl hS=>by
 obtain ⟨E',hS'⟩:=h G E a w hS
 exact k fuel listed E' a w hf inv hl hS'
end
section
variable {P : Program} {N : Nat} {s : S} {Q : Ex → S → Prop}
theorem W_regTP {ms : List Nat} {rl : List RO} {ks : List Nat} (n m l : Nat) (h1 : seqB n m ms = true) (hn : n + m + l ≤ rl.length) (h2 : seqB (n + m + l) (rl.length - (n + m + l)) ms = true)
  (h : chain P (some ⟨ms,0,[]⟩) (rl.take n) s (fun s1=>∃ s1',le s1 s1' ∧ chain P none ((rl.drop n).take m) s1' (fun s2=>chain P (some ⟨ms.drop (n + m),n + m,[]⟩) ((rl.drop (n + m)).take l) s2 (fun s3=>chain P none (rl.drop (n + m + l)) s3 (fun s'=>Q .n (s'.keep ks)))))) : W P N (regL ks (some ms) rl) s Q:=by
 intro hm code fz ht r nf G E x w hG hS
 obtain ⟨id,ops,d,rfl,hrl,hd⟩:=trC_reg ht
 rcases hd with ⟨rfl,hx⟩ | ⟨rfl,hx,hE,hO⟩
 ·cases hx
 ·cases hx
  have hlen : rl.length = ops.size:=by rw [(trL_spec hrl).1,Array.length_toList]
  have c1 : ∀ i,i ≤ m → covB (n + i) (masks ops.toList []) = true:=fun i hi=>List.all_eq_true.1 h1 i (List.mem_range.2 (by omega))
  have c2 : ∀ i,i ≤ rl.length - (n + m + l) → covB (n + m + l + i) (masks ops.toList []) = true:=fun i hi=>List.all_eq_true.1 h2 i (List.mem_range.2 (by omega))
  refine wpIn_region_any hm ?_
  have hrep : ∀ j,(Array.replicate ops.size false).getD j false = false:=fun j=>by
   rcases Nat.lt_or_ge j ops.size with h | h
   ·simp [h]
   ·simp [h]
  have key : AtG P r nf G ops (masks ops.toList []) (WX G Q) 0 s:=by
   refine atg_any (n:=n) hG.1 hrl rfl hE hO (by omega) (by have:=c1 0 (by omega);simpa using this) h (fun s1 k1=>?_)
   rw [Nat.zero_add]
   obtain ⟨s1',hle,k1'⟩:=k1
   refine atg_le hle ?_
   refine atg_seq hG.1 hrl rfl hE m n s1' (by omega) c1 k1' (fun s2 k2=>?_)
   refine atg_any (lo:=n + m) (n:=l) hG.1 hrl rfl hE hO (by omega) (c2 0 (by omega)) k2 (fun s3 k3=>?_)
   have h5 : rl.drop (n + m + l) = (rl.drop (n + m + l)).take (rl.length - (n + m + l)):=by rw [List.take_of_length_le (by rw [List.length_drop];omega)]
   rw [h5] at k3
   refine atg_seq (K:=fun s'=>Q .n (s'.keep ks)) hG.1 hrl rfl hE _ _ s3 (by omega) c2 k3 (fun s4 k4=>?_)
   rw [show n + m + l + (rl.length - (n + m + l)) = ops.size by omega]
   exact atg_end hE (fun s E a w hk hS=>⟨_,E,hk,keep_sat ks hS⟩) k4
  exact key ops.size _ E x _ (by simp [unl]) ⟨by simp,fun j oj hj hl=>by rw [hrep] at hl;cases hl⟩ (fun j hj=>by rw [hrep];simp) ⟨hS.st.drew,hS.nx⟩
end
def outN (x : ByteArray) (p : Nat) : AV:=if p < x.size then .tup [.v (.bool true),.v (goInt p),.v (.int .i32 (Utf8.decode x p).1)] else .tup [.v (.bool false)]
def advN (x : ByteArray) (p : Nat) : Nat:=if p < x.size then p + (Utf8.decode x p).2 else p
section
variable {P : Program} {r : Option Nat} {nf : Nat} {G : Gl} {tm : Nat → AV} {mem : Nat → Option Blk} {E : Env} {a : Act} {w : World} {o : Oper}
theorem Sat.setM (S : Sat G tm mem E a w) {k b kd : Nat} {g g' : Value → Option Value} (hk : mem k = some (.oth (.mp b kd g))) {es : Array MapEntry} {cl : Nat} (hM : MapIs kd es.toList g') :
  Sat G tm (upd mem k (some (.oth (.mp b kd g')))) E a (w.putObj b (.map es cl)):=by
 obtain ⟨h1,es0,cl0,h2,h3⟩:=S.memv k _ hk
 have hlt : b < w.heap.size:=(Array.getElem?_eq_some_iff.1 h2).1
 have hlF : ¬ E.F b:=S.nF k _ b hk rfl
 have hFs : ∀ c,E.F c → (w.putObj b (.map es cl)).heap[c]? = w.heap[c]?:=fun c hc=>putD_other (fun e=>hlF (e ▸ hc))
 have hof : ∀ j blk,upd mem k (some (Blk.oth (.mp b kd g'))) j = some blk → (j = k ∧ blk = .oth (.mp b kd g')) ∨ (j ≠ k ∧ mem j = some blk):=fun j blk h=>by
  simp only [upd] at h
  split at h
  ·rename_i he;cases h;exact .inl ⟨he,rfl⟩
  ·rename_i he;exact .inr ⟨he,h⟩
 exact {
  ext:=⟨S.ext.os,S.ext.tape,S.ext.output,by rw [putD_size];exact S.ext.size,fun i hi=>(putD_other (by omega)).trans (S.ext.block i hi)⟩
  fz:=fun c hc=>by rw [putD_size];exact S.fz c hc
  tmv:=fun t=>sat_mono (Env.le.refl E) hFs _ _ (S.tmv t)
  sz:=S.sz
  memv:=fun j blk h=>by
   rcases hof j blk h with ⟨rfl,rfl⟩ | ⟨hj,q⟩
   ·exact ⟨h1,es,cl,World.putObj_heap_same hlt,hM⟩
   ·refine blkSat_mono (Env.le.refl E) hFs blk (fun c hc=>putD_other (fun e=>hj ?_)) (S.memv j blk q)
    exact S.inj j k blk _ b q hk (e ▸ hc) rfl
  inj:=fun j j' blk blk' c h h' hc hc'=>by
   rcases hof j blk h with ⟨g1,g2⟩ | ⟨hj,q⟩
   ·rcases hof j' blk' h' with ⟨g1',g2'⟩ | ⟨hj',q'⟩
    ·rw [g1,g1']
    ·subst g2;rw [g1];exact S.inj k j' _ blk' c hk q' hc hc'
   ·rcases hof j' blk' h' with ⟨g1',g2'⟩ | ⟨hj',q'⟩
    ·subst g2';rw [g1'];exact S.inj j k blk _ c q hk hc hc'
    ·exact S.inj j j' blk blk' c q q' hc hc'
  nF:=fun j blk c h hc=>by
   rcases hof j blk h with ⟨g1,g2⟩ | ⟨hj,q⟩
   ·subst g2;exact S.nF k _ c hk hc
   ·exact S.nF j blk c q hc
  fresh:=fun j h=>by
   simp only [upd] at h
   split at h
   ·cases h
   ·exact S.fresh j h
  stampC:=fun j l' s' h=>by
   rcases hof j _ h with ⟨_,q⟩ | ⟨hj,q⟩
   ·cases q
   ·exact S.stampC j l' s' q
  stampR:=fun j s' e n α d f l' h=>by
   rcases hof j _ h with ⟨_,q⟩ | ⟨hj,q⟩
   ·cases q
   ·exact S.stampR j s' e n α d f l' q
  stampO:=fun j x h=>by
   rcases hof j _ h with ⟨g1,_⟩ | ⟨hj,q⟩
   ·rw [g1];exact S.stampO k _ hk
   ·exact S.stampO j x q
  df:=fun d hd=>by
   rcases S.df d hd with ⟨D,rfl,q1,q2,q3⟩ | hd2
   ·exact .inl ⟨D,rfl,q1,q2,(putD_other (fun e=>by subst e;rw [q3] at h2;cases h2)).trans q3⟩
   ·exact .inr hd2
  dn:=S.dn
  bt:=S.bt
  kd:=⟨by rw [putD_size];exact S.kd.size,fun j x hj=>by
    have:=S.kd.dfr j x hj
    exact (putD_other (fun e=>by subst e;rw [this] at h2;cases h2)).trans this,fun j rec hj=>by
    obtain ⟨rec',hr⟩:=S.kd.lps j rec hj
    exact ⟨rec',(putD_other (fun e=>by subst e;rw [hr] at h2;cases h2)).trans hr⟩⟩
  kF:=S.kF
  rd:=fun j hj=>by
   obtain ⟨rec',hr⟩:=S.rd j hj
   exact ⟨rec',(putD_other (fun e=>by subst e;rw [hr] at h2;cases h2)).trans hr⟩ }
theorem Sat.setI (S : Sat G tm mem E a w) {k b : Nat} {x : ByteArray} {p : Nat} (hk : mem k = some (.oth (.si b x p))) (p' : Nat) :
  Sat G tm (upd mem k (some (.oth (.si b x p')))) E a (w.putObj b (.stringIter x p')):=by
 obtain ⟨h1,h2⟩:=S.memv k _ hk
 have hlt : b < w.heap.size:=(Array.getElem?_eq_some_iff.1 h2).1
 have hlF : ¬ E.F b:=S.nF k _ b hk rfl
 have hFs : ∀ c,E.F c → (w.putObj b (.stringIter x p')).heap[c]? = w.heap[c]?:=fun c hc=>putD_other (fun e=>hlF (e ▸ hc))
 have hof : ∀ j blk,upd mem k (some (Blk.oth (.si b x p'))) j = some blk → (j = k ∧ blk = .oth (.si b x p')) ∨ (j ≠ k ∧ mem j = some blk):=fun j blk h=>by
  simp only [upd] at h
  split at h
  ·rename_i he;cases h;exact .inl ⟨he,rfl⟩
  ·rename_i he;exact .inr ⟨he,h⟩
 exact {
  ext:=⟨S.ext.os,S.ext.tape,S.ext.output,by rw [putD_size];exact S.ext.size,fun i hi=>(putD_other (by omega)).trans (S.ext.block i hi)⟩
  fz:=fun c hc=>by rw [putD_size];exact S.fz c hc
  tmv:=fun t=>sat_mono (Env.le.refl E) hFs _ _ (S.tmv t)
  sz:=S.sz
  memv:=fun j blk h=>by
   rcases hof j blk h with ⟨rfl,rfl⟩ | ⟨hj,q⟩
   ·exact ⟨h1,World.putObj_heap_same hlt⟩
   ·refine blkSat_mono (Env.le.refl E) hFs blk (fun c hc=>putD_other (fun e=>hj ?_)) (S.memv j blk q)
    exact S.inj j k blk _ b q hk (e ▸ hc) rfl
  inj:=fun j j' blk blk' c h h' hc hc'=>by
   rcases hof j blk h with ⟨g1,g2⟩ | ⟨hj,q⟩
   ·rcases hof j' blk' h' with ⟨g1',g2'⟩ | ⟨hj',q'⟩
    ·rw [g1,g1']
    ·subst g2;rw [g1];exact S.inj k j' _ blk' c hk q' hc hc'
   ·rcases hof j' blk' h' with ⟨g1',g2'⟩ | ⟨hj',q'⟩
    ·subst g2';rw [g1'];exact S.inj j k blk _ c q hk hc hc'
    ·exact S.inj j j' blk blk' c q q' hc hc'
  nF:=fun j blk c h hc=>by
   rcases hof j blk h with ⟨g1,g2⟩ | ⟨hj,q⟩
   ·subst g2;exact S.nF k _ c hk hc
   ·exact S.nF j blk c q hc
  fresh:=fun j h=>by
   simp only [upd] at h
   split at h
   ·cases h
   ·exact S.fresh j h
  stampC:=fun j l' s' h=>by
   rcases hof j _ h with ⟨_,q⟩ | ⟨hj,q⟩
   ·cases q
   ·exact S.stampC j l' s' q
  stampR:=fun j s' e n α d f l' h=>by
   rcases hof j _ h with ⟨_,q⟩ | ⟨hj,q⟩
   ·cases q
   ·exact S.stampR j s' e n α d f l' q
  stampO:=fun j x h=>by
   rcases hof j _ h with ⟨g1,_⟩ | ⟨hj,q⟩
   ·rw [g1];exact S.stampO k _ hk
   ·exact S.stampO j x q
  df:=fun d hd=>by
   rcases S.df d hd with ⟨D,rfl,q1,q2,q3⟩ | hd2
   ·exact .inl ⟨D,rfl,q1,q2,(putD_other (fun e=>by subst e;rw [q3] at h2;cases h2)).trans q3⟩
   ·exact .inr hd2
  dn:=S.dn
  bt:=S.bt
  kd:=⟨by rw [putD_size];exact S.kd.size,fun j x hj=>by
    have:=S.kd.dfr j x hj
    exact (putD_other (fun e=>by subst e;rw [this] at h2;cases h2)).trans this,fun j rec hj=>by
    obtain ⟨rec',hr⟩:=S.kd.lps j rec hj
    exact ⟨rec',(putD_other (fun e=>by subst e;rw [hr] at h2;cases h2)).trans hr⟩⟩
  kF:=S.kF
  rd:=fun j hj=>by
   obtain ⟨rec',hr⟩:=S.rd j hj
   exact ⟨rec',(putD_other (fun e=>by subst e;rw [hr] at h2;cases h2)).trans hr⟩ }
theorem ok1_mk (S : Sat G tm mem E a w) {nx T kd : Nat} (hnx : mem nx = none) (ho : o.op = .makeMap T none) :
  Ok1 P r nf G tm mem E a w o (.v (.map (some w.heap.size))) (some (nx,.oth (.mp w.heap.size kd fun _=>none))):=fun K Q hK=>by
 have hbel : Below w.heap.size w (w.alloc (.map #[] 0)):=(Below.refl _ w).alloc (Nat.le_refl _) _
 have hfr:=S.fresh nx hnx
 have hlt : ∀ k blk b,mem k = some blk → blkLoc E k blk = some b → b < w.heap.size:=fun k blk b hk hb=>(blkLoc_lt blk (S.memv k blk hk) b hb).2
 have hw0 : G.w0.heap.size ≤ w.heap.size:=S.ext.size
 have step:=S.step nx (.oth (.mp w.heap.size kd fun _=>none)) E (w.alloc (.map #[] 0)) (Env.le.refl E) (fun b hb=>hbel.block b (S.fz b hb).1) (keeps_grow hbel) (S.ext.trans (hbel.mono hw0))
  (fun b hb=>⟨Nat.lt_of_lt_of_le (S.fz b hb).1 hbel.size,(S.fz b hb).2⟩) (fun k _=>⟨rfl,fun _=>rfl⟩)
  (fun k blk b hk hkm hb=>⟨hbel.block b (hlt k blk b hkm hb),S.nF k blk b hkm hb⟩)
  ⟨hw0,#[],0,World.alloc_heap_new w _,mapIs_nil kd⟩
  (fun b hb=>by
   cases hb
   exact ⟨fun hF=>absurd (S.fz _ hF).1 (by omega),fun k blk _ hkm hb'=>absurd (hlt k blk _ hkm hb') (by omega)⟩)
  (fun l' s' hh=>by cases hh) (fun s' e n α d f l' hh=>by cases hh) (fun y hy=>hfr)
 refine exec_val (v:=.map (some w.heap.size)) (w':=w.alloc (.map #[] 0)) (by simp [ho]) (by simp [execOp,ho,run_makeMap]) (hK E _ _ (Env.le.refl E) step (by simp only [sat]))
theorem ok1_up (S : Sat G tm mem E a w) {j b T kd : Nat} {g : Value → Option Value} {m k x : Operand} {kv xv z : Value} (hj : mem j = some (.oth (.mp b kd g))) (hT : mapB P T = some (kd,z)) (ho : o.op = .mapUpdate T m k x ∨ o.op = .insert T m k x)
  (hm : a.eval m = .map (some b)) (hk : a.eval k = kv) (hok : okK kd kv) (hx : a.eval x = xv) : Ok1 P r nf G tm mem E a w o (.v undef) (some (j,.oth (.mp b kd (updG g kv xv)))):=fun K Q hK=>by
 obtain ⟨kt,et,i,q1,q2,q3,q4⟩:=mapB_some hT
 obtain ⟨h1,hs⟩:=S.memv j _ hj
 obtain ⟨es,cl,h2,h3⟩:=run_update (P:=P) q1 q2 hs hok xv
 refine exec_skip (w':=w.putObj b (.map es cl)) (by rcases ho with ho | ho <;> simp [ho]) ?_ (hK E _ _ (Env.le.refl E) (S.setM hj h3) (by simp only [sat]))
 rcases ho with ho | ho <;> simp [execOp,ho,hm,hk,hx,h2]
theorem ok1_lk (S : Sat G tm mem E a w) {j b T kd : Nat} {g : Value → Option Value} {m k : Operand} {kv z : Value} {ok : Bool} (hj : mem j = some (.oth (.mp b kd g))) (hT : mapB P T = some (kd,z)) (ho : o.op = .lookup T m k ok)
  (hm : a.eval m = .map (some b)) (hk : a.eval k = kv) (hok : okK kd kv) : Ok1 P r nf G tm mem E a w o (outM ok z g kv) none:=by
 obtain ⟨kt,et,i,q1,q2,q3,q4⟩:=mapB_some hT
 obtain ⟨h1,hs⟩:=S.memv j _ hj
 refine ok1_pure S (by simp [ho]) ?_ (outM_sat ok z g kv)
 simp [execOp,ho,hm,hk,run_lookup (P:=P) q1 q2 q3 q4 hs hok ok]
theorem MapIs.count {kd : Nat} {es : List MapEntry} {g : Value → Option Value} (h : MapIs kd es g) {ks : List Value} (hn : ks.Nodup) (hk : ∀ k,g k ≠ none ↔ k ∈ ks) : es.length = ks.length:=by
 have hp : (es.map (·.key)).Perm ks:=(List.perm_ext_iff_of_nodup h.nd hn).2 fun k=>by
  rw [← hk,List.mem_map,Option.ne_none_iff_exists']
  constructor
  ·rintro ⟨e,he,hq⟩;exact ⟨_,(h.val k _).2 ⟨e,he,hq,rfl⟩⟩
  ·rintro ⟨v,hv⟩
   obtain ⟨e,he,hq,_⟩:=(h.val k v).1 hv
   exact ⟨e,he,hq⟩
 have:=hp.length_eq
 rwa [List.length_map] at this
theorem ok1_ln (S : Sat G tm mem E a w) {j b T kd kt et : Nat} {g : Value → Option Value} {ks : List Value} {x : Operand} (hj : mem j = some (.oth (.mp b kd g))) (hT : P.underlying T = some (.map kt et))
  (ho : o.op = .call { callee:=.builtin .len,args:=#[x],argTypes:=#[T] }) (hm : a.eval x = .map (some b)) (hn : ks.Nodup) (hk : ∀ k,g k ≠ none ↔ k ∈ ks) :
  Ok1 P r nf G tm mem E a w o (.v (.int .i64 ks.length)) none:=by
 obtain ⟨h1,es,cl,h2,h3⟩:=S.memv j _ hj
 have hl : es.size = ks.length:=by
  have:=h3.count hn hk
  rwa [Array.length_toList] at this
 have hg : (getObj b).run P w = .ok (.map es cl) w:=by simp [getObj,Sem.run,h2]
 refine ok1_pure S (by simp [ho]) (v:=.int .i64 ks.length) ?_ rfl
 simp [execOp,ho,resolve,invoke,builtin,hm,Builtin.len_,Sem.run_bind,run_underlying hT,hg,goInt,hl]
theorem outN_sat {E : Env} {w : World} (x : ByteArray) (p : Nat) : sat E w (outN x p) (if p < x.size then .tuple #[.bool true,goInt p,.int .i32 (Utf8.decode x p).1] else .tuple #[.bool false]):=by
 unfold outN
 split
 ·simp only [sat,satT]
  exact ⟨[.bool true,goInt p,.int .i32 (Utf8.decode x p).1],rfl,.bool true,_,rfl,rfl,goInt p,_,rfl,rfl,_,_,rfl,rfl,rfl⟩
 ·simp only [sat,satT]
  exact ⟨[.bool false],rfl,.bool false,_,rfl,rfl,rfl⟩
theorem ok1_rg (S : Sat G tm mem E a w) {nx T : Nat} {x : Operand} {v : ByteArray} (hnx : mem nx = none) (hT : P.underlying T = some .string) (ho : o.op = .range T x) (hx : a.eval x = .string v) :
  Ok1 P r nf G tm mem E a w o (.v (.pointer (some ⟨w.heap.size,0,none⟩))) (some (nx,.oth (.si w.heap.size v 0))):=fun K Q hK=>by
 have hbel : Below w.heap.size w (w.alloc (.stringIter v 0)):=(Below.refl _ w).alloc (Nat.le_refl _) _
 have hfr:=S.fresh nx hnx
 have hlt : ∀ k blk b,mem k = some blk → blkLoc E k blk = some b → b < w.heap.size:=fun k blk b hk hb=>(blkLoc_lt blk (S.memv k blk hk) b hb).2
 have hw0 : G.w0.heap.size ≤ w.heap.size:=S.ext.size
 have step:=S.step nx (.oth (.si w.heap.size v 0)) E (w.alloc (.stringIter v 0)) (Env.le.refl E) (fun b hb=>hbel.block b (S.fz b hb).1) (keeps_grow hbel) (S.ext.trans (hbel.mono hw0))
  (fun b hb=>⟨Nat.lt_of_lt_of_le (S.fz b hb).1 hbel.size,(S.fz b hb).2⟩) (fun k _=>⟨rfl,fun _=>rfl⟩)
  (fun k blk b hk hkm hb=>⟨hbel.block b (hlt k blk b hkm hb),S.nF k blk b hkm hb⟩)
  ⟨hw0,World.alloc_heap_new w _⟩
  (fun b hb=>by
   cases hb
   exact ⟨fun hF=>absurd (S.fz _ hF).1 (by omega),fun k blk _ hkm hb'=>absurd (hlt k blk _ hkm hb') (by omega)⟩)
  (fun l' s' hh=>by cases hh) (fun s' e n α d f l' hh=>by cases hh) (fun y hy=>hfr)
 refine exec_val (v:=.pointer (some ⟨w.heap.size,0,none⟩)) (w':=w.alloc (.stringIter v 0)) (by simp [ho]) ?_ (hK E _ _ (Env.le.refl E) step (by simp only [sat]))
 simp [execOp,ho,hx,Instr.range,run_underlying hT]
theorem ok1_nx (S : Sat G tm mem E a w) {j b p : Nat} {v : ByteArray} {x : Operand} (hj : mem j = some (.oth (.si b v p))) (ho : o.op = .next x true) (hx : a.eval x = .pointer (some ⟨b,0,none⟩)) :
  Ok1 P r nf G tm mem E a w o (outN v p) (some (j,.oth (.si b v (advN v p)))):=fun K Q hK=>by
 obtain ⟨h1,h2⟩:=S.memv j _ hj
 have hg : (getObj b).run P w = .ok (.stringIter v p) w:=by simp [getObj,Sem.run,h2]
 by_cases hp : p < v.size
 ·have hs : ∀ ob,(setObj b ob).run P w = .ok () (w.putObj b ob):=fun ob=>by simp [setObj,Sem.run,h2,World.putObj]
  refine exec_val (v:=.tuple #[.bool true,goInt p,.int .i32 (Utf8.decode v p).1]) (w':=w.putObj b (.stringIter v (p + (Utf8.decode v p).2))) (by simp [ho]) ?_ (hK E _ _ (Env.le.refl E) ?_ ?_)
  ·simp [execOp,ho,hx,Instr.next,hg,hp,hs]
  ·have:=S.setI hj (p + (Utf8.decode v p).2)
   rwa [show advN v p = p + (Utf8.decode v p).2 by unfold advN;rw [if_pos hp]]
  ·have:=outN_sat (E:=E) (w:=w.putObj b (.stringIter v (p + (Utf8.decode v p).2))) v p
   rwa [if_pos hp] at this
 ·refine exec_val (v:=.tuple #[.bool false]) (w':=w) (by simp [ho]) ?_ (hK E _ _ (Env.le.refl E) ?_ ?_)
  ·simp [execOp,ho,hx,Instr.next,hg,hp]
  ·rw [show advN v p = p by unfold advN;rw [if_neg hp]]
   have e : upd mem j (some (Blk.oth (.si b v p))) = mem:=by
    funext k
    simp only [upd]
    split
    ·rename_i e;rw [e,hj]
    ·rfl
   show Sat G tm (upd mem j (some (Blk.oth (.si b v p)))) E a w
   rw [e];exact S
  ·have:=outN_sat (E:=E) (w:=w) v p
   rwa [if_neg hp] at this
end
section
variable {P : Program} {r : Option Nat} {nf : Nat} {G : Gl} {tm : Nat → AV} {mem : Nat → Option Blk} {E : Env} {a : Act} {w : World} {o : Oper}
theorem ok1_isn (S : Sat G tm mem E a w) {neg : Bool} {t t' el n : Nat} {x : Operand} {α : Type} {d : α} {f : α → List AV} {l : List α} (ht : P.underlying t = some (.slice el))
  (ho : o.op = .binOp (if neg then .neq else .eql) t x (.const (.slice none 0 0)) t') (hx : sat E w (.sl n d f l) (a.eval x)) : ∃ b : Bool,(0 < l.length → b = neg) ∧ Ok1 P r nf G tm mem E a w o (.v (.bool b)) none:=by
 have hd : ∀ c,o.op ≠ .defer c:=by simp [ho]
 have hy : a.eval (.const (.slice none 0 0)) = .slice none 0 0:=rfl
 simp only [sat,fsat] at hx
 obtain ⟨ad,cap,h1,_,_,h2⟩:=hx
 cases ad with
 |none=>
  have hl : l = []:=by
   rcases h2 with h2 | ⟨b,q,h3,_⟩
   ·exact h2
   ·cases h3
  have he : ∀ (d : Nat),(Op.equalIn (d + 1) t (.slice none l.length cap) (.slice none 0 0)).run P w = .ok true w:=fun d=>by
   simp only [Op.equalIn,Sem.run_bind,run_underlying ht,Result.andThen_ok];rfl
  have he' : (Op.equal t (.slice none l.length cap) (.slice none 0 0)).run P w = .ok true w:=he 9999
  refine ⟨!neg,fun h=>by rw [hl] at h;simp at h,ok1_pure S hd (v:=.bool (!neg)) ?_ rfl⟩
  cases neg
  ·simp only [Bool.false_eq_true,if_false] at ho
   simp [execOp,ho,h1,hy,eqGuard,Go.binOp,Sem.run_bind,he']
  ·simp only [if_true] at ho
   simp [execOp,ho,h1,hy,eqGuard,Go.binOp,Sem.run_bind,he']
 |some ad=>
  have he : ∀ (d : Nat),(Op.equalIn (d + 1) t (.slice (some ad) l.length cap) (.slice none 0 0)).run P w = .ok false w:=fun d=>by
   simp only [Op.equalIn,Sem.run_bind,run_underlying ht,Result.andThen_ok];rfl
  have he' : (Op.equal t (.slice (some ad) l.length cap) (.slice none 0 0)).run P w = .ok false w:=he 9999
  refine ⟨neg,fun _=>rfl,ok1_pure S hd (v:=.bool neg) ?_ rfl⟩
  cases neg
  ·simp only [Bool.false_eq_true,if_false] at ho
   simp [execOp,ho,h1,hy,eqGuard,Go.binOp,Sem.run_bind,he']
  ·simp only [if_true] at ho
   simp [execOp,ho,h1,hy,eqGuard,Go.binOp,Sem.run_bind,he']
end
def SpM (P : Program) (ro : RO) (s : S) (K : S → Prop) : Prop:=
 ∃ p,pathOf s.tm ro.gp = some p ∧ underAll p s.tm ro.op.uops ∧ match ro.op with
  |.mkm T kd=>p = [] ∧ ∀ b,K (s.app ro.dst [] (.v (.map (some b))) (some (s.nx,.oth (.mp b kd fun _=>none))))
  |.mup T kd m k x=>p = [] ∧ ∃ j b g kv xv,strip (ev s.tm m) = .v (.map (some b)) ∧ lm s.mem j = some (.oth (.mp b kd g)) ∧ keyV (strip (ev s.tm k)) = some kv ∧ okK kd kv ∧ strip (ev s.tm x) = .v xv ∧
    K (s.app ro.dst [] (.v undef) (some (j,.oth (.mp b kd (updG g kv xv)))))
  |.mlk T kd z m k ok=>∃ j b g kv,strip (ev s.tm m) = .v (.map (some b)) ∧ lm s.mem j = some (.oth (.mp b kd g)) ∧ keyV (strip (ev s.tm k)) = some kv ∧ (pc p → okK kd kv) ∧ K (s.app ro.dst p (outM ok z g kv) none)
  |.rgs x=>p = [] ∧ ∃ v,strip (ev s.tm x) = .v (.string v) ∧ ∀ b,K (s.app ro.dst [] (.v (.pointer (some ⟨b,0,none⟩))) (some (s.nx,.oth (.si b v 0))))
  |.nxs x=>p = [] ∧ ∃ j b v q,strip (ev s.tm x) = .v (.pointer (some ⟨b,0,none⟩)) ∧ lm s.mem j = some (.oth (.si b v q)) ∧ K (s.app ro.dst [] (outN v q) (some (j,.oth (.si b v (advN v q)))))
  |.isn neg x=>∃ (n : Nat) (α : Type) (d : α) (f : α → List AV) (l : List α),strip (ev s.tm x) = .sl n d f l ∧ ∀ b : Bool,(0 < l.length → b = neg) → K (s.app ro.dst p (.v (.bool b)) none)
  |.mln x=>∃ (j b kd : Nat) (g : Value → Option Value) (ks : List Value),strip (ev s.tm x) = .v (.map (some b)) ∧ lm s.mem j = some (.oth (.mp b kd g)) ∧ ks.Nodup ∧ (∀ k,g k ≠ none ↔ k ∈ ks) ∧ K (s.app ro.dst p (.v (.int .i64 ks.length)) none)
  |_=>False
section
variable {P : Program} {r : Option Nat} {nf N : Nat} {fz : List Nat} {G : Gl} {ops : Array Oper} {rl : List RO} {E : Env} {a : Act} {w : World} {o : Oper}
theorem trR_mkm {f : Bool} {op : Op} {T kd : Nat} (h : trR P f op = some (.mkm T kd)) : op = .makeMap T none:=by
 unfold trR at h
 simp only [Option.some.injEq] at h
 split at h
 ·rename_i r1 h1
  subst h
  unfold trR0 at h1
  repeat' (first | (split at h1) | (simp only [Option.some.injEq,reduceCtorEq,R.mkm.injEq] at h1;done))
  all_goals first
   |(simp only [Option.some.injEq,reduceCtorEq] at h1;done)
   |(simp only [Option.some.injEq,R.mkm.injEq] at h1;obtain ⟨rfl,_⟩:=h1;rfl)
 ·cases h
theorem trR_mup {f : Bool} {op : Op} {T kd : Nat} {m k x : Operand} (h : trR P f op = some (.mup T kd m k x)) : ∃ z,mapB P T = some (kd,z) ∧ (op = .mapUpdate T m k x ∨ op = .insert T m k x):=by
 unfold trR at h
 simp only [Option.some.injEq] at h
 split at h
 ·rename_i r1 h1
  subst h
  unfold trR0 at h1
  repeat' (first | (split at h1) | (simp only [Option.some.injEq,reduceCtorEq,R.mup.injEq] at h1;done))
  all_goals first
   |(simp only [Option.some.injEq,reduceCtorEq] at h1;done)
   |(simp only [Option.some.injEq,R.mup.injEq] at h1;obtain ⟨rfl,rfl,rfl,rfl,rfl⟩:=h1;first | exact ⟨_,by assumption,.inl rfl⟩ | exact ⟨_,by assumption,.inr rfl⟩)
 ·cases h
theorem trR_mlk {f : Bool} {op : Op} {T kd : Nat} {z : Value} {m k : Operand} {ok : Bool} (h : trR P f op = some (.mlk T kd z m k ok)) : mapB P T = some (kd,z) ∧ op = .lookup T m k ok:=by
 unfold trR at h
 simp only [Option.some.injEq] at h
 split at h
 ·rename_i r1 h1
  subst h
  unfold trR0 at h1
  repeat' (first | (split at h1) | (simp only [Option.some.injEq,reduceCtorEq,R.mlk.injEq] at h1;done))
  all_goals first
   |(simp only [Option.some.injEq,reduceCtorEq] at h1;done)
   |(simp only [Option.some.injEq,R.mlk.injEq] at h1;obtain ⟨rfl,rfl,rfl,rfl,rfl,rfl⟩:=h1;exact ⟨by assumption,rfl⟩)
 ·cases h
theorem trR_mln {f : Bool} {op : Op} {x : Operand} (h : trR P f op = some (.mln x)) : ∃ T kt et,P.underlying T = some (.map kt et) ∧ op = .call { callee:=.builtin .len,args:=#[x],argTypes:=#[T] }:=by
 unfold trR at h
 simp only [Option.some.injEq] at h
 split at h
 ·rename_i r1 h1
  subst h
  unfold trR0 at h1
  repeat' (first | (split at h1) | (simp only [Option.some.injEq,reduceCtorEq,R.mln.injEq] at h1;done))
  all_goals first
   |(simp only [Option.some.injEq,reduceCtorEq] at h1;done)
   |(simp only [Option.some.injEq,R.mln.injEq] at h1;obtain rfl:=h1;exact ⟨_,_,_,by assumption,rfl⟩)
 ·cases h
theorem trR_rgs {f : Bool} {op : Op} {x : Operand} (h : trR P f op = some (.rgs x)) : ∃ T,P.underlying T = some .string ∧ op = .range T x:=by
 unfold trR at h
 simp only [Option.some.injEq] at h
 split at h
 ·rename_i r1 h1
  subst h
  unfold trR0 at h1
  repeat' (first | (split at h1) | (simp only [Option.some.injEq,reduceCtorEq,R.rgs.injEq] at h1;done))
  all_goals first
   |(simp only [Option.some.injEq,reduceCtorEq] at h1;done)
   |(simp only [Option.some.injEq,R.rgs.injEq] at h1;obtain rfl:=h1;exact ⟨_,by assumption,rfl⟩)
 ·cases h
theorem trR_nxs {f : Bool} {op : Op} {x : Operand} (h : trR P f op = some (.nxs x)) : op = .next x true:=by
 unfold trR at h
 simp only [Option.some.injEq] at h
 split at h
 ·rename_i r1 h1
  subst h
  unfold trR0 at h1
  repeat' (first | (split at h1) | (simp only [Option.some.injEq,reduceCtorEq,R.nxs.injEq] at h1;done))
  all_goals first
   |(simp only [Option.some.injEq,reduceCtorEq] at h1;done)
   |(simp only [Option.some.injEq,R.nxs.injEq] at h1;obtain rfl:=h1;rfl)
 ·cases h
theorem trR_isn {f : Bool} {op : Op} {neg : Bool} {x : Operand} (h : trR P f op = some (.isn neg x)) : ∃ t el t',P.underlying t = some (.slice el) ∧ op = .binOp (if neg then .neq else .eql) t x (.const (.slice none 0 0)) t':=by
 unfold trR at h
 simp only [Option.some.injEq] at h
 split at h
 ·rename_i r1 h1
  subst h
  unfold trR0 at h1
  repeat' (first | (split at h1) | (simp only [Option.some.injEq,reduceCtorEq,R.isn.injEq] at h1;done))
  all_goals first
   |(simp only [Option.some.injEq,reduceCtorEq] at h1;done)
   |(simp only [Option.some.injEq,R.isn.injEq] at h1;obtain ⟨rfl,rfl⟩:=h1;exact ⟨_,_,_,by assumption,rfl⟩)
 ·cases h
theorem there_of {s : S} (h : ∀ k,s.nx ≤ k → lm s.mem k = none) {j : Nat} {b : Blk} (hj : lm s.mem j = some b) : there s j:=by
 refine ⟨?_,(hasM_iff _ _).2 (by rw [hj];simp)⟩
 rcases Nat.lt_or_ge j s.nx with q | q
 ·exact q
 ·rw [h j q] at hj;cases hj
theorem under_strip {x : AV} {y : Value} {p : Path} (hu : under p x) (hp : pc p) (hs : sat E w x y) : sat E w (strip x) y:=by
 cases x with
 |gd q a=>
  simp only [under] at hu
  simp only [sat] at hs
  exact hs.1 (pc_covers hp hu)
 |_=>exact hs
theorem spm_step (hG : G.N = N) {ro : RO} {s : S} {K : S → Prop} (h2 : TrO P N fz ops o ro) (hS : SatS G s E a w) (hsp : SpM P ro s K) (Kc : Act → World → Prop) (Q : Exit → Act → World → Prop) (hK : ∀ s' E' a' w',K s' → SatS G s' E' a' w' → Kc a' w') :
  if Region.wanted o (yielded ops a.tmps) then o.wpIn (W1 r) nf P a w Kc Q else (∀ f,o.about P w a.eval = some f → (W1 r).fn f) ∧ Kc (a.put o.dst undef) w:=by
 obtain ⟨p,hp,hu,hx⟩:=hsp
 have hslots : ∀ x,sat E w (ev s.tm x) (a.eval x):=fun x=>ev_sat hS.st x (fun t _=>rfl)
 obtain ⟨f0,hop⟩:=h2.op
 have fin : ∀ (out : AV) (u : Option (Nat × Blk)),okU p s u → (pc p → Ok1 P r nf G (lk s.tm) (lm s.mem) E a w o out u) → K (s.app ro.dst p out u) → (if Region.wanted o (yielded ops a.tmps) then o.wpIn (W1 r) nf P a w Kc Q else (∀ f,o.about P w a.eval = some f → (W1 r).fn f) ∧ Kc (a.put o.dst undef) w):=fun out u hok h1 hk=>by
  have hG1 : GOk P r nf G (lk s.tm) (lm s.mem) E a w ops o (gdd p out) u:=gok_of hS.st h2.gd (by rw [← pathOf_eq];exact hp) (fun g b hg=>hslots _) hok h1
  refine hG1 Kc Q (fun E' w' v h3 h4 h5=>?_)
  have hS':=satS_app (dst:=o.dst) (p:=p) hS.nx h4 h5 hok (fun d hd=>by rw [hG];exact h2.lt d hd)
  rw [h2.dst] at hk
  exact hK _ E' _ w' hk hS'
 cases hro : ro.op <;> rw [hro] at hx hop hu <;> (try exact hx.elim)
 ·rename_i neg x
  obtain ⟨n,α,d,f,l,e1,hk⟩:=hx
  obtain ⟨t,el,t',q1,q2⟩:=trR_isn hop
  simp only [R.uops,R.opds,underAll,and_true] at hu
  by_cases hpc : pc p
  ·have s1:=under_strip hu hpc (hslots x)
   rw [e1] at s1
   obtain ⟨b,hb,h3⟩:=ok1_isn (r:=r) (nf:=nf) hS.st q1 q2 s1
   exact fin (.v (.bool b)) none trivial (fun _=>h3) (hk b hb)
  ·exact fin (.v (.bool neg)) none trivial (fun h=>absurd h hpc) (hk neg (fun _=>rfl))
 ·rename_i T kd
  obtain ⟨rfl,hk⟩:=hx
  exact fin (.v (.map (some w.heap.size))) (some (s.nx,.oth (.mp w.heap.size kd fun _=>none))) ⟨rfl,.inl rfl⟩ (fun _=>ok1_mk hS.st (hS.nx _ (Nat.le_refl _)) (trR_mkm hop)) (hk w.heap.size)
 ·rename_i T kd m k x
  obtain ⟨rfl,j,b,g,kv,xv,e1,e2,e3,e4,e5,hk⟩:=hx
  obtain ⟨z,q1,q2⟩:=trR_mup hop
  simp only [R.uops,R.opds,underAll,and_true] at hu
  have s1:=under_strip hu.1 (trivial : pc []) (hslots m)
  have s2:=under_strip hu.2.1 (trivial : pc []) (hslots k)
  have s3:=under_strip hu.2.2 (trivial : pc []) (hslots x)
  rw [e1] at s1
  rw [e5] at s3
  simp only [sat] at s1 s3
  exact fin (.v undef) (some (j,.oth (.mp b kd (updG g kv xv)))) ⟨rfl,.inr (there_of hS.nx e2)⟩ (fun _=>ok1_up hS.st e2 q1 q2 s1 (keyV_sat e3 s2) e4 s3) hk
 ·rename_i T kd z m k ok
  obtain ⟨j,b,g,kv,e1,e2,e3,e4,hk⟩:=hx
  obtain ⟨q1,q2⟩:=trR_mlk hop
  simp only [R.uops,R.opds,underAll,and_true] at hu
  refine fin (outM ok z g kv) none trivial (fun hpc=>?_) hk
  have s1:=under_strip hu.1 hpc (hslots m)
  have s2:=under_strip hu.2 hpc (hslots k)
  rw [e1] at s1
  simp only [sat] at s1
  exact ok1_lk hS.st e2 q1 q2 s1 (keyV_sat e3 s2) (e4 hpc)
 ·rename_i x
  obtain ⟨rfl,v,e1,hk⟩:=hx
  obtain ⟨T,q1,q2⟩:=trR_rgs hop
  simp only [R.uops,R.opds,underAll,and_true] at hu
  have s1:=under_strip hu (trivial : pc []) (hslots x)
  rw [e1] at s1
  simp only [sat] at s1
  exact fin (.v (.pointer (some ⟨w.heap.size,0,none⟩))) (some (s.nx,.oth (.si w.heap.size v 0))) ⟨rfl,.inl rfl⟩ (fun _=>ok1_rg hS.st (hS.nx _ (Nat.le_refl _)) q1 q2 s1) (hk w.heap.size)
 ·rename_i x
  obtain ⟨rfl,j,b,v,q,e1,e2,hk⟩:=hx
  have q2:=trR_nxs hop
  simp only [R.uops,R.opds,underAll,and_true] at hu
  have s1:=under_strip hu (trivial : pc []) (hslots x)
  rw [e1] at s1
  simp only [sat] at s1
  exact fin (outN v q) (some (j,.oth (.si b v (advN v q)))) ⟨rfl,.inr (there_of hS.nx e2)⟩ (fun _=>ok1_nx hS.st e2 q2 s1) hk
 ·rename_i x
  obtain ⟨j,b,kd,g,ks,e1,e2,e3,e4,hk⟩:=hx
  obtain ⟨T,kt,et,q1,q2⟩:=trR_mln hop
  simp only [R.uops,R.opds,underAll,and_true] at hu
  refine fin (.v (.int .i64 ks.length)) none trivial (fun hpc=>?_) hk
  have s1:=under_strip hu hpc (hslots x)
  rw [e1] at s1
  simp only [sat] at s1
  exact ok1_ln hS.st e2 q1 q2 s1 e3 e4
def chainX (P : Program) : List Nat → List RO → S → (S → Prop) → Prop
 |[],rl,s,K=>chain P none rl s K
 |n :: ns,rl,s,K=>chain P none (rl.take n) s (fun s1=>match rl.drop n with
  |[]=>False
  |ro :: rest=>SpM P ro s1 (fun s2=>chainX P ns rest s2 K))
theorem inorderX (hG : G.N = N) (hrl : trL P N fz ops ops.toList = some rl) {Q : Exit → Act → World → Prop} {K : S → Prop} (hK : ∀ s E a w,K s → SatS G s E a w → Q .normal a w) :
  ∀ (ns : List Nat) (i m : Nat) (s : S) (E : Env) (a : Act) (w : World),i + m = ops.size → chainX P ns (rl.drop i) s K → SatS G s E a w → wpOpsIn (W1 r) nf P ops Q (List.range' i m) a w
 |[],i,m,s,E,a,w,hi,hc,hS=>inorder hG hrl hK m i s E a w hi hc hS
 |n :: ns,i,m,s,E,a,w,hi,hc,hS=>by
  obtain ⟨hl,hsp⟩:=trL_spec hrl
  have hlen : rl.length = ops.size:=by rw [hl,Array.length_toList]
  simp only [chainX] at hc
  rcases Nat.lt_or_ge n m with hn | hn
  rotate_left
  ·-- there is none left
   have hd : (rl.drop i).drop n = []:=List.drop_eq_nil_of_le (by rw [List.length_drop];omega)
   rw [hd] at hc
   have h1:=inorder_part (r:=r) (nf:=nf) (Q:=Q) (m:=0) (e:=i + m) hG hrl (K:=fun _=>False) (fun s1 E1 a1 w1 hk hS1=>hk.elim) m i s E a w rfl (by omega) (by
    rw [List.take_of_length_le (by rw [List.length_drop];omega)] at hc
    rwa [List.take_of_length_le (by rw [List.length_drop];omega)]) hS
   rwa [Nat.add_zero] at h1
  ·have h1:=inorder_part (r:=r) (nf:=nf) (Q:=Q) (m:=m - n) (e:=i + n) hG hrl (K:=fun s1=>match (rl.drop i).drop n with
    |[]=>False
    |ro :: rest=>SpM P ro s1 (fun s2=>chainX P ns rest s2 K)) (fun s1 E1 a1 w1 hk hS1=>by
     have hil : i + n < ops.size:=by omega
     obtain ⟨ro,g1,g2⟩:=hsp (i + n) ops[i + n] (by simp [hil])
     have hdrop : (rl.drop i).drop n = ro :: rl.drop (i + n + 1):=by
      rw [List.drop_drop]
      have hlt : i + n < rl.length:=by omega
      rw [List.drop_eq_getElem_cons hlt]
      congr 1
      rw [List.getElem?_eq_getElem hlt] at g1
      simpa using g1
     rw [hdrop] at hk
     simp only [] at hk
     rw [show m - n = (m - n - 1) + 1 by omega,List.range'_succ,wpOpsIn_cons]
     unfold wpOpIn
     simp only [Array.getElem?_eq_getElem hil]
     exact spm_step hG g2 hS1 hk _ Q (fun s' E' a' w' hc' hS'=>inorderX hG hrl hK ns (i + n + 1) (m - n - 1) s' E' a' w' (by omega) hc' hS')) n i s E a w rfl (by omega) hc hS
   rwa [show n + (m - n) = m by omega] at h1
end
section
variable {P : Program} {N : Nat} {s : S} {Q : Ex → S → Prop}
theorem W_regX {rl : List RO} {ks : List Nat} (ns : List Nat) (h : chainX P ns rl s (fun s'=>Q .n (s'.keep ks))) : W P N (regL ks none rl) s Q:=by
 intro hm code fz ht r nf G E x w hG hS
 obtain ⟨id,ops,d,rfl,hrl,hd⟩:=trC_reg ht
 rcases hd with ⟨rfl,hx⟩ | ⟨rfl,hx,hE,hO⟩
 ·refine wpIn_region ?_
  rw [List.range_eq_range']
  exact inorderX hG.1 hrl (K:=fun s'=>Q .n (s'.keep ks)) (fun s E a w hk hS=>⟨_,E,hk,keep_sat ks hS⟩) ns 0 ops.size s E x w (by omega) (by rw [List.drop_zero];exact h) hS
 ·cases hx
end
set_option maxHeartbeats 1000000
section
variable {P : Program} {r : Option Nat} {nf N : Nat} {fz : List Nat} {G : Gl} {ops : Array Oper} {rl : List RO} {ms : List Nat} {s : S} {st : Nat → S} {pp : Nat → Path} {out : Nat → AV} {u : Nat → Option (Nat × Blk)}
end
section
variable {P : Program} {N : Nat} {s : S} {Q : Ex → S → Prop}
end
def FinO (rv : List RV) (T n : Nat) {α : Type} (d : α) (F : α → List AV) (l : List α) : Ex → S → Prop
 |.e _,_=>False
 |_,s=>∃ k st,resOK s rv [.row k st] ∧ lm s.mem k = some (.row st T n d F l)
theorem rowSat_pure {A B : Nat → Prop} {w : World} {n : Nat} {α : Type} {F : α → List AV} {l : List α} {xs : List Value} (hp : ∀ x ∈ l,pureAll (F x) = true) (h : rowSat A w n F l xs) : rowSat B w n F l xs:=fun i x hx=>by
 obtain ⟨h1,h2⟩:=h i x hx
 exact ⟨h1,fsatL_pure _ _ (hp x (List.mem_iff_getElem?.2 ⟨i,hx⟩)) h2⟩
theorem ownsRow_base {w : World} {B B' e n : Nat} {v : Value} {m : Nat} {xs : List Value} (h : w.ownsRow B e n v m xs) (hb : B' ≤ B) : w.ownsRow B' e n v m xs:=by
 obtain ⟨h1,h2⟩:=h
 refine ⟨h1,?_⟩
 rcases h2 with h2 | ⟨g,cap,cur,q1,q2,q3⟩
 ·exact .inl h2
 ·exact .inr ⟨g,cap,cur,q1,Nat.le_trans hb q2,q3⟩
theorem FnO_of_W {P : Program} {f : Nat} {c : C} {N np : Nat} {rv : List RV} (hm : P.follows .mixedOrders = true) (ht : Text P f c N np rv) {args : List AV} (hn : args.length = np) {T n : Nat} {α : Type} {d : α} {F : α → List AV} {l : List α}
  (hp : ∀ x ∈ l,pureAll (F x) = true) (h : W P N c (init args) (FinO rv T n d F l)) : FnO P f args T n d F l:=by
 refine ⟨?_,hp,fun A w vs hA hargs=>?_⟩
 ·obtain ⟨fn,fz,h1,h26,h3,h4,h5⟩:=ht.ex
  cases hb : fn.body with
  |none=>rw [hb] at h26;cases h26
  |some code=>simp [hasBody,h1,hb,h3]
 have hlen:=(fsatT_get hargs).1
 have hq : ∀ e s,FinO rv T n d F l e s → (e = .n ∨ e = .r) ∧ ∃ k st,resOK s rv [.row k st] ∧ lm s.mem k = some (.row st T n d F l):=fun e s q=>by
  cases e with
  |e id=>exact q.elim
  |n=>exact ⟨.inl rfl,q⟩
  |r=>exact ⟨.inr rfl,q⟩
 refine calls_of_W hm ht h (fun e s q=>⟨(hq e s q).1,by obtain ⟨_,k,st,h1,_⟩:=hq e s q;exact ⟨_,h1⟩⟩) (by omega) (G:=⟨A,w,N,none,w,A,AlwD P⟩) (E:=⟨fun _=>none,fun _ _=>none,A⟩) rfl rfl rfl (fun a hz hv hd=>start_sat hA hargs a hz hv hd) _ ?_
 intro e s E' a' w' xs us hQ hr hS h8
 obtain ⟨_,k,st,h1,h2⟩:=hq e s hQ
 obtain rfl:=resOK_det hr h1
 simp only [satT,sat] at h8
 obtain ⟨y,ys,rfl,⟨hd,h3,rfl⟩,rfl⟩:=h8
 obtain ⟨v,zs,h4,h5,h6,h7⟩:=hS.st.memv k _ h2
 rw [h3] at h4
 cases h4
 exact ⟨hd,zs,by simp [valOf],hS.st.ext,h5,h6,rowSat_pure hp h7⟩
section
variable {P : Program} {r : Option Nat} {nf N : Nat} {fz : List Nat} {G : Gl} {tm : Nat → AV} {mem : Nat → Option Blk} {ops : Array Oper} {rl : List RO} {E : Env} {a : Act} {w : World} {o : Oper}
end
section
variable {P : Program} {N : Nat} {s : S} {Q : Ex → S → Prop}
end
end Sy
