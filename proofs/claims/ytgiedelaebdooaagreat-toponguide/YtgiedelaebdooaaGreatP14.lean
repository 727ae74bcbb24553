/- Part 14 of the proof of: For every input the law TopOnGuide returns true: a point of a guide at a length is hardly off it, a track of such points is right, and one that is moved too far is refused. -/
import Derived.Test.YtgiedelaebdooaaGreatP13
namespace Go.Proofs.YtgiedelaebdooaaGreat.P
open Go Sy
set_option maxRecDepth 100000
set_option maxHeartbeats 8000000
set_option linter.unusedVariables false
set_option linter.unusedSimpArgs false
theorem Fn_arg0 {P : Program} {f : Nat} {a a' : AV} {rest : List AV} {r : AV} (hs : ∀ F w v,fsat F w a' v → fsat F w a v) (h : Sy.Fn P f (a :: rest) r) : Sy.Fn P f (a' :: rest) r:=by
 refine ⟨h.1,fun A w vs hA hT=>h.2 A w vs hA ?_⟩
 simp only [fsatT] at hT ⊢
 obtain ⟨x,xs,rfl,h1,h2⟩:=hT
 exact ⟨x,xs,rfl,hs _ _ _ h1,h2⟩
theorem fsat_nil {F : Nat → Prop} {w : World} {v : Value} {n : Nat} {α : Type} {d : α} {g : α → List AV} (h : fsat F w (.v (.slice none 0 0)) v) : fsat F w (.sl n d g []) v:=by
 simp only [fsat] at h ⊢
 subst h
 exact ⟨none,0,rfl,Nat.le_refl _,.inl rfl,.inl trivial⟩
theorem fsat_sl {F : Nat → Prop} {w : World} {v : Value} {n : Nat} {α : Type} {d : α} {f g : α → List AV} {l : List α} (hs : ∀ x ∈ l,(f x).length = (g x).length ∧ ∀ vs,fsatL F w (f x) vs → fsatL F w (g x) vs) (h : fsat F w (.sl n d f l) v) : fsat F w (.sl n d g l) v:=by
 simp only [fsat] at h ⊢
 obtain ⟨a,cap,h1,h2,h3,h4⟩:=h
 refine ⟨a,cap,h1,h2,h3,?_⟩
 rcases h4 with h4 | ⟨b,o,h4,h5,h6⟩
 ·exact .inl h4
 ·refine .inr ⟨b,o,h4,h5,fun i x hx=>?_⟩
  obtain ⟨q1,vs,q2,q3⟩:=h6 i x hx
  obtain ⟨s1,s2⟩:=hs x (List.mem_of_getElem? hx)
  exact ⟨by rw [← s1];exact q1,vs,q2,s2 vs q3⟩
def cAn (x : Aut) : List AV:=[stv x.nm,iv x.fe,iv x.no,.v (.slice none 0 0)]
theorem lAn (x : Aut) : (cAn x).length = 4:=rfl
theorem frAn (x : Aut) : frzAll (cAn x) = true:=rfl
attribute [push_cast] lAn frAn
theorem cAn_sat {F : Nat → Prop} {w : World} {l : List Aut} (h : ∀ x ∈ l,x.ru = []) (v : Value) (hv : fsat F w (.sl 4 dAu cAn l) v) : fsat F w (aAu l) v:=by
 refine fsat_sl (f:=cAn) (fun x hx=>⟨rfl,fun vs hq=>?_⟩) hv
 unfold cAn at hq
 unfold cAu
 rw [h x hx]
 simp only [fsatL] at hq ⊢
 obtain ⟨x1,xs1,rfl,o1,q1,x2,xs2,rfl,o2,q2,x3,xs3,rfl,o3,q3,x4,xs4,rfl,o4,q4,q5⟩:=hq
 exact ⟨x1,_,rfl,o1,q1,x2,_,rfl,o2,q2,x3,_,rfl,o3,q3,x4,_,rfl,o4,fsat_nil q4,q5⟩
def exAu : Aut:=⟨⟨#[97]⟩,7,0,[]⟩
def exPs : Psg:=⟨⟨#[97]⟩,⟨#[120]⟩,9⟩
def exTp : Trp:=⟨fun _=>0,[exPs]⟩
theorem exE : dskE [exAu] exTp = 0:=by
 have h1 : allE [exAu] = 0:=by
  unfold allE
  rw [if_neg (by decide),if_pos (by kernel_rfl),if_neg]
  rw [show ([exAu] : List Aut).length = (nmA [exAu]).length from rfl,nub_len]
  simp [nmA]
 unfold dskE
 rw [if_pos h1,if_pos (by kernel_rfl),if_pos (by kernel_rfl)]
theorem exV : pmV [exAu] exTp = [aCd [],iv 7,iv 0]:=by
 unfold pmV
 rw [if_pos exE]
 have h1 : (dkN [exAu] exTp 1).cd = []:=by kernel_rfl
 have h2 : (dkN [exAu] exTp 1).fe = 7:=by kernel_rfl
 have h3 : (dkN [exAu] exTp 1).no = 0:=by kernel_rfl
 show [aCd (dkN [exAu] exTp 1).cd,iv (dkN [exAu] exTp 1).fe,iv (dkN [exAu] exTp 1).no] = _
 rw [h1,h2,h3]
theorem fn34 : Sy.Fn Tryz.prog 34 [] (bv true):=by
 refine Fn_of_W mixed Xt34 rfl ?_
 have c9:=fn85 [exAu] exTp (by decide) (by intro a ha;rw [List.mem_singleton] at ha;rw [ha];exact ⟨by decide,fun x hx=>by cases hx⟩) (by decide)
 rw [exV,exE] at c9
 have c9:=Fn_arg0 (a':=.sl 4 dAu cAn [exAu]) (fun F w v=>cAn_sat (fun x hx=>by rw [List.mem_singleton] at hx;rw [hx];rfl) v) c9
 have c65:=fn65
 repeat (first | refine WK_go ?_ | refine W_seqL ?_ | refine W_seq ?_ | refine W_block ?_)
 refine W_regL ?_
 (refine sy1 ?_;try exact tTI)
 repeat (first | refine WK_go ?_ | refine W_seqL ?_ | refine W_seq ?_ | refine W_block ?_)
 refine W_regP [2,2] (by decide) ?_
 (refine sCP ?_;try exact tTI)
 refine ⟨rfl,trivial,Aut,dAu,cAn,[exAu],rfl,by omega,fun x _=>⟨rfl,rfl⟩,rfl,?_⟩
 refine ⟨_,le_frzR 5 [] [] 10 2 0 186 4 dAu cAn [exAu] rfl rfl rfl rfl,?_⟩
 (refine sCP ?_;try exact tTI)
 refine ⟨rfl,trivial,Psg,dPs,cPs,[exPs],rfl,by omega,fun x _=>⟨rfl,rfl⟩,rfl,?_⟩
 refine ⟨_,le_frzR 7 [5] [] 20 11 0 101 3 dPs cPs [exPs] rfl rfl rfl rfl,?_⟩
 (refine sCP ?_;try exact tTI)
 refine CallC.now c9 ?_
 (refine sy1 ?_;try exact tTI)
 (refine go_g c65 ?_;try exact tTI)
 exact W_ret ⟨[_],⟨rfl,rfl⟩,rfl⟩
end Go.Proofs.YtgiedelaebdooaaGreat.P
