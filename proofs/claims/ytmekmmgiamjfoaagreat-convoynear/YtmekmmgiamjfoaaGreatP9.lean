/- Part 9 of the proof of: If a track is right, each of its points is near the guide, whatever the input. -/
import Derived.Test.YtmekmmgiamjfoaaGreatP8
import Derived.Shelf.Strings.FuncGrows
namespace Go.Proofs.YtmekmmgiamjfoaaGreat
open Go Sy
set_option maxRecDepth 100000
set_option maxHeartbeats 4000000
set_option linter.unusedVariables false
set_option linter.unusedSimpArgs false
def rho : Go.Shelf.Ren:=⟨fun f=>if f = 315 then 228 else 0,fun t=>if t = 40 then 232 else t,fun g=>g⟩
theorem lays : Lays.n315 Tryz.prog rho:={
 mixed:=mixed
 f315:=by kernel_rfl
 t0:=by kernel_rfl
 a0:=fun w=>by kernel_rfl
 z0:=fun w=>by kernel_rfl
 v0:=fun w=>by kernel_rfl
 t3:=by kernel_rfl
 a3:=fun w=>by kernel_rfl
 z3:=fun w=>by kernel_rfl
 v3:=fun w=>by kernel_rfl
 t4:=by kernel_rfl
 a4:=fun w=>by kernel_rfl
 z4:=fun w=>by kernel_rfl
 v4:=fun w=>by kernel_rfl
 t9:=by kernel_rfl
 a9:=fun w=>by kernel_rfl
 z9:=fun w=>by kernel_rfl
 v9:=fun w=>by kernel_rfl
 t21:=by kernel_rfl
 a21:=fun w=>by kernel_rfl
 z21:=fun w=>by kernel_rfl
 v21:=fun w=>by kernel_rfl
 t40:=by kernel_rfl
 a40:=fun w=>by kernel_rfl
 z40:=fun w=>by kernel_rfl
 v40:=fun w=>by kernel_rfl }
abbrev stv (s : ByteArray) : AV:=.v (.string s)
theorem fn228 (s : ByteArray) (g : Nat) (p : Nat → Bool) (hg : ∀ x : Nat,x ≤ 1114111 → Sy.Fn Tryz.prog g [.v (.int .i32 x)] (bv (p x))) : Sy.Fn Tryz.prog 228 [stv s,.clo g [] [],bv true] (iv (Lib.idxFunc p true s)):=by
 refine ⟨by kernel_rfl,fun A w vs hA hvs=>?_⟩
 simp only [fsatT,fsat] at hvs
 obtain ⟨x1,r1,rfl,rfl,x2,r2,rfl,⟨fv,cv,rfl,rfl,rfl⟩,x3,r3,rfl,rfl,rfl⟩:=hvs
 have hp : PredGrows Tryz.prog g #[] p w:=fun W x hx _=>by
  refine ((hg x hx).2 (fun _=>False) W [.int .i32 x] (fun b h=>h.elim) (by simp [fsatT,fsat])).mono ?_
  rintro e w' ⟨v,rfl,hb,hv⟩
  simp only [fsat] at hv
  exact ⟨by rw [hv],hb⟩
 have h:=Any.strings_indexFunc_grows lays g #[] (fun args w=>run_callFunc (hg 0 (by omega)).1) p true s w hp
 refine h.mono ?_
 rintro e w' ⟨rfl,hb⟩
 exact ⟨_,rfl,hb,by simp only [fsat]⟩
theorem fn209 (s : ByteArray) (g : Nat) (p : Nat → Bool) (hg : ∀ x : Nat,x ≤ 1114111 → Sy.Fn Tryz.prog g [.v (.int .i32 x)] (bv (p x))) : Sy.Fn Tryz.prog 209 [stv s,.clo g [] []] (iv (Lib.idxFunc p true s)):=by
 refine Fn_of_W mixed Xt209 rfl ?_
 (refine go_c (fn228 s g p hg) ?_;try exact tTI)
 exact W_ret ⟨[_],⟨rfl,rfl⟩,rfl⟩
theorem fn171 (s : ByteArray) (g : Nat) (p : Nat → Bool) (hg : ∀ x : Nat,x ≤ 1114111 → Sy.Fn Tryz.prog g [.v (.int .i32 x)] (bv (p x))) : Sy.Fn Tryz.prog 171 [stv s,.clo g [] []] (bv (decide (0 ≤ Lib.idxFunc p true s))):=by
 refine Fn_of_W mixed Xt171 rfl ?_
 (refine go_c (fn209 s g p hg) ?_;try exact tTI)
 exact W_ret ⟨[_],⟨rfl,rfl⟩,rfl⟩
def okCh (b : Int) : Bool:=(decide (97 ≤ b) && decide (b ≤ 122)) || (decide (48 ≤ b) && decide (b ≤ 57))
theorem get_at (s : ByteArray) (i : Nat) (h : i < s.size) : s.get! i = s[i]:=by
 cases s with | mk d=>
 show d[i]! = d[i]
 exact getElem!_pos d i h
theorem byteAt_get (s : ByteArray) (i : Nat) (h : i < s.size) : byteAt s i = (s.get! i).toNat:=by
 unfold byteAt
 have h4 : s[i]? = some s[i]:=by simp [h]
 rw [h4,get_at s i h]
def chars (s : ByteArray) : Bool:=(List.range s.size).all (fun i=>okCh (byteAt s i))
theorem idx_ok (s : ByteArray) : ∀ (f pos : Nat),s.size ≤ pos + f → (0 ≤ Lib.idxFuncFrom (fun x=>!okCh x) true s f pos ↔ ∃ i,pos ≤ i ∧ i < s.size ∧ okCh (byteAt s i) = false)
 |0,pos,h=>by
  simp only [Lib.idxFuncFrom]
  constructor
  ·intro h;omega
  ·rintro ⟨i,a,b,_⟩;omega
 |f + 1,pos,h=>by
  unfold Lib.idxFuncFrom
  by_cases hp : pos < s.size
  case neg=>
   rw [if_neg hp]
   constructor
   ·intro h;omega
   ·rintro ⟨i,a,b,_⟩;omega
  rw [if_pos hp]
  have hd:=Lib.decode_at s pos
  have hb:=byteAt_get s pos hp
  rw [← hb] at hd
  by_cases hc : okCh (byteAt s pos) = true
  ·have hlt : byteAt s pos < 128:=by
    unfold okCh at hc
    simp only [Bool.or_eq_true,Bool.and_eq_true,decide_eq_true_eq] at hc
    omega
   have e : Utf8.decode s pos = (byteAt s pos,1):=by rw [hd];unfold Lib.decodeN;rw [if_pos hlt]
   rw [e]
   simp only []
   rw [hc,if_neg (by decide),idx_ok s f (pos + 1) (by omega)]
   constructor
   ·rintro ⟨i,a,b,d⟩;exact ⟨i,by omega,b,d⟩
   ·rintro ⟨i,a,b,d⟩
    refine ⟨i,?_,b,d⟩
    by_cases q : i = pos
    ·subst q;rw [hc] at d;cases d
    ·omega
  ·have hbad : okCh ((Utf8.decode s pos).1 : Nat) = false:=by
    by_cases hlt : byteAt s pos < 128
    ·have e : Utf8.decode s pos = (byteAt s pos,1):=by rw [hd];unfold Lib.decodeN;rw [if_pos hlt]
     rw [e];simpa using hc
    ·have : 128 ≤ (Utf8.decode s pos).1:=by
      rw [hd];unfold Lib.decodeN;rw [if_neg hlt]
      repeat' split
      all_goals (simp only [];omega)
     unfold okCh
     rw [Bool.or_eq_false_iff,Bool.and_eq_false_iff,Bool.and_eq_false_iff]
     simp only [decide_eq_false_iff_not]
     omega
   rw [hbad,if_pos (by decide)]
   exact ⟨fun _=>⟨pos,Nat.le_refl _,hp,by simpa using hc⟩,fun _=>by omega⟩
theorem idx_chars (s : ByteArray) : decide (0 ≤ Lib.idxFunc (fun x=>!okCh x) true s) = !chars s:=by
 have h:=idx_ok s s.size 0 (by omega)
 rw [Bool.eq_iff_iff,decide_eq_true_eq,Bool.not_eq_true']
 unfold Lib.idxFunc chars
 rw [h]
 constructor
 ·rintro ⟨i,_,a,b⟩
  rw [← Bool.not_eq_true,List.all_eq_true]
  intro q
  rw [q i (by simpa using a)] at b;cases b
 ·intro q
  rw [← Bool.not_eq_true,List.all_eq_true] at q
  apply Classical.byContradiction
  intro hn
  apply q
  intro i hi
  rw [← Bool.not_eq_false]
  intro hb
  exact hn ⟨i,by omega,by simpa using hi,hb⟩
def nameB (s : ByteArray) : Bool:=!decide (s.size = 0) && decide (s.size ≤ 20) && chars s
end Go.Proofs.YtmekmmgiamjfoaaGreat
