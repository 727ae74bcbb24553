/- Part 7 of the proof of: The chapter's examples hold: begin, hold, end, close, tell and the plans between them. -/
import Derived.Test.YtmekmmgiamjfoaaP6
namespace Go.Proofs.Ytmekmmgiamjfoaa.R
open Go Sy
set_option maxRecDepth 100000
set_option maxHeartbeats 8000000
set_option linter.unusedVariables false
set_option linter.unusedSimpArgs false
def sl1 (b : Bool) (x : AV) : AV:=if b = true then x else .bad
theorem sl1_t (x : AV) : sl1 true x = x:=rfl
theorem sl1_f (x : AV) : sl1 false x = .bad:=rfl
theorem le_stk {s s' : S} (ks : List Nat) (nx : Nat) (h : ∀ j,nx ≤ j → lm s.mem j = none) (he : (⟨keepL s.tm ks,s.mem,nx⟩ : S) = s') : le s s':=he ▸ le_keepL ks nx h
theorem le_two {s t u : S} (h : le s t) (k : le t u) : le s u:=fun G E a w hS=>by
 obtain ⟨E2,h2⟩:=h G E a w hS
 exact k G E2 a w h2
theorem oB {bs : List Nat} {b : Bool} {x : AV} (h : onlyB bs x = true) : onlyB bs (sl1 b x) = true:=by
 cases b
 ·rfl
 ·exact h
theorem okc {bs : List Nat} {t : Nat} {a : AV} {r : List (Nat × AV)} (h : onlyB bs a = true) (k : okTm bs r = true) : okTm bs ((t,a) :: r) = true:=by
 show (onlyB bs a && okTm bs r) = true
 rw [h,k];rfl
theorem nOK {ks bs : List Nat} {nx : Nat} {s : S} (h1 : okTm bs (ks.map fun t=>(t,lk s.tm t)) = true) (h2 : okMem bs s.mem = true) (h3 : allLt nx bs = true) : normOK ks bs nx s = true:=by
 show (okTm bs (ks.map fun t=>(t,lk s.tm t)) && okMem bs s.mem && allLt nx bs) = true
 rw [h1,h2,h3];rfl
end Go.Proofs.Ytmekmmgiamjfoaa.R
