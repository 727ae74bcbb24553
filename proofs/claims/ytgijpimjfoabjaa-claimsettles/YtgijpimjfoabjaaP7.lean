/- Part 7 of the proof of: For every log, list of claims, part and cap the law ClaimSettles returns true, and every argument reads behind the call as it read before. -/
import Derived.Test.YtgijpimjfoabjaaP6
/- A nil slice is seen as an empty one. -/
namespace Sy
open Go Go.RowKit
set_option linter.unusedVariables false
theorem le_tm {s : S} (tm' : List (Nat × AV)) (h : ∀ (G : Gl) (E : Env) (a : Act) (w : World), SatS G s E a w → ∀ t, sat E w (lk tm' t) (a.tmps.getD t undef)) : le s ⟨tm', s.mem, s.nx⟩ :=
  fun G E a w hS => ⟨E, { hS.st with tmv := h G E a w hS }, hS.nx⟩
theorem le_nil {s : S} (t n : Nat) {α : Type} (d : α) (f : α → List AV) (ht : lk s.tm t = .v (.slice none 0 0)) : le s ⟨(t, .sl n d f []) :: s.tm, s.mem, s.nx⟩ :=
  le_tm _ fun G E a w hS t' => by
    simp only [lk]
    split
    · rename_i h
      subst h
      have h1 := hS.st.tmv t'
      rw [ht] at h1
      simp only [sat] at h1
      rw [h1]
      simp only [sat, fsat]
      exact ⟨none, 0, rfl, by simp, .inl rfl, .inl trivial⟩
    · exact hS.st.tmv t'
end Sy

