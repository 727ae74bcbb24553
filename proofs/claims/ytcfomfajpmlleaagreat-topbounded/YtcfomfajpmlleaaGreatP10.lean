/- Part 10 of the proof of: TopBounded: for every input the law returns true -/
import Derived.Test.YtcfomfajpmlleaaGreatP9
namespace Go.Proofs.YtcfomfajpmlleaaGreat.R
open Go Sy
set_option linter.unusedVariables false
theorem rte_of {m : Mp} {f : Nat → Int} {fr to : Int} {s : List Int} {n : Int} (hc : chkM m = 0) (hf : 0 ≤ fr ∧ fr < m.n) (ht : 0 ≤ to ∧ to < m.n) (hb : bestS m f fr to = some (s, n)) : Rte m f fr to s n := by
  have hok := chkM_ok hc
  obtain ⟨b1, W, b3, b4, b5⟩ := best_way hok hf ht hb
  have hrg := W.p.rng
  have hp : plB m.n fr = true ∧ plB m.n to = true := by
    unfold plB
    simp only [Bool.and_eq_true, decide_eq_true_eq]
    exact ⟨hf, ht⟩
  have hrd : rdE m (wayS m f fr to s) = 0 := by
    unfold rdE
    rw [if_neg (by omega), if_neg]
    rw [Bool.not_eq_true, List.any_eq_false]
    intro x hx
    have := hrg x hx
    unfold plB
    rw [decide_eq_true this.1, decide_eq_true this.2]
    decide
  have i1 : irE m fr to (wayS m f fr to s) = 0 := by unfold irE; rw [if_pos hc, if_pos hp, hrd]
  refine ⟨b1, W.u, hrg, b3, ?_, i1⟩
  unfold irV
  rw [decide_eq_true i1, Bool.true_and]
  exact W.rt
end Go.Proofs.YtcfomfajpmlleaaGreat.R

