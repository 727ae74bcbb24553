/- Part 10 of the proof of: TopCarried: for every input the law returns true -/
import Derived.Test.YtcfomfajpmlleaaGreatP9
namespace Go.Proofs.YtcfomfajpmlleaaGreat.R
open Go Sy
set_option linter.unusedVariables false
theorem rte_of {m : Mp} {f : Nat → Int} {fr to : Int} {s : List Int} {n : Int} (hc : chkM m = 0) (hf : 0 ≤ fr ∧ fr < m.n) (ht : 0 ≤ to ∧ to < m.n) (hb : bestS m f fr to = some (s, n)) : Rte m f fr to s n := by
  have hok := chkM_ok hc
  obtain ⟨b1, W, b3, b4, b5⟩ := best_way hok hf ht hb
  have hrg := W.p.rng
  have hp : plB m.n fr = true ∧ plB m.n to = true := by
    unfold plB
    simp only [Bool.and_eq_true, decide_eq_true_eq]
    exact ⟨hf, ht⟩
  have hrd : rdE m (wayS m f fr to s) = 0 := by
    unfold rdE
    rw [if_neg (by omega), if_neg]
    rw [Bool.not_eq_true, List.any_eq_false]
    intro x hx
    have := hrg x hx
    unfold plB
    rw [decide_eq_true this.1, decide_eq_true this.2]
    decide
  have i1 : irE m fr to (wayS m f fr to s) = 0 := by unfold irE; rw [if_pos hc, if_pos hp, hrd]
  refine ⟨b1, W.u, hrg, b3, ?_, i1⟩
  unfold irV
  rw [decide_eq_true i1, Bool.true_and]
  exact W.rt
def lmW (m : Mp) (s : List Int) (road j k : Nat) : Int := limL m (s.take j) road k
theorem lmW_succ {m : Mp} {s : List Int} {road j : Nat} (h : j < s.length) (h0 : 0 ≤ gi s j) (k : Nat) : lmW m s road (j + 1) k = limS m road k (lmW m s road j k) (gi s j).toNat := by
  unfold lmW
  rw [take_snoc h]
  have e : gi s j = (((gi s j).toNat : Nat) : Int) := by omega
  rw [e, limL_snoc, Int.toNat_natCast]
theorem lmW_end (m : Mp) (s : List Int) (road k : Nat) : lmW m s road s.length k = limL m s road k := by
  unfold lmW; rw [List.take_length]
theorem limS_one {m : Mp} {road i : Nat} {x : Int} {k : Nat} {n : Int} (h : (gw m i).rs = [x]) : limS m road k n i = if (gw m i).k = k ∧ x = road then max n (gw m i).l else n := by
  unfold limS
  rw [h]
  congr 1
  rw [List.mem_singleton]
  exact propext ⟨fun q => ⟨q.1, q.2.symm⟩, fun q => ⟨q.1, q.2.symm⟩⟩
end Go.Proofs.YtcfomfajpmlleaaGreat.R

