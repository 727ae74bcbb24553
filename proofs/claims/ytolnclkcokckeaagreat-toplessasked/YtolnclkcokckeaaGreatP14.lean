/- Part 14 of the proof of: TopLessAsked: for every input the law returns true; each argument reads behind the call as it read before. -/
import Derived.Test.YtolnclkcokckeaaGreatP13
namespace Go.Proofs.YtolnclkcokckeaaGreat
open Go Sy
set_option linter.unusedVariables false
theorem szF_rng {l : List Bx} (h : ∀ b ∈ l, OBx b) (ho : okS l = true) : (∀ k, k < 6 → 0 ≤ szF l k ∧ szF l k ≤ 1073741824) ∧ l ≠ [] := by
  have hn : l ≠ [] := fun e => by unfold okS at ho; rw [e] at ho; cases ho
  obtain ⟨hok, hm⟩ := crg_ok h hn
  have n1 := hok.n1
  have hE := eLH hok.pc ((crg l).ps.length - 1) (by omega)
  refine ⟨fun k hk => ?_, hn⟩
  unfold szF
  rw [if_pos ho]
  unfold okS at ho
  rw [Bool.and_eq_true, decide_eq_true_eq] at ho
  have h2 := ho.2
  rcases k with _ | _ | _ | _ | _ | _ | k <;> simp only [fS] <;> omega
theorem smM_le {l : List Pce} (h : ∀ i, i < l.length → 0 ≤ (pc l i).m) {j : Nat} : ∀ d, j + d ≤ l.length → smM (l.take j) ≤ smM (l.take (j + d))
  | 0, _ => Int.le_refl _
  | d + 1, hd => by
    have h1 := smM_le (j := j) h d (by omega)
    have h2 := h (j + d) (by omega)
    rw [show j + (d + 1) = j + d + 1 by omega, smM_succ (l := l) (i := j + d) (by omega)]
    omega
theorem pc_take {l : List Pce} {i j : Nat} (h : i < j) : pc (l.take j) i = pc l i := by
  simp [pc, List.getD, h]
theorem eH_take {l : List Pce} {j : Nat} (k : Nat) : ∀ n, n < j → eH (l.take j) k n = eH l k n
  | 0, h => by
    show plh (pc (l.take j) 0) k = plh (pc l 0) k
    rw [pc_take h]
  | n + 1, h => by
    show max (eH (l.take j) k n) (plh (pc (l.take j) (n + 1)) k) = max (eH l k n) (plh (pc l (n + 1)) k)
    rw [pc_take h, eH_take k n (by omega)]
theorem eH_mono (l : List Pce) (k n : Nat) : ∀ d, eH l k n ≤ eH l k (n + d)
  | 0 => Int.le_refl _
  | d + 1 => by
    have := eH_mono l k n d
    show _ ≤ max (eH l k (n + d)) _
    omega
theorem crg_take (l : List Bx) {j : Nat} (h : j ≤ 4) : crg (l.take j) = ⟨crgS, (crg l).ps.take j, [], 300⟩ := by
  unfold crg
  congr 1
  rw [← List.map_take, List.take_take, List.take_take, Nat.min_comm]
theorem less_ok {l : List Bx} (h : ∀ b ∈ l, OBx b) (ho : okS l = true) (h2 : 2 ≤ (crg l).ps.length) :
    okS (l.take ((crg l).ps.length - 1)) = true ∧ ∀ k, k < 6 → szF (l.take ((crg l).ps.length - 1)) k ≤ szF l k := by
  obtain ⟨_, hn⟩ := szF_rng h ho
  obtain ⟨hok, hm⟩ := crg_ok h hn
  have hl := crg_len l
  generalize hj : (crg l).ps.length - 1 = j at *
  have ht := crg_take l (j := j) (by omega)
  have hps : (crg (l.take j)).ps = (crg l).ps.take j := by rw [ht]
  have hsm : smM ((crg l).ps.take j) ≤ smM (crg l).ps := by
    have := smM_le (l := (crg l).ps) (j := j) (fun i hi => by
      obtain ⟨_, q⟩ := pceB_iff.1 (hok.pc i hi)
      exact q.1) 1 (by omega)
    rw [show j + 1 = (crg l).ps.length by omega, List.take_length] at this
    exact this
  have hlt : ((crg l).ps.take j).length = j := by rw [List.length_take]; omega
  have hee : eH ((crg l).ps.take j) 2 (((crg l).ps.take j).length - 1) ≤ eH (crg l).ps 2 ((crg l).ps.length - 1) := by
    rw [hlt, eH_take 2 (j - 1) (by omega), show (crg l).ps.length - 1 = j - 1 + 1 by omega]
    exact eH_mono _ 2 (j - 1) 1
  have hcd : cdiv (7000 + smM ((crg l).ps.take j)) 3 ≤ cdiv (7000 + smM (crg l).ps) 3 := by unfold cdiv; omega
  have ho1 := ho
  unfold okS at ho1
  rw [Bool.and_eq_true, decide_eq_true_eq] at ho1
  have ho2 : okS (l.take j) = true := by
    unfold okS
    rw [hps, Bool.and_eq_true, decide_eq_true_eq, Bool.not_eq_true', decide_eq_false_iff_not]
    refine ⟨fun e => ?_, by omega⟩
    have := congrArg List.length e
    rw [List.length_take, List.length_nil] at this
    omega
  refine ⟨ho2, fun k hk => ?_⟩
  unfold szF
  rw [if_pos ho, if_pos ho2]
  rcases k with _ | _ | _ | _ | _ | _ | k <;> simp only [fS, hps] <;> omega
end Go.Proofs.YtolnclkcokckeaaGreat
