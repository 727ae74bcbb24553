/- Part 11 of the proof of: TopBounded: for every input the law returns true -/
import Derived.Test.YtcfomfajpmlleaaGreatP10
namespace Go.Proofs.YtcfomfajpmlleaaGreat
open Go Sy
set_option linter.unusedVariables false
theorem szF_rng {l : List Bx} (h : ∀ b ∈ l, OBx b) (ho : okS l = true) : (∀ k, k < 6 → 0 ≤ szF l k ∧ szF l k ≤ 1073741824) ∧ l ≠ [] := by
  have hn : l ≠ [] := fun e => by unfold okS at ho; rw [e] at ho; cases ho
  obtain ⟨hok, hm⟩ := crg_ok h hn
  have n1 := hok.n1
  have hE := eLH hok.pc ((crg l).ps.length - 1) (by omega)
  refine ⟨fun k hk => ?_, hn⟩
  unfold szF
  rw [if_pos ho]
  unfold okS at ho
  rw [Bool.and_eq_true, decide_eq_true_eq] at ho
  have h2 := ho.2
  rcases k with _ | _ | _ | _ | _ | _ | k <;> simp only [fS] <;> omega
end Go.Proofs.YtcfomfajpmlleaaGreat

namespace Go.Proofs.YtcfomfajpmlleaaGreat
open Go Sy
set_option maxRecDepth 100000
set_option maxHeartbeats 8000000
set_option linter.unusedVariables false
set_option linter.unusedSimpArgs false
end Go.Proofs.YtcfomfajpmlleaaGreat

namespace Go.Proofs.YtcfomfajpmlleaaGreat
open Go Sy
set_option maxRecDepth 100000
set_option linter.unusedVariables false
theorem u8_wf {n : Int} (h : (Lit.int .u8 n).wf = true) : 0 ≤ n ∧ n ≤ 255 := by
  simp [Lit.wf, IntKind.min, IntKind.max, IntKind.bits, IntKind.signed] at h
  omega
theorem u16_wf {n : Int} (h : (Lit.int .u16 n).wf = true) : 0 ≤ n ∧ n ≤ 65535 := by
  simp [Lit.wf, IntKind.min, IntKind.max, IntKind.bits, IntKind.signed] at h
  omega
theorem y5 : Tryz.prog.cellsOf 5 = 1 := by kernel_rfl
theorem y66 : Tryz.prog.cellsOf 66 = 1 := by kernel_rfl
theorem y68 : Tryz.prog.cellsOf 68 = 7 := by kernel_rfl
theorem b68 : Tryz.prog.bytesOf 68 = 8 := by kernel_rfl
theorem y85 : Tryz.prog.cellsOf 85 = 8 := by kernel_rfl
theorem b85 : Tryz.prog.bytesOf 85 = 8 := by kernel_rfl
theorem y87 : Tryz.prog.cellsOf 87 = 4 := by kernel_rfl
theorem b87 : Tryz.prog.bytesOf 87 = 4 := by kernel_rfl
theorem k5 : Codec Tryz.prog 5 (fun n : Int => [.v (.int .u8 n)]) (fun n => 0 ≤ n ∧ n ≤ 255) := (Codec.int Tryz.underlying5).map id (fun _ => rfl) (fun _ h => u8_wf h)
theorem k66 : Codec Tryz.prog 66 (fun n : Int => [.v (.int .u16 n)]) (fun n => 0 ≤ n ∧ n ≤ 65535) := (Codec.int Tryz.underlying66).map id (fun _ => rfl) (fun _ h => u16_wf h)
theorem k68 : Codec Tryz.prog 68 cBx OBx :=
  (Codec.struct Tryz.underlying68 (by kernel_rfl) (by kernel_rfl) (Parts.cons k5 y5 (Parts.cons k5 y5 (Parts.cons k5 y5 (Parts.cons k5 y5 (Parts.cons k5 y5 (Parts.cons k5 y5 (Parts.cons k66 y66 Parts.nil)))))))).map
    (fun x => ⟨x.1, x.2.1, x.2.2.1, x.2.2.2.1, x.2.2.2.2.1, x.2.2.2.2.2.1, x.2.2.2.2.2.2.1⟩) (fun _ => rfl) (fun _ h => ⟨h.1, h.2.1, h.2.2.1, h.2.2.2.1, h.2.2.2.2.1, h.2.2.2.2.2.1, h.2.2.2.2.2.2.1⟩)
theorem k85 : Codec Tryz.prog 85 R.cTr R.OTr :=
  (Codec.struct Tryz.underlying85 (by kernel_rfl) (by kernel_rfl) (Parts.cons k5 y5 (Parts.cons k5 y5 (Parts.cons k5 y5 (Parts.cons k5 y5 (Parts.cons k5 y5 (Parts.cons k5 y5 (Parts.cons k5 y5 (Parts.cons k5 y5 Parts.nil))))))))).map
    (fun x => ⟨x.1, x.2.1, x.2.2.1, x.2.2.2.1, x.2.2.2.2.1, x.2.2.2.2.2.1, x.2.2.2.2.2.2.1, x.2.2.2.2.2.2.2.1⟩) (fun _ => rfl) (fun _ h => ⟨h.1, h.2.1, h.2.2.1, h.2.2.2.1, h.2.2.2.2.1, h.2.2.2.2.2.1, h.2.2.2.2.2.2.1, h.2.2.2.2.2.2.2.1⟩)
theorem k87 : Codec Tryz.prog 87 R.cFx R.OFx :=
  (Codec.struct Tryz.underlying87 (by kernel_rfl) (by kernel_rfl) (Parts.cons k5 y5 (Parts.cons k5 y5 (Parts.cons k5 y5 (Parts.cons k5 y5 Parts.nil))))).map
    (fun x => ⟨x.1, x.2.1, x.2.2.1, x.2.2.2.1⟩) (fun _ => rfl) (fun _ h => ⟨h.1, h.2.1, h.2.2.1, h.2.2.2.1⟩)
theorem k22 : Codec Tryz.prog 22 (fun l : List Bx => [aBx l]) (fun l => l.length * 8 ≤ 140737488351232 ∧ ∀ b ∈ l, OBx b) :=
  (Codec.slice Tryz.underlying22 (by rw [y68]; decide) y68 b68 dBx k68).map id (fun _ => rfl) (fun _ h => ⟨h.1, h.2.2⟩)
theorem k23 : Codec Tryz.prog 23 (fun l : List R.Tr => [R.aTr l]) (fun l => l.length * 8 ≤ 140737488351232 ∧ ∀ b ∈ l, R.OTr b) :=
  (Codec.slice Tryz.underlying23 (by rw [y85]; decide) y85 b85 R.dTr k85).map id (fun _ => rfl) (fun _ h => ⟨h.1, h.2.2⟩)
theorem k24 : Codec Tryz.prog 24 (fun l : List R.Fx => [R.aFx l]) (fun l => l.length * 4 ≤ 140737488351232 ∧ ∀ b ∈ l, R.OFx b) :=
  (Codec.slice Tryz.underlying24 (by rw [y87]; decide) y87 b87 R.dFx k87).map id (fun _ => rfl) (fun _ h => ⟨h.1, h.2.2⟩)
end Go.Proofs.YtcfomfajpmlleaaGreat

