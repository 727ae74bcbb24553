/- For every platform, load, slope and acceleration the law StaticsStands returns true. -/
import Derived.Test.YtfkjdjlcaojedaaP3
import Derived.Test.YtfkjdjlcaojedaaRows
import Derived.ShutString
namespace Go.Proofs.Ytfkjdjlcaojedaa
open Go Sy
set_option maxRecDepth 100000
set_option maxHeartbeats 4000000
set_option linter.unusedVariables false
set_option linter.unusedSimpArgs false
theorem share_B {ps : List Sup} {m : Int} {p : Pt} (h : chkP ps = 0) (hm : okMass m = true) (ht : ¬ 0 ≤ tipsF ps p) (g : Nat) (hg : g < 3) : FrOK m (part ps p g) (whole ps) ∧ 0 ≤ shareV ps m p g ∧ shareV ps m p g ≤ 16777216 := by
  have hw := whole_B h
  have hn := tips_none ht
  have h1 := hn g hg
  have h2 := part_le h hn g hg
  have hm := inR_iff.1 hm
  refine ⟨frac_ok hm ⟨h1, h2⟩ (by omega), ?_⟩
  unfold shareV cdiv
  have h3 : 0 ≤ m * part ps p g := Int.mul_nonneg (by omega) h1
  have h4 : m * part ps p g ≤ 16777216 * whole ps := mulP h1 hm.2 h2 (by omega)
  have h5 : -(m * part ps p g) / whole ps < 1 := by rw [Int.ediv_lt_iff_lt_mul hw.1]; omega
  have h6 : -16777216 ≤ -(m * part ps p g) / whole ps := by rw [Int.le_ediv_iff_mul_le hw.1]; omega
  omega
theorem any_get {ps : List Sup} {q : Sup → Bool} {i : Nat} (hi : i < ps.length) (h : q (sp ps i) = true) : ps.any q = true :=
  List.any_eq_true.2 ⟨_, getD_mem dS ps i hi, h⟩
theorem any_none {ps : List Sup} {q : Sup → Bool} (h : ∀ i, i < ps.length → q (sp ps i) = false) : ps.any q = false := by
  rw [← Bool.not_eq_true, List.any_eq_true]
  rintro ⟨x, hx, hq⟩
  obtain ⟨i, hi⟩ := List.mem_iff_getElem?.1 hx
  have h1 := (List.getElem?_eq_some_iff.1 hi).1
  have := h i h1
  simp only [sp, List.getD, hi, Option.getD_some] at this
  rw [this] at hq; cases hq
theorem fn59 (ps : List Sup) (m : Int) (p : Pt) (h : chkP ps = 0) : Sy.Fn Try.prog 59 [aDk ps, iv m, .agg (cPt p)] (.tup [.agg (c3 (sharesV ps m p)), iv (sharesE ps m p)]) := by
  refine Fn_of_W mixed Xt59 rfl ?_
  obtain ⟨hl, hok, hdet⟩ := chkP_ok h
  unfold sharesV
  repeat' (first | refine w1g ?_ | refine w1l ?_ | refine w1q ?_ | refine w1b ?_ | refine w1p ?_ | ((first | refine w1r ?_ | refine w1k ?_ | refine w1e ?_ | refine CallC.now (fn54 m) ?_ | refine CallC.go _ (fun _ => ⟨trivial, fn57 p⟩) rfl ?_); (refine sy1 ?_; try exact True.intro)) | refine an2 ?_ | fail)
  refine W_cond (by rfl) (fun h1 => ?_) (fun h1 => ?_)
  · have e : sharesE ps m p = 3 := by unfold sharesE; rw [if_pos h1]
    rw [e, if_neg (by decide)]
    repeat' (first | refine w1g ?_ | refine w1l ?_ | refine w1q ?_ | refine w1b ?_ | refine w1p ?_ | ((first | refine w1r ?_ | refine w1k ?_ | refine w1e ?_); (refine sy1 ?_; try exact True.intro)) | refine an2 ?_ | fail)
    exact W_ret ⟨[_, _], ⟨⟨by simp, rfl⟩, rfl, rfl⟩, rfl⟩
  have h1' : okMass m = true ∧ okPt p = true := by simpa using h1
  obtain ⟨hm, hp⟩ := h1'
  repeat' (first | refine w1g ?_ | refine w1l ?_ | refine w1q ?_ | refine w1b ?_ | refine w1p ?_ | ((first | refine w1r ?_ | refine w1k ?_ | refine w1e ?_ | refine CallC.now (fn58 ps p h hp) ?_); (refine sy1 ?_; try exact True.intro)) | refine an2 ?_ | fail)
  refine W_condD (by rfl) (fun h2 => ?_) (fun h2 => ?_)
  · have e : sharesE ps m p = 19 := by unfold sharesE; rw [if_neg (by rw [h1]; decide), if_pos h2]
    rw [e, if_neg (by decide)]
    repeat' (first | refine w1g ?_ | refine w1l ?_ | refine w1q ?_ | refine w1b ?_ | refine w1p ?_ | ((first | refine w1r ?_ | refine w1k ?_ | refine w1e ?_); (refine sy1 ?_; try exact True.intro)) | refine an2 ?_ | fail)
    exact W_ret ⟨[_, _], ⟨⟨by simp, rfl⟩, rfl, rfl⟩, rfl⟩
  have hE : sharesE ps m p = if (ps.any fun s => decide (s.limit < cdiv (m * part ps p s.g.toNat) (whole ps))) = true then 14 else 0 := by
    unfold sharesE; rw [if_neg (by rw [h1]; decide), if_neg h2]
  repeat' (first | refine w1g ?_ | refine w1l ?_ | refine w1q ?_ | refine w1b ?_ | refine w1p ?_ | ((first | refine w1r ?_ | refine w1k ?_ | refine w1e ?_ | refine CallC.now (fn60 ps p h hp) ?_); (refine sy1 ?_; try exact True.intro)) | refine an2 ?_ | fail)
  refine W_loopU (fun k : Nat => [(34, iv k)]) (fun k => [(1, .cells (c3 (upto (shareV ps m p) k)))]) (fun k => k ≤ 3) (fun k => 3 - k) 0 (by omega) (by rfl) (by rfl) (fun k hk => ?_)
  (refine sy1 ?_; try exact True.intro)
  repeat' (first | refine w1g ?_ | refine w1l ?_ | refine w1q ?_ | refine w1b ?_ | refine w1p ?_ | ((first | refine w1r ?_ | refine w1k ?_ | refine w1e ?_); (refine sy1 ?_; try exact True.intro)) | refine an2 ?_ | fail)
  refine W_condD (by rfl) (fun h6 => ?_) (fun h6 => ?_)
  · have hk3 : k < 3 := by omega
    have hset : List.take k (c3 (upto (shareV ps m p) k)) ++ [iv (cdiv (m * part ps p k) (whole ps))] ++ List.drop (k + 1) (c3 (upto (shareV ps m p) k)) = c3 (upto (shareV ps m p) (k + 1)) := set3 (shareV ps m p) k hk3
    have c55 := fn55 m (part ps p k) (whole ps) (share_B h hm h2 k hk3).1
    repeat' (first | refine w1g ?_ | refine w1l ?_ | refine w1q ?_ | refine w1b ?_ | refine w1p ?_ | ((first | refine w1r ?_ | refine w1k ?_ | refine w1e ?_ | refine CallC.now (c55) ?_); simp (maxSteps := 400000) (disch := omega) only [push_cast, ↓reduceIte, reduceCtorEq, Nat.reduceAdd, Nat.reduceSub, Nat.reduceEqDiff, Nat.reduceLeDiff, Nat.reduceLT, Nat.reduceBEq, Nat.reduceDiv, Nat.reduceMod, Nat.reducePow, Nat.reduceMul, Int.reduceToNat, Int.reduceLT, Int.reduceLE, hset, Nat.mul_one]) | refine an2 ?_ | fail)
    refine ⟨k + 1, by omega, by omega, by rfl, ?_⟩
    (refine syE ?_; try exact True.intro)
  · obtain rfl : k = 3 := by omega
    repeat' (first | refine w1g ?_ | refine w1l ?_ | refine w1q ?_ | refine w1b ?_ | refine w1p ?_ | ((first | refine w1r ?_ | refine w1k ?_ | refine w1e ?_); simp (maxSteps := 400000) (disch := omega) only [push_cast, ↓reduceIte, reduceCtorEq, Nat.reduceAdd, Nat.reduceSub, Nat.reduceEqDiff, Nat.reduceLeDiff, Nat.reduceLT, Nat.reduceBEq, Nat.reduceDiv, Nat.reduceMod, Nat.reducePow, Nat.reduceMul, Int.reduceToNat, Int.reduceLT, Int.reduceLE, upto3]) | refine an2 ?_ | fail)
    refine W_loopU (fun i : Nat => [(54, iv i)]) (fun i => []) (fun i => i ≤ ps.length ∧ ∀ j, j < i → decide ((sp ps j).limit < cdiv (m * part ps p (sp ps j).g.toNat) (whole ps)) = false) (fun i => ps.length - i) 0 ⟨by omega, fun j hj => by omega⟩ (by rfl) (by rfl) (fun i hi => ?_)
    obtain ⟨hi, hno⟩ := hi
    (refine sy1 ?_; try exact True.intro)
    repeat' (first | refine w1g ?_ | refine w1l ?_ | refine w1q ?_ | refine w1b ?_ | refine w1p ?_ | ((first | refine w1r ?_ | refine w1k ?_ | refine w1e ?_); (refine sy1 ?_; try exact True.intro)) | refine an2 ?_ | fail)
    refine W_condD (by rfl) (fun h7 => ?_) (fun h7 => ?_)
    · have hlt : i < ps.length := by omega
      have hsp : ps.getD i dS = sp ps i := rfl
      have hsg := supB_iff.1 (hok i hlt)
      obtain ⟨g, hg⟩ : ∃ g : Nat, (sp ps i).g = g := ⟨(sp ps i).g.toNat, by omega⟩
      have hgn : (sp ps i).g.toNat = g := by omega
      have hg3 : g < 3 := by omega
      repeat' (first | refine w1g ?_ | refine w1l ?_ | refine w1q ?_ | refine w1b ?_ | refine w1p ?_ | ((first | refine w1r ?_ | refine w1k ?_ | refine w1e ?_); simp (maxSteps := 400000) (disch := omega) only [push_cast, ↓reduceIte, reduceCtorEq, Nat.reduceAdd, Nat.reduceSub, Nat.reduceEqDiff, Nat.reduceLeDiff, Nat.reduceLT, Nat.reduceBEq, Nat.reduceDiv, Nat.reduceMod, Nat.reducePow, Nat.reduceMul, Int.reduceToNat, Int.reduceLT, Int.reduceLE, hsp, hg, Nat.mul_one]) | refine an2 ?_ | fail)
      refine W_condD (by rfl) (fun h8 => ?_) (fun h8 => ?_)
      · have e : sharesE ps m p = 14 := by
          rw [hE, any_get hlt (by rw [hgn]; exact decide_eq_true h8)]; rfl
        rw [e, if_neg (by decide)]
        repeat' (first | refine w1g ?_ | refine w1l ?_ | refine w1q ?_ | refine w1b ?_ | refine w1p ?_ | ((first | refine w1r ?_ | refine w1k ?_ | refine w1e ?_); (refine sy1 ?_; try exact True.intro)) | refine an2 ?_ | fail)
        exact W_ret ⟨[_, _], ⟨⟨by simp, rfl⟩, rfl, rfl⟩, rfl⟩
      · repeat' (first | refine w1g ?_ | refine w1l ?_ | refine w1q ?_ | refine w1b ?_ | refine w1p ?_ | ((first | refine w1r ?_ | refine w1k ?_ | refine w1e ?_); (refine sy1 ?_; try exact True.intro)) | refine an2 ?_ | fail)
        refine ⟨i + 1, ⟨by omega, up_all hno (by rw [hgn]; exact decide_eq_false h8)⟩, by omega, by rfl, ?_⟩
        (refine syE ?_; try exact True.intro)
    · repeat' (first | refine w1g ?_ | refine w1l ?_ | refine w1q ?_ | refine w1b ?_ | refine w1p ?_ | ((first | refine w1r ?_ | refine w1k ?_ | refine w1e ?_); (refine sy1 ?_; try exact True.intro)) | refine an2 ?_ | fail)
      have e : sharesE ps m p = 0 := by rw [hE, any_none (fun j hj => hno j (by omega))]; rfl
      rw [e, if_pos rfl]
      exact W_ret ⟨[_, _], ⟨⟨by simp [len3], rfl⟩, rfl, rfl⟩, rfl⟩
abbrev z3 : Nat → Int := fun _ => 0
noncomputable def shE (ps : List Sup) (m : Int) (p : Pt) : Int := if chkP ps = 0 then sharesE ps m p else chkP ps
noncomputable def shV (ps : List Sup) (m : Int) (p : Pt) : Nat → Int := if chkP ps = 0 then sharesV ps m p else z3
theorem fn21 (ps : List Sup) (m : Int) (p : Pt) (hl : ps.length ≤ 140737488355328) : Sy.Fn Try.prog 21 [aP ps, iv m, .agg (cPt p)] (.tup [.agg (c3 (shV ps m p)), iv (shE ps m p)]) := by
  refine Fn_of_W mixed Xt21 rfl ?_
  unfold shE shV
  by_cases h : chkP ps = 0
  · rw [if_pos h, if_pos h]
    repeat' (first | refine w1g ?_ | refine w1l ?_ | refine w1q ?_ | refine w1b ?_ | refine w1p ?_ | ((first | refine w1r ?_ | refine w1k ?_ | refine w1e ?_ | refine CallC.now (c56 ps hl h) ?_); (refine sy1 ?_; try exact True.intro)) | refine an2 ?_ | fail)
    refine W_cond (by rfl) (fun h => by cases h) (fun _ => ?_)
    repeat' (first | refine w1g ?_ | refine w1l ?_ | refine w1q ?_ | refine w1b ?_ | refine w1p ?_ | ((first | refine w1r ?_ | refine w1k ?_ | refine w1e ?_ | refine CallC.now (fn59 ps m p h) ?_); (refine sy1 ?_; try exact True.intro)) | refine an2 ?_ | fail)
    exact W_ret ⟨[_, _], ⟨⟨by simp [len3], rfl⟩, rfl, rfl⟩, rfl⟩
  · rw [if_neg h, if_neg h]
    repeat' (first | refine w1g ?_ | refine w1l ?_ | refine w1q ?_ | refine w1b ?_ | refine w1p ?_ | ((first | refine w1r ?_ | refine w1k ?_ | refine w1e ?_ | refine CallC.now (c56n ps hl h) ?_); (refine sy1 ?_; try exact True.intro)) | refine an2 ?_ | fail)
    refine W_cond (by rfl) (fun _ => ?_) (fun h1 => by simp [h] at h1)
    repeat' (first | refine w1g ?_ | refine w1l ?_ | refine w1q ?_ | refine w1b ?_ | refine w1p ?_ | ((first | refine w1r ?_ | refine w1k ?_ | refine w1e ?_); (refine sy1 ?_; try exact True.intro)) | refine an2 ?_ | fail)
    exact W_ret ⟨[_, _], ⟨⟨by simp, rfl⟩, rfl, rfl⟩, rfl⟩
noncomputable def tpE (ps : List Sup) (p : Pt) : Int := if chkP ps = 0 then (if okPt p = true then (if 0 ≤ tipsF ps p then 0 else 5) else 3) else chkP ps
noncomputable def tpG (ps : List Sup) (p : Pt) : Int := if chkP ps = 0 ∧ okPt p = true ∧ 0 ≤ tipsF ps p then tipsF ps p else 0
theorem fn19 (ps : List Sup) (p : Pt) (hl : ps.length ≤ 140737488355328) : Sy.Fn Try.prog 19 [aP ps, .agg (cPt p)] (.tup [iv (tpG ps p), iv (tpE ps p)]) := by
  refine Fn_of_W mixed Xt19 rfl ?_
  unfold tpE tpG
  by_cases h : chkP ps = 0
  · rw [if_pos h]
    repeat' (first | refine w1g ?_ | refine w1l ?_ | refine w1q ?_ | refine w1b ?_ | refine w1p ?_ | ((first | refine w1r ?_ | refine w1k ?_ | refine w1e ?_ | refine CallC.now (c56 ps hl h) ?_); (refine sy1 ?_; try exact True.intro)) | refine an2 ?_ | fail)
    refine W_cond (by rfl) (fun h => by cases h) (fun _ => ?_)
    repeat' (first | refine w1g ?_ | refine w1l ?_ | refine w1q ?_ | refine w1b ?_ | refine w1p ?_ | ((first | refine w1r ?_ | refine w1k ?_ | refine w1e ?_ | refine CallC.now (fn57 p) ?_); (refine sy1 ?_; try exact True.intro)) | refine an2 ?_ | fail)
    refine W_cond (by rfl) (fun h1 => ?_) (fun h1 => ?_)
    · have h2 : ¬ okPt p = true := by simpa using h1
      rw [if_neg h2, if_neg (fun q => h2 q.2.1)]
      repeat' (first | refine w1g ?_ | refine w1l ?_ | refine w1q ?_ | refine w1b ?_ | refine w1p ?_ | ((first | refine w1r ?_ | refine w1k ?_ | refine w1e ?_); (refine sy1 ?_; try exact True.intro)) | refine an2 ?_ | fail)
      exact W_ret ⟨[_, _], ⟨rfl, rfl, rfl⟩, rfl⟩
    have h2 : okPt p = true := by simpa using h1
    rw [if_pos h2]
    repeat' (first | refine w1g ?_ | refine w1l ?_ | refine w1q ?_ | refine w1b ?_ | refine w1p ?_ | ((first | refine w1r ?_ | refine w1k ?_ | refine w1e ?_ | refine CallC.now (fn58 ps p h h2) ?_); (refine sy1 ?_; try exact True.intro)) | refine an2 ?_ | fail)
    refine W_condD (by rfl) (fun h3 => ?_) (fun h3 => ?_)
    · rw [if_pos h3, if_pos ⟨h, h2, h3⟩]
      repeat' (first | refine w1g ?_ | refine w1l ?_ | refine w1q ?_ | refine w1b ?_ | refine w1p ?_ | ((first | refine w1r ?_ | refine w1k ?_ | refine w1e ?_); (refine sy1 ?_; try exact True.intro)) | refine an2 ?_ | fail)
      exact W_ret ⟨[_, _], ⟨rfl, rfl, rfl⟩, rfl⟩
    · rw [if_neg h3, if_neg (fun q => h3 q.2.2)]
      repeat' (first | refine w1g ?_ | refine w1l ?_ | refine w1q ?_ | refine w1b ?_ | refine w1p ?_ | ((first | refine w1r ?_ | refine w1k ?_ | refine w1e ?_); (refine sy1 ?_; try exact True.intro)) | refine an2 ?_ | fail)
      exact W_ret ⟨[_, _], ⟨rfl, rfl, rfl⟩, rfl⟩
  · rw [if_neg h, if_neg (fun q => h q.1)]
    repeat' (first | refine w1g ?_ | refine w1l ?_ | refine w1q ?_ | refine w1b ?_ | refine w1p ?_ | ((first | refine w1r ?_ | refine w1k ?_ | refine w1e ?_ | refine CallC.now (c56n ps hl h) ?_); (refine sy1 ?_; try exact True.intro)) | refine an2 ?_ | fail)
    refine W_cond (by rfl) (fun _ => ?_) (fun h1 => by simp [h] at h1)
    repeat' (first | refine w1g ?_ | refine w1l ?_ | refine w1q ?_ | refine w1b ?_ | refine w1p ?_ | ((first | refine w1r ?_ | refine w1k ?_ | refine w1e ?_); (refine sy1 ?_; try exact True.intro)) | refine an2 ?_ | fail)
    exact W_ret ⟨[_, _], ⟨rfl, rfl, rfl⟩, rfl⟩
end Go.Proofs.Ytfkjdjlcaojedaa

namespace Go.Proofs.Ytfkjdjlcaojedaa
open Go Sy
set_option maxRecDepth 100000
set_option maxHeartbeats 4000000
set_option linter.unusedVariables false
set_option linter.unusedSimpArgs false
def exP : List Sup := [⟨0, 0, 0, 10000, 100, 900⟩, ⟨4000, 2000, 1, 10000, 100, 900⟩, ⟨4000, -2000, 2, 10000, 100, 900⟩, ⟨0, 1000, 0, 10000, 100, 900⟩]
theorem c35 : Sy.Fn Try.prog 35 [] (aP exP) := by
  refine Fn_of_W mixed Xt35 rfl ?_
  repeat' (first | refine w1g ?_ | refine w1l ?_ | refine w1q ?_ | refine w1b ?_ | refine w1p ?_ | ((first | refine w1r ?_ | refine w1k ?_ | refine w1e ?_); (refine sy1 ?_; try exact True.intro)) | refine an2 ?_ | fail)
  refine ⟨rfl, trivial, Sup, dS, cS, exP, rfl, by omega, fun x _ => ⟨rfl, rfl⟩, rfl, ?_⟩
  (refine sy1 ?_; try exact True.intro)
  refine W_ret ⟨[_], ⟨rfl, rfl⟩, ?_⟩
  simp (maxSteps := 400000) (disch := omega) only [push_cast, ↓reduceIte, reduceCtorEq, Nat.reduceAdd, Nat.reduceSub, Nat.reduceEqDiff, Nat.reduceLeDiff, Nat.reduceLT, Nat.reduceBEq, Nat.reduceDiv, Nat.reduceMod, Nat.reducePow, Nat.reduceMul, Int.reduceToNat, Int.reduceLT, Int.reduceLE, pack]
theorem ex_sh : shE exP 16000 ⟨2000, 0⟩ = 0 := by decide +kernel
theorem ex_sv : c3 (shV exP 16000 ⟨2000, 0⟩) = [iv 4000, iv 3000, iv 5000] := by
  have h0 : shV exP 16000 ⟨2000, 0⟩ 0 = 4000 := by decide +kernel
  have h1 : shV exP 16000 ⟨2000, 0⟩ 1 = 3000 := by decide +kernel
  have h2 : shV exP 16000 ⟨2000, 0⟩ 2 = 5000 := by decide +kernel
  unfold c3
  rw [h0, h1, h2]
theorem ex_tp : tpE exP ⟨5000, 0⟩ = 0 ∧ tpG exP ⟨5000, 0⟩ = 0 := by decide +kernel
theorem ex_lv : levE 1000 0 3 1 = 0 ∧ levL 1000 0 3 1 = 667 ∧ levR 1000 0 3 1 = 334 := by decide +kernel
theorem fn17 : Sy.Fn Try.prog 17 [] (bv true) := by
  refine Fn_of_W mixed Xt17 rfl ?_
  have c21 := fn21 exP 16000 ⟨2000, 0⟩ (by decide)
  have c19 := fn19 exP ⟨5000, 0⟩ (by decide)
  have c16 := fn16 1000 0 3 1
  rw [ex_sh, ex_sv] at c21
  rw [ex_tp.1, ex_tp.2] at c19
  rw [ex_lv.1, ex_lv.2.1, ex_lv.2.2] at c16
  repeat' (first | refine w1g ?_ | refine w1l ?_ | refine w1q ?_ | refine w1b ?_ | refine w1p ?_ | ((first | refine w1r ?_ | refine w1k ?_ | refine w1e ?_ | refine CallC.now (c35) ?_ | refine CallC.now (c21) ?_ | refine CallC.now (c19) ?_ | refine CallC.now (c16) ?_); (refine sy1 ?_; try exact True.intro)) | refine an2 ?_ | fail)
  exact W_ret ⟨[_], ⟨rfl, rfl⟩, rfl⟩
end Go.Proofs.Ytfkjdjlcaojedaa

namespace Go.Proofs.Ytfkjdjlcaojedaa
open Go Sy
set_option maxRecDepth 100000
set_option linter.unusedVariables false
theorem i64_wf {n : Int} (h : (Lit.int .i64 n).wf = true) : -9223372036854775808 ≤ n ∧ n ≤ 9223372036854775807 := by
  simp [Lit.wf, IntKind.min, IntKind.max, IntKind.bits, IntKind.signed] at h
  omega
theorem u8_wf {n : Int} (h : (Lit.int .u8 n).wf = true) : 0 ≤ n ∧ n ≤ 255 := by
  simp [Lit.wf, IntKind.min, IntKind.max, IntKind.bits, IntKind.signed] at h
  omega
abbrev I64 (n : Int) : Prop := -9223372036854775808 ≤ n ∧ n ≤ 9223372036854775807
theorem y2 : Try.prog.cellsOf 2 = 1 := by kernel_rfl
theorem y3 : Try.prog.cellsOf 3 = 1 := by kernel_rfl
theorem y62 : Try.prog.cellsOf 62 = 6 := by kernel_rfl
theorem b62 : Try.prog.bytesOf 62 = 48 := by kernel_rfl
theorem k2 : Codec Try.prog 2 (fun n : Int => [iv n]) I64 := (Codec.int Try.underlying2).map id (fun _ => rfl) (fun _ h => i64_wf h)
theorem k3 : Codec Try.prog 3 (fun n : Int => [iv n]) I64 := (Codec.int Try.underlying3).map id (fun _ => rfl) (fun _ h => i64_wf h)
theorem k5 : Codec Try.prog 5 (fun n : Int => [.v (.int .u8 n)]) (fun n => 0 ≤ n ∧ n ≤ 255) := (Codec.int Try.underlying5).map id (fun _ => rfl) (fun _ h => u8_wf h)
abbrev OSup (s : Sup) : Prop := I64 s.x ∧ I64 s.y ∧ I64 s.g ∧ I64 s.limit ∧ I64 s.least ∧ I64 s.most
theorem k62 : Codec Try.prog 62 cS OSup :=
  (Codec.struct Try.underlying62 (by kernel_rfl) (by kernel_rfl) (Parts.cons k2 y2 (Parts.cons k2 y2 (Parts.cons k3 y3 (Parts.cons k2 y2 (Parts.cons k2 y2 (Parts.cons k2 y2 Parts.nil))))))).map
    (fun x => ⟨x.1, x.2.1, x.2.2.1, x.2.2.2.1, x.2.2.2.2.1, x.2.2.2.2.2.1⟩) (fun _ => rfl) (fun _ h => ⟨h.1, h.2.1, h.2.2.1, h.2.2.2.1, h.2.2.2.2.1, h.2.2.2.2.2.1⟩)
theorem k27 : Codec Try.prog 27 (fun l : List Sup => [.sl 6 dS cS l]) (fun l => l.length * 48 ≤ 140737488351232 ∧ ∀ s ∈ l, OSup s) :=
  (Codec.slice Try.underlying27 (by rw [y62]; decide) y62 b62 dS k62).map id (fun _ => rfl) (fun _ h => ⟨h.1, h.2.2⟩)
theorem k46 : Codec Try.prog 46 (fun p : Pt => cPt p) (fun p => I64 p.x ∧ I64 p.y) :=
  (Codec.struct Try.underlying46 (by kernel_rfl) (by kernel_rfl) (Parts.cons k2 y2 (Parts.cons k2 y2 Parts.nil))).map (fun x => ⟨x.1, x.2.1⟩) (fun _ => rfl) (fun _ h => ⟨h.1, h.2.1⟩)
end Go.Proofs.Ytfkjdjlcaojedaa

namespace Go.Proofs.Ytfkjdjlcaojedaa
open Go Sy
set_option maxRecDepth 100000
set_option maxHeartbeats 4000000
set_option linter.unusedVariables false
set_option linter.unusedSimpArgs false
theorem eq3 (f g : Nat → Int) : eqL 21 (c3 f) (c3 g) = some (f 0 == g 0 && (f 1 == g 1 && (f 2 == g 2 && true))) := rfl
theorem eq3l (f : Nat → Int) (a b c : Int) : eqL 21 (c3 f) [iv a, iv b, iv c] = some (f 0 == a && (f 1 == b && (f 2 == c && true))) := rfl
attribute [push_cast] eq3 eq3l
abbrev wr (n : Int) : Int := IntKind.i64.wrap n
abbrev upd3 (f : Nat → Int) (j : Nat) (v : Int) : Nat → Int := fun i => if i = j then v else f i
theorem setU3 (f : Nat → Int) (k : Nat) (hk : k < 3) (v : Int) : List.take k (c3 f) ++ [iv v] ++ List.drop (k + 1) (c3 f) = c3 (upd3 f k v) := by
  rcases k with _ | _ | _ | k <;> first | rfl | omega
theorem c3_congr {f g : Nat → Int} (h : ∀ j, j < 3 → f j = g j) : c3 f = c3 g := by
  unfold c3; rw [h 0 (by omega), h 1 (by omega), h 2 (by omega)]
end Go.Proofs.Ytfkjdjlcaojedaa

namespace Go.Proofs.Ytfkjdjlcaojedaa
open Go Sy
set_option maxRecDepth 100000
set_option maxHeartbeats 4000000
set_option linter.unusedVariables false
set_option linter.unusedSimpArgs false
abbrev hv (n : Int) : AV := .v (.int .u16 n)
structure Row (u : Nat → Int) : Prop where
  n : -48 ≤ u 0 ∧ u 0 ≤ 48
  a : -6291456 ≤ u 1 ∧ u 1 ≤ 6291456
  b : -6291456 ≤ u 2 ∧ u 2 ≤ 6291456
def row (f : Nat → Int) (g : Nat) : Nat → Int := fun j => f (g * 3 + j)
theorem Tab.row {f : Nat → Int} (h : Tab f) {g : Nat} (hg : g < 3) : Row (Go.Proofs.Ytfkjdjlcaojedaa.row f g) := by
  have h1 := h.n g hg
  have h2 := h.a (g * 3 + 1) (by omega)
  have h3 := h.a (g * 3 + 2) (by omega)
  have e : 3 * g = g * 3 + 0 := by omega
  rw [e] at h1
  exact ⟨by unfold Go.Proofs.Ytfkjdjlcaojedaa.row; omega, h2, h3⟩
theorem tips_spec (ps : List Sup) (p : Pt) : (tipsF ps p = -1 ∧ ∀ g, g < 3 → 0 ≤ part ps p g) ∨ ∃ g : Nat, g < 3 ∧ tipsF ps p = g ∧ part ps p g < 0 ∧ ∀ j, j < g → 0 ≤ part ps p j := by
  unfold tipsF idxF idxF idxF idxF
  by_cases h0 : part ps p 0 < 0
  · exact .inr ⟨0, by omega, by simp [h0], h0, fun j hj => by omega⟩
  by_cases h1 : part ps p 1 < 0
  · refine .inr ⟨1, by omega, by simp [h0, h1], h1, fun j hj => ?_⟩
    obtain rfl : j = 0 := by omega
    omega
  by_cases h2 : part ps p 2 < 0
  · refine .inr ⟨2, by omega, by simp [h0, h1, h2], h2, fun j hj => ?_⟩
    rcases (show j = 0 ∨ j = 1 by omega) with rfl | rfl <;> omega
  · refine .inl ⟨by simp [h0, h1, h2], fun g hg => ?_⟩
    rcases (show g = 0 ∨ g = 1 ∨ g = 2 by omega) with rfl | rfl | rfl <;> omega
end Go.Proofs.Ytfkjdjlcaojedaa

namespace Go.Proofs.Ytfkjdjlcaojedaa
open Go Sy
set_option maxRecDepth 100000
set_option maxHeartbeats 4000000
set_option linter.unusedVariables false
set_option linter.unusedSimpArgs false
theorem err_not {b : Bool} : ((if b = true then (0 : Int) else 3) != 0) = !b := by cases b <;> rfl
theorem fn74 (x lo hi : Int) : Sy.Fn Try.prog 74 [iv x, iv lo, iv hi] (bv (inR x lo hi)) := by
  refine Fn_of_W mixed Xt74 rfl ?_
  repeat' (first | refine w1g ?_ | refine w1l ?_ | refine w1q ?_ | refine w1b ?_ | refine w1p ?_ | ((first | refine w1r ?_ | refine w1k ?_ | refine w1e ?_); (refine sy1 ?_; try exact True.intro)) | refine an2 ?_ | fail)
  exact W_ret ⟨[_], ⟨rfl, rfl⟩, rfl⟩
theorem fn75 (m : Int) : Sy.Fn Try.prog 75 [iv m] (iv (if okMass m = true then 0 else 3)) := by
  refine Fn_of_W mixed Xt75 rfl ?_
  repeat' (first | refine w1g ?_ | refine w1l ?_ | refine w1q ?_ | refine w1b ?_ | refine w1p ?_ | ((first | refine w1r ?_ | refine w1k ?_ | refine w1e ?_ | refine CallC.now (fn74 _ _ _) ?_); (refine sy1 ?_; try exact True.intro)) | refine an2 ?_ | fail)
  refine W_cond (by rfl) (fun h => ?_) (fun h => ?_)
  · have h1 : ¬ okMass m = true := by unfold okMass; simpa using h
    repeat' (first | refine w1g ?_ | refine w1l ?_ | refine w1q ?_ | refine w1b ?_ | refine w1p ?_ | ((first | refine w1r ?_ | refine w1k ?_ | refine w1e ?_); (refine sy1 ?_; try exact True.intro)) | refine an2 ?_ | fail)
    exact W_ret ⟨[_], ⟨rfl, rfl⟩, by rw [if_neg h1]; rfl⟩
  · have h1 : okMass m = true := by unfold okMass; simpa using h
    repeat' (first | refine w1g ?_ | refine w1l ?_ | refine w1q ?_ | refine w1b ?_ | refine w1p ?_ | ((first | refine w1r ?_ | refine w1k ?_ | refine w1e ?_); (refine sy1 ?_; try exact True.intro)) | refine an2 ?_ | fail)
    exact W_ret ⟨[_], ⟨rfl, rfl⟩, by rw [if_pos h1]; rfl⟩
theorem fn62 (p : Pt) : Sy.Fn Try.prog 62 [.agg (cPt p)] (iv (if okPt p = true then 0 else 3)) := by
  refine Fn_of_W mixed Xt62 rfl ?_
  repeat' (first | refine w1g ?_ | refine w1l ?_ | refine w1q ?_ | refine w1b ?_ | refine w1p ?_ | ((first | refine w1r ?_ | refine w1k ?_ | refine w1e ?_ | refine CallC.now (fn74 _ _ _) ?_ | refine CallC.go _ (fun _ => ⟨trivial, fn74 _ _ _⟩) rfl ?_); (refine sy1 ?_; try exact True.intro)) | refine an2 ?_ | fail)
  have key : (!inR p.x (-262144) 262144 || !inR p.y (-262144) 262144) = !okPt p := by unfold okPt; rw [Bool.not_and]
  rw [key]
  refine W_cond (by rfl) (fun h => ?_) (fun h => ?_)
  · have h1 : ¬ okPt p = true := by simpa using h
    repeat' (first | refine w1g ?_ | refine w1l ?_ | refine w1q ?_ | refine w1b ?_ | refine w1p ?_ | ((first | refine w1r ?_ | refine w1k ?_ | refine w1e ?_); (refine sy1 ?_; try exact True.intro)) | refine an2 ?_ | fail)
    exact W_ret ⟨[_], ⟨rfl, rfl⟩, by rw [if_neg h1]; rfl⟩
  · have h1 : okPt p = true := by simpa using h
    repeat' (first | refine w1g ?_ | refine w1l ?_ | refine w1q ?_ | refine w1b ?_ | refine w1p ?_ | ((first | refine w1r ?_ | refine w1k ?_ | refine w1e ?_); (refine sy1 ?_; try exact True.intro)) | refine an2 ?_ | fail)
    exact W_ret ⟨[_], ⟨rfl, rfl⟩, by rw [if_pos h1]; rfl⟩
theorem fn66 (s : Sup) : Sy.Fn Try.prog 66 [.agg (cS s)] (bv (supB s)) := by
  refine Fn_of_W mixed Xt66 rfl ?_
  repeat' (first | refine w1g ?_ | refine w1l ?_ | refine w1q ?_ | refine w1b ?_ | refine w1p ?_ | ((first | refine w1r ?_ | refine w1k ?_ | refine w1e ?_ | refine CallC.now (fn74 _ _ _) ?_ | refine CallC.go _ (fun _ => ⟨trivial, fn74 _ _ _⟩) rfl ?_); (refine sy1 ?_; try exact True.intro)) | refine an2 ?_ | fail)
  have key : (inR s.x (-131072) 131072 && inR s.y (-131072) 131072 && inR s.g 0 2 && inR s.limit 1 1048576 && decide (0 ≤ s.least) && decide (s.least ≤ s.most) && decide (s.most ≤ 4096)) = supB s := by
    unfold supB
    rw [show inR s.g 0 2 = (decide (0 ≤ s.g) && decide (s.g ≤ 2)) from rfl, ← Bool.and_assoc (_ && _) (decide (0 ≤ s.g))]
  rw [key]
  exact W_ret ⟨[_], ⟨rfl, rfl⟩, rfl⟩
theorem floor_eq {a b : Int} (hb : 0 < b) : a / b = if a.tmod b < 0 then a.tdiv b - 1 else a.tdiv b := by
  have e := Int.tdiv_mul_add_tmod a b
  have l1 : a.tmod b < b := Int.tmod_lt_of_pos a hb
  have l2 : -b < a.tmod b := by
    have := Int.tmod_lt_of_pos (-a) hb
    rw [Int.neg_tmod] at this
    omega
  split
  · have h1 : a.tdiv b - 1 ≤ a / b := by rw [Int.le_ediv_iff_mul_le hb, Int.sub_mul]; omega
    have h2 : a / b < a.tdiv b := by rw [Int.ediv_lt_iff_lt_mul hb]; omega
    omega
  · have h1 : a.tdiv b ≤ a / b := by rw [Int.le_ediv_iff_mul_le hb]; omega
    have h2 : a / b < a.tdiv b + 1 := by rw [Int.ediv_lt_iff_lt_mul hb, Int.add_mul]; omega
    omega
theorem fn101 (a b : Int) (ha : -9223372036854775808 ≤ a ∧ a ≤ 9223372036854775807) (hb : 0 < b) : Sy.Fn Try.prog 101 [iv a, iv b] (iv (a / b)) := by
  refine Fn_of_W mixed Xt101 rfl ?_
  have e1 := wrap_i64_tdiv a b ha.1 ha.2 (by omega)
  have e2 := floor_eq (a := a) hb
  have hm : 0 ≤ a.tmod b ∨ (a.tmod b < 0 ∧ -9223372036854775807 ≤ a.tdiv b) := by
    by_cases h : 0 ≤ a.tmod b
    · exact .inl h
    · right
      refine ⟨by omega, ?_⟩
      have e := Int.tdiv_mul_add_tmod a b
      have l2 : -b < a.tmod b := by
        have := Int.tmod_lt_of_pos (-a) hb
        rw [Int.neg_tmod] at this
        omega
      by_cases q : -9223372036854775807 ≤ a.tdiv b
      · exact q
      · have := Int.mul_le_mul_of_nonneg_right (show a.tdiv b ≤ -9223372036854775808 by omega) (Int.le_of_lt hb)
        omega
  have hu : a.tdiv b ≤ 9223372036854775807 := by
    by_cases q : a.tdiv b ≤ 9223372036854775807
    · exact q
    · have e := Int.tdiv_mul_add_tmod a b
      have l2 : -b < a.tmod b := by
        have := Int.tmod_lt_of_pos (-a) hb
        rw [Int.neg_tmod] at this
        omega
      have := Int.mul_le_mul_of_nonneg_right (show 9223372036854775808 ≤ a.tdiv b by omega) (Int.le_of_lt hb)
      omega
  repeat' (first | refine w1g ?_ | refine w1l ?_ | refine w1q ?_ | refine w1b ?_ | refine w1p ?_ | ((first | refine w1r ?_ | refine w1k ?_ | refine w1e ?_); simp (maxSteps := 400000) (disch := omega) only [push_cast, ↓reduceIte, reduceCtorEq, Nat.reduceAdd, Nat.reduceSub, Nat.reduceEqDiff, Nat.reduceLeDiff, Nat.reduceLT, Nat.reduceBEq, Nat.reduceDiv, Nat.reduceMod, Nat.reducePow, Nat.reduceMul, Int.reduceToNat, Int.reduceLT, Int.reduceLE, e1]) | refine an2 ?_ | fail)
  refine W_condD (by rfl) (fun h => ?_) (fun h => ?_)
  · rw [if_pos h] at e2
    repeat' (first | refine w1g ?_ | refine w1l ?_ | refine w1q ?_ | refine w1b ?_ | refine w1p ?_ | ((first | refine w1r ?_ | refine w1k ?_ | refine w1e ?_); (refine sy1 ?_; try exact True.intro)) | refine an2 ?_ | fail)
    exact W_ret ⟨[_], ⟨rfl, rfl⟩, by rw [e2]; rfl⟩
  · rw [if_neg h] at e2
    repeat' (first | refine w1g ?_ | refine w1l ?_ | refine w1q ?_ | refine w1b ?_ | refine w1p ?_ | ((first | refine w1r ?_ | refine w1k ?_ | refine w1e ?_); (refine sy1 ?_; try exact True.intro)) | refine an2 ?_ | fail)
    exact W_ret ⟨[_], ⟨rfl, rfl⟩, by rw [e2]; rfl⟩
theorem fn102 (a b d : Int) (ha : 0 ≤ a ∧ a ≤ 2147483647) (hb : -2305843009213693952 ≤ b ∧ b ≤ 2305843009213693952) (hd : 0 < d ∧ d ≤ 1152921504606846976) (hq : -4611686018427387904 ≤ a * b / d ∧ a * b / d ≤ 4611686018427387904) :
    Sy.Fn Try.prog 102 [iv a, iv b, iv d] (iv (a * b / d)) := by
  refine Fn_of_W mixed Xt102 rfl ?_
  have c101 := fn101 b d (by omega) hd.1
  have e := Int.ediv_mul_add_emod b d
  have r0 := Int.emod_nonneg b (Int.ne_of_gt hd.1)
  have r1 := Int.emod_lt_of_pos b hd.1
  generalize hW : b / d = w at *
  generalize hR : b % d = rest at *
  have eR : b - w * d = rest := by omega
  repeat' (first | refine w1g ?_ | refine w1l ?_ | refine w1q ?_ | refine w1b ?_ | refine w1p ?_ | ((first | refine w1r ?_ | refine w1k ?_ | refine w1e ?_ | refine CallC.now (c101) ?_); simp (maxSteps := 400000) (disch := omega) only [push_cast, ↓reduceIte, reduceCtorEq, Nat.reduceAdd, Nat.reduceSub, Nat.reduceEqDiff, Nat.reduceLeDiff, Nat.reduceLT, Nat.reduceBEq, Nat.reduceDiv, Nat.reduceMod, Nat.reducePow, Nat.reduceMul, Int.reduceToNat, Int.reduceLT, Int.reduceLE, eR]) | refine an2 ?_ | fail)
  refine W_loopU (fun p : Nat × Int × Int => [(9, iv p.2.1), (10, iv p.2.2), (11, iv (30 - (p.1 : Int)))]) (fun i => []) (fun p => p.1 ≤ 31 ∧ p.2.1 * d + p.2.2 = a / 2 ^ (31 - p.1) * rest ∧ 0 ≤ p.2.2 ∧ p.2.2 < d ∧ 0 ≤ p.2.1) (fun p => 31 - p.1) (0, 0, 0) ⟨by omega, by simp only []; rw [show a / 2 ^ (31 - 0) = 0 by omega]; omega, by simp only []; omega, hd.1, by simp only []; omega⟩ (by rfl) (by rfl) (fun p hp => ?_)
  obtain ⟨j, q, r⟩ := p
  obtain ⟨i1, i2, i3, i4, i5⟩ := hp
  simp only at i1 i2 i3 i4 i5
  (refine sy1 ?_; try exact True.intro)
  repeat' (first | refine w1g ?_ | refine w1l ?_ | refine w1q ?_ | refine w1b ?_ | refine w1p ?_ | ((first | refine w1r ?_ | refine w1k ?_ | refine w1e ?_); (refine sy1 ?_; try exact True.intro)) | refine an2 ?_ | fail)
  refine W_condD (by rfl) (fun h5 => ?_) (fun h5 => ?_)
  · have w1 : IntKind.u64.wrap (30 - (j : Int)) = 30 - j := wrapU ⟨by omega, by omega⟩
    have w2 : min (30 - (j : Int)).toNat IntKind.i64.bits = 30 - j := by show min _ 64 = _; omega
    have w3 : a.fdiv (2 ^ (30 - j)) = a / 2 ^ (30 - j) := Int.fdiv_eq_ediv_of_nonneg _ (Int.le_of_lt (Int.pow_pos (by omega)))
    have w4 : a / 2 ^ (31 - j) = a / 2 ^ (30 - j) / 2 := by
      rw [Int.ediv_ediv_of_nonneg (Int.le_of_lt (Int.pow_pos (by omega))), ← Int.pow_succ, show (30 - j).succ = 31 - j by omega]
    have hA0 : 0 ≤ a / 2 ^ (30 - j) := Int.ediv_nonneg ha.1 (Int.le_of_lt (Int.pow_pos (by omega)))
    have hA1 : a / 2 ^ (30 - j) ≤ a := Int.ediv_le_self _ ha.1
    rw [w4] at i2
    generalize hA : a / 2 ^ (30 - j) = A at *
    have w5 : A.tmod 2 = A % 2 := Int.tmod_eq_emod_of_nonneg hA0
    have hqd : q * d ≤ 2147483647 * d := by
      have h1 : A / 2 * rest ≤ 2147483647 * d := mulP (by omega) (by omega) (by omega) (by omega)
      omega
    have hqb : q ≤ 2147483647 := by
      by_cases qq : q ≤ 2147483647
      · exact qq
      · have := Int.mul_le_mul_of_nonneg_right (show 2147483648 ≤ q by omega) (Int.le_of_lt hd.1); omega
    repeat' (first | refine w1g ?_ | refine w1l ?_ | refine w1q ?_ | refine w1b ?_ | refine w1p ?_ | ((first | refine w1r ?_ | refine w1k ?_ | refine w1e ?_); simp (maxSteps := 400000) (disch := omega) only [push_cast, ↓reduceIte, reduceCtorEq, Nat.reduceAdd, Nat.reduceSub, Nat.reduceEqDiff, Nat.reduceLeDiff, Nat.reduceLT, Nat.reduceBEq, Nat.reduceDiv, Nat.reduceMod, Nat.reducePow, Nat.reduceMul, Int.reduceToNat, Int.reduceLT, Int.reduceLE, w1, w2, w3, w5]) | refine an2 ?_ | fail)
    refine W_meet [(10, iv (2 * r + A % 2 * rest))] [] ?_ ?_
    · refine W_cond (by rfl) (fun h => ?_) (fun h => ?_)
      · rw [beq_iff_eq] at h
        rw [h]
        repeat' (first | refine w1g ?_ | refine w1l ?_ | refine w1q ?_ | refine w1b ?_ | refine w1p ?_ | ((first | refine w1r ?_ | refine w1k ?_ | refine w1e ?_); (refine sy1 ?_; try exact True.intro)) | refine an2 ?_ | fail)
        refine ⟨by rfl, ?_⟩
        (refine syE ?_; try exact True.intro)
        omega
      · rw [beq_eq_false_iff_ne] at h
        rw [show A % 2 = 0 by omega]
        repeat' (first | refine w1g ?_ | refine w1l ?_ | refine w1q ?_ | refine w1b ?_ | refine w1p ?_ | ((first | refine w1r ?_ | refine w1k ?_ | refine w1e ?_); (refine sy1 ?_; try exact True.intro)) | refine an2 ?_ | fail)
        refine ⟨by rfl, ?_⟩
        (refine syE ?_; try exact True.intro)
        omega
    have e2 : 2 * q * d + (2 * r + A % 2 * rest) = A * rest := by
      have h1 : A * rest = (2 * (A / 2) + A % 2) * rest := by rw [show 2 * (A / 2) + A % 2 = A by omega]
      rw [h1, Int.add_mul, Int.mul_assoc, Int.mul_assoc, ← i2]; grind
    have hb2 : 0 ≤ A % 2 * rest ∧ A % 2 * rest ≤ rest := by
      rcases (show A % 2 = 0 ∨ A % 2 = 1 by omega) with h | h <;> rw [h] <;> omega
    generalize hr2 : 2 * r + A % 2 * rest = r2 at *
    have hr2b : 0 ≤ r2 ∧ r2 ≤ 3 * d := by omega
    have hqA : A * rest ≤ 2147483647 * d := mulP (by omega) (by omega) (by omega) (by omega)
    (refine sy1 ?_; try exact True.intro)
    repeat' (first | refine w1g ?_ | refine w1l ?_ | refine w1q ?_ | refine w1b ?_ | refine w1p ?_ | ((first | refine w1r ?_ | refine w1k ?_ | refine w1e ?_); (refine sy1 ?_; try exact True.intro)) | refine an2 ?_ | fail)
    refine W_loopU (fun p : Int × Int => [(9, iv p.1), (10, iv p.2)]) (fun i => []) (fun p => p.1 * d + p.2 = A * rest ∧ 0 ≤ p.2 ∧ p.2 ≤ 3 * d ∧ 0 ≤ p.1) (fun p => p.2.toNat) (2 * q, r2) ⟨e2, hr2b.1, hr2b.2, by simp only []; omega⟩ (by rfl) (by rfl) (fun p hp => ?_)
    obtain ⟨q', r'⟩ := p
    obtain ⟨k1, k2, k3, k4⟩ := hp
    simp only at k1 k2 k3 k4
    have hqb' : q' ≤ 2147483647 := by
      by_cases qq : q' ≤ 2147483647
      · exact qq
      · have := Int.mul_le_mul_of_nonneg_right (show 2147483648 ≤ q' by omega) (Int.le_of_lt hd.1); omega
    (refine sy1 ?_; try exact True.intro)
    repeat' (first | refine w1g ?_ | refine w1l ?_ | refine w1q ?_ | refine w1b ?_ | refine w1p ?_ | ((first | refine w1r ?_ | refine w1k ?_ | refine w1e ?_); (refine sy1 ?_; try exact True.intro)) | refine an2 ?_ | fail)
    refine W_condD (by rfl) (fun h6 => ?_) (fun h6 => ?_)
    · repeat' (first | refine w1g ?_ | refine w1l ?_ | refine w1q ?_ | refine w1b ?_ | refine w1p ?_ | ((first | refine w1r ?_ | refine w1k ?_ | refine w1e ?_); (refine sy1 ?_; try exact True.intro)) | refine an2 ?_ | fail)
      refine ⟨(q' + 1, r' - d), ⟨by simp only []; rw [Int.add_mul]; omega, by simp only []; omega, by simp only []; omega, by simp only []; omega⟩, by simp only []; omega, by rfl, ?_⟩
      (refine syE ?_; try exact True.intro)
    · repeat' (first | refine w1g ?_ | refine w1l ?_ | refine w1q ?_ | refine w1b ?_ | refine w1p ?_ | ((first | refine w1r ?_ | refine w1k ?_ | refine w1e ?_); (refine sy1 ?_; try exact True.intro)) | refine an2 ?_ | fail)
      refine ⟨(j + 1, q', r'), ⟨by simp only []; omega, by simp only []; rw [show 31 - (j + 1) = 30 - j by omega, hA]; exact k1, by simp only []; omega, by simp only []; omega, by simp only []; omega⟩, by simp only []; omega, by rfl, ?_⟩
      (refine syE ?_; try exact True.intro)
      omega
  · obtain rfl : j = 31 := by omega
    rw [show a / 2 ^ (31 - 31) = a by simp] at i2
    have eab : a * b / d = w * a + q := by
      have h1 : a * b = (w * a + q) * d + r := by rw [← e, Int.mul_add, Int.add_mul]; grind
      have h2 : w * a + q ≤ a * b / d := by rw [Int.le_ediv_iff_mul_le hd.1]; omega
      have h3 : a * b / d < w * a + q + 1 := by rw [Int.ediv_lt_iff_lt_mul hd.1, Int.add_mul]; omega
      omega
    have hqA : a * rest ≤ 2147483647 * d := mulP (by omega) (by omega) (by omega) (by omega)
    have hqb' : q ≤ 2147483647 := by
      by_cases qq : q ≤ 2147483647
      · exact qq
      · have := Int.mul_le_mul_of_nonneg_right (show 2147483648 ≤ q by omega) (Int.le_of_lt hd.1); omega
    rw [eab] at hq ⊢
    repeat' (first | refine w1g ?_ | refine w1l ?_ | refine w1q ?_ | refine w1b ?_ | refine w1p ?_ | ((first | refine w1r ?_ | refine w1k ?_ | refine w1e ?_); (refine sy1 ?_; try exact True.intro)) | refine an2 ?_ | fail)
    exact W_ret ⟨[_], ⟨rfl, rfl⟩, rfl⟩
theorem fn81 (a b d : Int) (ha : 0 ≤ a ∧ a ≤ 2147483647) (hb : -2305843009213693952 ≤ b ∧ b ≤ 2305843009213693952) (hd : 0 < d ∧ d ≤ 1152921504606846976) (hq : -4611686018427387904 ≤ -(a * b) / d ∧ -(a * b) / d ≤ 4611686018427387904) :
    Sy.Fn Try.prog 81 [iv a, iv b, iv d] (iv (cdiv (a * b) d)) := by
  refine Fn_of_W mixed Xt81 rfl ?_
  have e : a * (0 - b) = -(a * b) := by rw [Int.zero_sub, Int.mul_neg]
  have c := fn102 a (0 - b) d ha (by omega) hd (by rw [e]; exact hq)
  rw [e] at c
  repeat' (first | refine w1g ?_ | refine w1l ?_ | refine w1q ?_ | refine w1b ?_ | refine w1p ?_ | ((first | refine w1r ?_ | refine w1k ?_ | refine w1e ?_ | refine CallC.now (c) ?_); (refine sy1 ?_; try exact True.intro)) | refine an2 ?_ | fail)
  exact W_ret ⟨[_], ⟨rfl, rfl⟩, by unfold cdiv; simp; rfl⟩
end Go.Proofs.Ytfkjdjlcaojedaa

namespace Go.Proofs.Ytfkjdjlcaojedaa
open Go Sy
set_option maxRecDepth 100000
set_option maxHeartbeats 4000000
set_option linter.unusedVariables false
set_option linter.unusedSimpArgs false
theorem set9 (f : Nat → Int) (j : Nat) (h : j < 9) (v : Int) : List.take j (c9 f) ++ [iv v] ++ List.drop (j + 1) (c9 f) = c9 (upd9 f j v) := by
  rcases j with _ | _ | _ | _ | _ | _ | _ | _ | _ | j <;> first | rfl | omega
theorem set9K (f : Nat → Int) (s : Sup) (k g : Nat) (hg : s.g = g) (hg3 : g < 3) (hk : k < 3) : List.take (g * 3 + k) (c9 (addK f s k)) ++ [iv (f (g * 3 + k) + pick s k)] ++ List.drop (g * 3 + k + 1) (c9 (addK f s k)) = c9 (addK f s (k + 1)) := by
  rw [set9 _ _ (by omega), addK_succ f s k g hg hk]
theorem fn61 (ps : List Sup) (hl : ps.length ≤ 48) (hok : ∀ i, i < ps.length → supB (sp ps i) = true) : Sy.Fn Try.prog 61 [aP ps] (.agg (c9 (sumsL ps))) := by
  refine Fn_of_W mixed Xt61 rfl ?_
  repeat' (first | refine w1g ?_ | refine w1l ?_ | refine w1q ?_ | refine w1b ?_ | refine w1p ?_ | ((first | refine w1r ?_ | refine w1k ?_ | refine w1e ?_); (refine sy1 ?_; try exact True.intro)) | refine an2 ?_ | fail)
  refine W_loopU (fun i : Nat => [(4, iv i)]) (fun i => [(1, .cells (c9 (sumsL (ps.take i))))]) (fun i => i ≤ ps.length) (fun i => ps.length - i) 0 (by omega) (by rfl) (by rw [List.take_zero]; rfl) (fun i hi => ?_)
  have hsm := sums_small ps hok i hi
  generalize hf : sumsL (ps.take i) = f at *
  (refine sy1 ?_; try exact True.intro)
  repeat' (first | refine w1g ?_ | refine w1l ?_ | refine w1q ?_ | refine w1b ?_ | refine w1p ?_ | ((first | refine w1r ?_ | refine w1k ?_ | refine w1e ?_); (refine sy1 ?_; try exact True.intro)) | refine an2 ?_ | fail)
  refine W_condD (by rfl) (fun h5 => ?_) (fun h5 => ?_)
  · have hlt : i < ps.length := by omega
    have hsp : ps.getD i dS = sp ps i := rfl
    have hsb := hok i hlt
    have hnew : sumsL (ps.take (i + 1)) = addK f (sp ps i) 3 := by rw [take_sp ps i hlt, sumsL_append, hf]; rfl
    generalize hs : sp ps i = s at *
    obtain ⟨k1, k2, k3, _⟩ := supB_iff.1 hsb
    obtain ⟨g, hg⟩ : ∃ g : Nat, s.g = g := ⟨s.g.toNat, by omega⟩
    have hg3 : g < 3 := by omega
    have s0 : List.take (g * 3) (c9 f) ++ [iv (f (g * 3) + 1)] ++ List.drop (g * 3 + 1) (c9 f) = c9 (addK f s 1) := by
      have := set9K f s 0 g hg hg3 (by omega)
      rw [addK_zero] at this
      exact this
    have s1 : List.take (g * 3 + 1) (c9 (addK f s 1)) ++ [iv (f (g * 3 + 1) + s.x)] ++ List.drop (g * 3 + 1 + 1) (c9 (addK f s 1)) = c9 (addK f s 2) := set9K f s 1 g hg hg3 (by omega)
    have s2 : List.take (g * 3 + 2) (c9 (addK f s 2)) ++ [iv (f (g * 3 + 2) + s.y)] ++ List.drop (g * 3 + 2 + 1) (c9 (addK f s 2)) = c9 (addK f s 3) := set9K f s 2 g hg hg3 (by omega)
    have n1 := addK_here f s 1 g hg (by omega)
    have n2 := addK_here f s 2 g hg (by omega)
    have b0 := hsm.a (g * 3) (by omega)
    have b1 := hsm.a (g * 3 + 1) (by omega)
    have b2 := hsm.a (g * 3 + 2) (by omega)
    repeat' (first | refine w1g ?_ | refine w1l ?_ | refine w1q ?_ | refine w1b ?_ | refine w1p ?_ | ((first | refine w1r ?_ | refine w1k ?_ | refine w1e ?_); simp (maxSteps := 400000) (disch := omega) only [push_cast, ↓reduceIte, reduceCtorEq, Nat.reduceAdd, Nat.reduceSub, Nat.reduceEqDiff, Nat.reduceLeDiff, Nat.reduceLT, Nat.reduceBEq, Nat.reduceDiv, Nat.reduceMod, Nat.reducePow, Nat.reduceMul, Int.reduceToNat, Int.reduceLT, Int.reduceLE, hsp, hg, s0, s1, s2, n1, n2]) | refine an2 ?_ | fail)
    refine ⟨i + 1, by omega, by omega, by rfl, ?_⟩
    rw [hnew]
    (refine syE ?_; try exact True.intro)
  · obtain rfl : i = ps.length := by omega
    rw [List.take_length] at hf
    rw [hf]
    repeat' (first | refine w1g ?_ | refine w1l ?_ | refine w1q ?_ | refine w1b ?_ | refine w1p ?_ | ((first | refine w1r ?_ | refine w1k ?_ | refine w1e ?_); (refine sy1 ?_; try exact True.intro)) | refine an2 ?_ | fail)
    exact W_ret ⟨[_], ⟨⟨by simp [len9], rfl⟩, rfl⟩, rfl⟩
theorem fn67 (f : Nat → Int) (h : Tab f) : Sy.Fn Try.prog 67 [.agg (c9 f)] (iv (det f)) := by
  refine Fn_of_W mixed Xt67 rfl ?_
  obtain ⟨b1, b2, b3⟩ := det_parts h
  have n0 := h.n 0 (by omega)
  have n1 := h.n 1 (by omega)
  have n2 := h.n 2 (by omega)
  simp only [Nat.reduceMul] at n0 n1 n2
  have m1 := mulB (C := 39582418599936) (h.a 4 (by omega)) (h.a 8 (by omega)) (by decide)
  have m2 := mulB (C := 39582418599936) (h.a 7 (by omega)) (h.a 5 (by omega)) (by decide)
  have m3 := mulB (C := 301989888) (A := 48) (show -48 ≤ f 3 ∧ f 3 ≤ 48 by omega) (h.a 8 (by omega)) (by decide)
  have m4 := mulB (C := 301989888) (A := 48) (show -48 ≤ f 6 ∧ f 6 ≤ 48 by omega) (h.a 5 (by omega)) (by decide)
  have m5 := mulB (C := 301989888) (A := 48) (show -48 ≤ f 3 ∧ f 3 ≤ 48 by omega) (h.a 7 (by omega)) (by decide)
  have m6 := mulB (C := 301989888) (A := 48) (show -48 ≤ f 6 ∧ f 6 ≤ 48 by omega) (h.a 4 (by omega)) (by decide)
  repeat' (first | refine w1g ?_ | refine w1l ?_ | refine w1q ?_ | refine w1b ?_ | refine w1p ?_ | ((first | refine w1r ?_ | refine w1k ?_ | refine w1e ?_); (refine sy1 ?_; try exact True.intro)) | refine an2 ?_ | fail)
  exact W_ret ⟨[_], ⟨rfl, rfl⟩, rfl⟩
theorem fn28 (ps : List Sup) (hl : ps.length ≤ 140737488355328) : Sy.Fn Try.prog 28 [aP ps] (iv (chkP ps)) := by
  refine Fn_of_W mixed Xt28 rfl ?_
  repeat' (first | refine w1g ?_ | refine w1l ?_ | refine w1q ?_ | refine w1b ?_ | refine w1p ?_ | ((first | refine w1r ?_ | refine w1k ?_ | refine w1e ?_); (refine sy1 ?_; try exact True.intro)) | refine an2 ?_ | fail)
  refine W_cond (by rfl) (fun h => ?_) (fun h => ?_)
  · have e : chkP ps = 6 := by
      unfold chkP
      rw [if_pos (by simp only [Bool.or_eq_true, decide_eq_true_eq] at h; omega)]
    rw [e]
    repeat' (first | refine w1g ?_ | refine w1l ?_ | refine w1q ?_ | refine w1b ?_ | refine w1p ?_ | ((first | refine w1r ?_ | refine w1k ?_ | refine w1e ?_); (refine sy1 ?_; try exact True.intro)) | refine an2 ?_ | fail)
    exact W_ret ⟨[_], ⟨rfl, rfl⟩, rfl⟩
  simp only [Bool.or_eq_false_iff, decide_eq_false_iff_not] at h
  have hlen : 3 ≤ ps.length ∧ ps.length ≤ 48 := by omega
  repeat' (first | refine w1g ?_ | refine w1l ?_ | refine w1q ?_ | refine w1b ?_ | refine w1p ?_ | ((first | refine w1r ?_ | refine w1k ?_ | refine w1e ?_); (refine sy1 ?_; try exact True.intro)) | refine an2 ?_ | fail)
  refine W_loopU (fun i : Nat => [(3, iv i)]) (fun i => []) (fun i => i ≤ ps.length ∧ ∀ j, j < i → supB (sp ps j) = true) (fun i => ps.length - i) 0 ⟨by omega, fun j hj => by omega⟩ (by rfl) (by rfl) (fun i hi => ?_)
  obtain ⟨hi, hall⟩ := hi
  (refine sy1 ?_; try exact True.intro)
  repeat' (first | refine w1g ?_ | refine w1l ?_ | refine w1q ?_ | refine w1b ?_ | refine w1p ?_ | ((first | refine w1r ?_ | refine w1k ?_ | refine w1e ?_); (refine sy1 ?_; try exact True.intro)) | refine an2 ?_ | fail)
  refine W_condD (by rfl) (fun h5 => ?_) (fun h5 => ?_)
  · have hlt : i < ps.length := by omega
    have hsp : ps.getD i dS = sp ps i := rfl
    repeat' (first | refine w1g ?_ | refine w1l ?_ | refine w1q ?_ | refine w1b ?_ | refine w1p ?_ | ((first | refine w1r ?_ | refine w1k ?_ | refine w1e ?_ | refine CallC.now (fn66 _) ?_); simp (maxSteps := 400000) (disch := omega) only [push_cast, ↓reduceIte, reduceCtorEq, Nat.reduceAdd, Nat.reduceSub, Nat.reduceEqDiff, Nat.reduceLeDiff, Nat.reduceLT, Nat.reduceBEq, Nat.reduceDiv, Nat.reduceMod, Nat.reducePow, Nat.reduceMul, Int.reduceToNat, Int.reduceLT, Int.reduceLE, hsp]) | refine an2 ?_ | fail)
    refine W_cond (by rfl) (fun hb => ?_) (fun hb => ?_)
    · have e : chkP ps = 2 := by
        unfold chkP
        rw [if_neg (by omega), if_pos (all_bad hlt (by simpa using hb))]
      rw [e]
      repeat' (first | refine w1g ?_ | refine w1l ?_ | refine w1q ?_ | refine w1b ?_ | refine w1p ?_ | ((first | refine w1r ?_ | refine w1k ?_ | refine w1e ?_); (refine sy1 ?_; try exact True.intro)) | refine an2 ?_ | fail)
      exact W_ret ⟨[_], ⟨rfl, rfl⟩, rfl⟩
    · repeat' (first | refine w1g ?_ | refine w1l ?_ | refine w1q ?_ | refine w1b ?_ | refine w1p ?_ | ((first | refine w1r ?_ | refine w1k ?_ | refine w1e ?_); (refine sy1 ?_; try exact True.intro)) | refine an2 ?_ | fail)
      refine ⟨i + 1, ⟨by omega, up_all hall (by simpa using hb)⟩, by omega, by rfl, ?_⟩
      (refine syE ?_; try exact True.intro)
  · have hok : ∀ j, j < ps.length → supB (sp ps j) = true := fun j hj => hall j (by omega)
    have hch : chkP ps = if det (sumsL ps) = 0 then 9 else 0 := by
      unfold chkP; rw [if_neg (by omega), all_good hok, if_neg (by decide)]
    have hsm := sums_small ps hok ps.length (Nat.le_refl _)
    rw [List.take_length] at hsm
    have c67 := fn67 _ (hsm.tab (by omega))
    repeat' (first | refine w1g ?_ | refine w1l ?_ | refine w1q ?_ | refine w1b ?_ | refine w1p ?_ | ((first | refine w1r ?_ | refine w1k ?_ | refine w1e ?_ | refine CallC.now (fn61 ps hlen.2 hok) ?_ | refine CallC.now (c67) ?_); (refine sy1 ?_; try exact True.intro)) | refine an2 ?_ | fail)
    refine W_cond (by rfl) (fun hb => ?_) (fun hb => ?_)
    · rw [beq_iff_eq] at hb
      rw [if_pos hb] at hch
      rw [hch]
      repeat' (first | refine w1g ?_ | refine w1l ?_ | refine w1q ?_ | refine w1b ?_ | refine w1p ?_ | ((first | refine w1r ?_ | refine w1k ?_ | refine w1e ?_); (refine sy1 ?_; try exact True.intro)) | refine an2 ?_ | fail)
      exact W_ret ⟨[_], ⟨rfl, rfl⟩, rfl⟩
    · rw [beq_eq_false_iff_ne] at hb
      rw [if_neg hb] at hch
      rw [hch]
      repeat' (first | refine w1g ?_ | refine w1l ?_ | refine w1q ?_ | refine w1b ?_ | refine w1p ?_ | ((first | refine w1r ?_ | refine w1k ?_ | refine w1e ?_); (refine sy1 ?_; try exact True.intro)) | refine an2 ?_ | fail)
      exact W_ret ⟨[_], ⟨rfl, rfl⟩, rfl⟩
end Go.Proofs.Ytfkjdjlcaojedaa

namespace Go.Proofs.Ytfkjdjlcaojedaa
open Go Sy
set_option maxRecDepth 100000
set_option maxHeartbeats 4000000
set_option linter.unusedVariables false
set_option linter.unusedSimpArgs false
def put3 (f : Nat → Int) (k : Nat) (v : Int) : Nat → Int := fun i => if i = k then v else f i
theorem put3_here (f : Nat → Int) (k : Nat) (v : Int) : put3 f k v k = v := if_pos rfl
theorem set3P (f : Nat → Int) (k : Nat) (hk : k < 3) (v : Int) : List.take k (c3 f) ++ [iv v] ++ List.drop (k + 1) (c3 f) = c3 (put3 f k v) := setU3 f k hk v
theorem put3_put3 (f : Nat → Int) (k : Nat) (v w : Int) : put3 (put3 f k v) k w = put3 f k w := by
  funext j; unfold put3; split <;> simp_all
theorem put3_upto (h : Nat → Int) (k : Nat) (hk : k < 3) (v : Int) (hv : v = h k) : c3 (put3 (upto h k) k v) = c3 (upto h (k + 1)) :=
  c3_congr fun j hj => by
    unfold put3 upto
    by_cases e : j = k
    · subst e; rw [if_pos rfl, if_pos (by omega), hv]
    · rw [if_neg e]
      by_cases e2 : j < k
      · rw [if_pos e2, if_pos (by omega)]
      · rw [if_neg e2, if_neg (by omega)]
theorem fn63 (ps : List Sup) (p : Pt) (h : chkP ps = 0) (hp : okPt p = true) : Sy.Fn Try.prog 63 [aP ps, .agg (cPt p)] (.tup [.agg (c3 (part ps p)), iv (whole ps)]) := by
  refine Fn_of_W mixed Xt63 rfl ?_
  obtain ⟨hl, hok, hdet⟩ := chkP_ok h
  have htab := sums_tab h
  have c67 := fn67 _ htab
  have hd := det_B htab
  have hw := whole_B h
  have hmax : max (det (sumsL ps)) (0 - det (sumsL ps)) = whole ps := by
    unfold whole; rw [sgn_mul]; split <;> omega
  repeat' (first | refine w1g ?_ | refine w1l ?_ | refine w1q ?_ | refine w1b ?_ | refine w1p ?_ | ((first | refine w1r ?_ | refine w1k ?_ | refine w1e ?_ | refine CallC.now (fn61 ps hl.2 hok) ?_ | refine CallC.now (c67) ?_); (refine sy1 ?_; try exact True.intro)) | refine an2 ?_ | fail)
  refine W_loopU (fun k : Nat => [(9, iv k)]) (fun k => [(10, .cells (c3 (upto (part ps p) k)))]) (fun k => k ≤ 3) (fun k => 3 - k) 0 (by omega) (by rfl) (by rfl) (fun k hk => ?_)
  (refine sy1 ?_; try exact True.intro)
  repeat' (first | refine w1g ?_ | refine w1l ?_ | refine w1q ?_ | refine w1b ?_ | refine w1p ?_ | ((first | refine w1r ?_ | refine w1k ?_ | refine w1e ?_); (refine sy1 ?_; try exact True.intro)) | refine an2 ?_ | fail)
  refine W_condD (by rfl) (fun h6 => ?_) (fun h6 => ?_)
  · have hk3 : k < 3 := by omega
    have hput := put9 (sumsL ps) k p hk3
    have c2 := fn67 _ (putRow_tab k htab hp)
    have hdb := det_B (putRow_tab k htab hp)
    have hs1 := set3P (upto (part ps p) k) k hk3 (det (putRow (sumsL ps) k p))
    have hs2 := set3P (put3 (upto (part ps p) k) k (det (putRow (sumsL ps) k p))) k hk3 (0 - det (putRow (sumsL ps) k p))
    rw [put3_put3] at hs2
    repeat' (first | refine w1g ?_ | refine w1l ?_ | refine w1q ?_ | refine w1b ?_ | refine w1p ?_ | ((first | refine w1r ?_ | refine w1k ?_ | refine w1e ?_ | refine CallC.now (c2) ?_); simp (maxSteps := 400000) (disch := omega) only [push_cast, ↓reduceIte, reduceCtorEq, Nat.reduceAdd, Nat.reduceSub, Nat.reduceEqDiff, Nat.reduceLeDiff, Nat.reduceLT, Nat.reduceBEq, Nat.reduceDiv, Nat.reduceMod, Nat.reducePow, Nat.reduceMul, Int.reduceToNat, Int.reduceLT, Int.reduceLE, hput, hs1, Nat.mul_one]) | refine an2 ?_ | fail)
    refine W_meetB [] [(10, .cells (c3 (upto (part ps p) (k + 1))))] ?_ ?_
    · refine W_condD (by rfl) (fun hn => ?_) (fun hn => ?_)
      · repeat' (first | refine w1g ?_ | refine w1l ?_ | refine w1q ?_ | refine w1b ?_ | refine w1p ?_ | ((first | refine w1r ?_ | refine w1k ?_ | refine w1e ?_); simp (maxSteps := 400000) (disch := omega) only [push_cast, ↓reduceIte, reduceCtorEq, Nat.reduceAdd, Nat.reduceSub, Nat.reduceEqDiff, Nat.reduceLeDiff, Nat.reduceLT, Nat.reduceBEq, Nat.reduceDiv, Nat.reduceMod, Nat.reducePow, Nat.reduceMul, Int.reduceToNat, Int.reduceLT, Int.reduceLE, put3_here, hs2, Nat.mul_one]) | refine an2 ?_ | fail)
        refine ⟨by rfl, ?_⟩
        rw [put3_upto _ _ hk3 _ (by unfold part; rw [sgn_mul, if_pos hn]; omega)]
      · rw [put3_upto _ _ hk3 _ (by unfold part; rw [sgn_mul, if_neg hn])]
        repeat' (first | refine w1g ?_ | refine w1l ?_ | refine w1q ?_ | refine w1b ?_ | refine w1p ?_ | ((first | refine w1r ?_ | refine w1k ?_ | refine w1e ?_); (refine sy1 ?_; try exact True.intro)) | refine an2 ?_ | fail)
        rfl
    (refine sy1 ?_; try exact True.intro)
    repeat' (first | refine w1g ?_ | refine w1l ?_ | refine w1q ?_ | refine w1b ?_ | refine w1p ?_ | ((first | refine w1r ?_ | refine w1k ?_ | refine w1e ?_); (refine sy1 ?_; try exact True.intro)) | refine an2 ?_ | fail)
    refine ⟨k + 1, by omega, by omega, by rfl, ?_⟩
    (refine syE ?_; try exact True.intro)
  · obtain rfl : k = 3 := by omega
    repeat' (first | refine w1g ?_ | refine w1l ?_ | refine w1q ?_ | refine w1b ?_ | refine w1p ?_ | ((first | refine w1r ?_ | refine w1k ?_ | refine w1e ?_); simp (maxSteps := 400000) (disch := omega) only [push_cast, ↓reduceIte, reduceCtorEq, Nat.reduceAdd, Nat.reduceSub, Nat.reduceEqDiff, Nat.reduceLeDiff, Nat.reduceLT, Nat.reduceBEq, Nat.reduceDiv, Nat.reduceMod, Nat.reducePow, Nat.reduceMul, Int.reduceToNat, Int.reduceLT, Int.reduceLE, upto3, hmax]) | refine an2 ?_ | fail)
    exact W_ret ⟨[_, _], ⟨⟨by simp [len3], rfl⟩, rfl, rfl⟩, rfl⟩
theorem fn65 (ps : List Sup) (p : Pt) (h : chkP ps = 0) (hp : okPt p = true) : Sy.Fn Try.prog 65 [aP ps, .agg (cPt p)] (iv (tipsF ps p)) := by
  refine Fn_of_W mixed Xt65 rfl ?_
  have hsp := tips_spec ps p
  repeat' (first | refine w1g ?_ | refine w1l ?_ | refine w1q ?_ | refine w1b ?_ | refine w1p ?_ | ((first | refine w1r ?_ | refine w1k ?_ | refine w1e ?_ | refine CallC.now (fn63 ps p h hp) ?_); (refine sy1 ?_; try exact True.intro)) | refine an2 ?_ | fail)
  refine W_loopU (fun k : Nat => [(7, iv k)]) (fun k => []) (fun k => k ≤ 3 ∧ ∀ j, j < k → 0 ≤ part ps p j) (fun k => 3 - k) 0 ⟨by omega, fun j hj => by omega⟩ (by rfl) (by rfl) (fun k hk => ?_)
  obtain ⟨hk, hno⟩ := hk
  (refine sy1 ?_; try exact True.intro)
  repeat' (first | refine w1g ?_ | refine w1l ?_ | refine w1q ?_ | refine w1b ?_ | refine w1p ?_ | ((first | refine w1r ?_ | refine w1k ?_ | refine w1e ?_); (refine sy1 ?_; try exact True.intro)) | refine an2 ?_ | fail)
  refine W_condD (by rfl) (fun h6 => ?_) (fun h6 => ?_)
  · have hk3 : k < 3 := by omega
    repeat' (first | refine w1g ?_ | refine w1l ?_ | refine w1q ?_ | refine w1b ?_ | refine w1p ?_ | ((first | refine w1r ?_ | refine w1k ?_ | refine w1e ?_); simp (maxSteps := 400000) (disch := omega) only [push_cast, ↓reduceIte, reduceCtorEq, Nat.reduceAdd, Nat.reduceSub, Nat.reduceEqDiff, Nat.reduceLeDiff, Nat.reduceLT, Nat.reduceBEq, Nat.reduceDiv, Nat.reduceMod, Nat.reducePow, Nat.reduceMul, Int.reduceToNat, Int.reduceLT, Int.reduceLE, Nat.mul_one]) | refine an2 ?_ | fail)
    refine W_condD (by rfl) (fun hn => ?_) (fun hn => ?_)
    · have e : tipsF ps p = k := by
        rcases hsp with ⟨_, q⟩ | ⟨g, q1, q2, q3, q4⟩
        · have := q k hk3; omega
        · rw [q2]
          by_cases a : g < k
          · have := hno g a; omega
          · by_cases b : k < g
            · have := q4 k b; omega
            · omega
      rw [e]
      repeat' (first | refine w1g ?_ | refine w1l ?_ | refine w1q ?_ | refine w1b ?_ | refine w1p ?_ | ((first | refine w1r ?_ | refine w1k ?_ | refine w1e ?_); (refine sy1 ?_; try exact True.intro)) | refine an2 ?_ | fail)
      exact W_ret ⟨[_], ⟨rfl, rfl⟩, rfl⟩
    · repeat' (first | refine w1g ?_ | refine w1l ?_ | refine w1q ?_ | refine w1b ?_ | refine w1p ?_ | ((first | refine w1r ?_ | refine w1k ?_ | refine w1e ?_); (refine sy1 ?_; try exact True.intro)) | refine an2 ?_ | fail)
      refine ⟨k + 1, ⟨by omega, up_all hno (by omega)⟩, by omega, by rfl, ?_⟩
      (refine syE ?_; try exact True.intro)
  · obtain rfl : k = 3 := by omega
    have e : tipsF ps p = -1 := by
      rcases hsp with ⟨q, _⟩ | ⟨g, q1, q2, q3, q4⟩
      · exact q
      · have := hno g q1; omega
    rw [e]
    repeat' (first | refine w1g ?_ | refine w1l ?_ | refine w1q ?_ | refine w1b ?_ | refine w1p ?_ | ((first | refine w1r ?_ | refine w1k ?_ | refine w1e ?_); (refine sy1 ?_; try exact True.intro)) | refine an2 ?_ | fail)
    exact W_ret ⟨[_], ⟨rfl, rfl⟩, rfl⟩
theorem fn98 (ps : List Sup) (m : Int) (p : Pt) (h : chkP ps = 0) (hp : okPt p = true) (hm : okMass m = true) (ht : ¬ 0 ≤ tipsF ps p) : Sy.Fn Try.prog 98 [aP ps, iv m, .agg (cPt p)] (.agg (c3 (shareV ps m p))) := by
  refine Fn_of_W mixed Xt98 rfl ?_
  have hw := whole_B h
  have hn := tips_none ht
  have hle := part_le h hn
  have hm' := inR_iff.1 hm
  repeat' (first | refine w1g ?_ | refine w1l ?_ | refine w1q ?_ | refine w1b ?_ | refine w1p ?_ | ((first | refine w1r ?_ | refine w1k ?_ | refine w1e ?_ | refine CallC.now (fn63 ps p h hp) ?_); (refine sy1 ?_; try exact True.intro)) | refine an2 ?_ | fail)
  refine W_loopU (fun k : Nat => [(10, iv k)]) (fun k => [(11, .cells (c3 (upto (shareV ps m p) k)))]) (fun k => k ≤ 3) (fun k => 3 - k) 0 (by omega) (by rfl) (by rfl) (fun k hk => ?_)
  (refine sy1 ?_; try exact True.intro)
  repeat' (first | refine w1g ?_ | refine w1l ?_ | refine w1q ?_ | refine w1b ?_ | refine w1p ?_ | ((first | refine w1r ?_ | refine w1k ?_ | refine w1e ?_); (refine sy1 ?_; try exact True.intro)) | refine an2 ?_ | fail)
  refine W_condD (by rfl) (fun h6 => ?_) (fun h6 => ?_)
  · have hk3 : k < 3 := by omega
    have hset : List.take k (c3 (upto (shareV ps m p) k)) ++ [iv (cdiv (m * part ps p k) (whole ps))] ++ List.drop (k + 1) (c3 (upto (shareV ps m p) k)) = c3 (upto (shareV ps m p) (k + 1)) := set3 (shareV ps m p) k hk3
    have q0 := hn k hk3
    have q1 := hle k hk3
    have h3 : 0 ≤ m * part ps p k := Int.mul_nonneg (by omega) q0
    have h4 : m * part ps p k ≤ 16777216 * whole ps := mulP q0 hm'.2 q1 (by omega)
    have h5 : -(m * part ps p k) / whole ps < 1 := by rw [Int.ediv_lt_iff_lt_mul hw.1]; omega
    have h6' : -16777216 ≤ -(m * part ps p k) / whole ps := by rw [Int.le_ediv_iff_mul_le hw.1]; omega
    have c81 := fn81 m (part ps p k) (whole ps) (by omega) (by omega) (by omega) (by omega)
    repeat' (first | refine w1g ?_ | refine w1l ?_ | refine w1q ?_ | refine w1b ?_ | refine w1p ?_ | ((first | refine w1r ?_ | refine w1k ?_ | refine w1e ?_ | refine CallC.now (c81) ?_); simp (maxSteps := 400000) (disch := omega) only [push_cast, ↓reduceIte, reduceCtorEq, Nat.reduceAdd, Nat.reduceSub, Nat.reduceEqDiff, Nat.reduceLeDiff, Nat.reduceLT, Nat.reduceBEq, Nat.reduceDiv, Nat.reduceMod, Nat.reducePow, Nat.reduceMul, Int.reduceToNat, Int.reduceLT, Int.reduceLE, hset, Nat.mul_one]) | refine an2 ?_ | fail)
    refine ⟨k + 1, by omega, by omega, by rfl, ?_⟩
    (refine syE ?_; try exact True.intro)
  · obtain rfl : k = 3 := by omega
    repeat' (first | refine w1g ?_ | refine w1l ?_ | refine w1q ?_ | refine w1b ?_ | refine w1p ?_ | ((first | refine w1r ?_ | refine w1k ?_ | refine w1e ?_); simp (maxSteps := 400000) (disch := omega) only [push_cast, ↓reduceIte, reduceCtorEq, Nat.reduceAdd, Nat.reduceSub, Nat.reduceEqDiff, Nat.reduceLeDiff, Nat.reduceLT, Nat.reduceBEq, Nat.reduceDiv, Nat.reduceMod, Nat.reducePow, Nat.reduceMul, Int.reduceToNat, Int.reduceLT, Int.reduceLE, upto3]) | refine an2 ?_ | fail)
    exact W_ret ⟨[_], ⟨⟨by simp [len3], rfl⟩, rfl⟩, rfl⟩
theorem fn64 (ps : List Sup) (m : Int) (p : Pt) (h : chkP ps = 0) : Sy.Fn Try.prog 64 [aP ps, iv m, .agg (cPt p)] (.tup [.agg (c3 (sharesV ps m p)), iv (sharesE ps m p)]) := by
  refine Fn_of_W mixed Xt64 rfl ?_
  obtain ⟨hl, hok, hdet⟩ := chkP_ok h
  unfold sharesV
  repeat' (first | refine w1g ?_ | refine w1l ?_ | refine w1q ?_ | refine w1b ?_ | refine w1p ?_ | ((first | refine w1r ?_ | refine w1k ?_ | refine w1e ?_ | refine CallC.now (fn75 m) ?_ | refine CallC.go _ (fun _ => ⟨trivial, fn62 p⟩) rfl ?_); (refine sy1 ?_; try exact True.intro)) | refine an2 ?_ | fail)
  have key : ((if okMass m = true then (0 : Int) else 3) != 0 || (if okPt p = true then (0 : Int) else 3) != 0) = (!okMass m || !okPt p) := by
    cases okMass m <;> cases okPt p <;> rfl
  rw [key]
  refine W_cond (by rfl) (fun h1 => ?_) (fun h1 => ?_)
  · have e : sharesE ps m p = 3 := by unfold sharesE; rw [if_pos h1]
    rw [e, if_neg (by decide)]
    repeat' (first | refine w1g ?_ | refine w1l ?_ | refine w1q ?_ | refine w1b ?_ | refine w1p ?_ | ((first | refine w1r ?_ | refine w1k ?_ | refine w1e ?_); (refine sy1 ?_; try exact True.intro)) | refine an2 ?_ | fail)
    exact W_ret ⟨[_, _], ⟨⟨by simp, rfl⟩, rfl, rfl⟩, rfl⟩
  have h1' : okMass m = true ∧ okPt p = true := by simpa using h1
  obtain ⟨hm, hp⟩ := h1'
  repeat' (first | refine w1g ?_ | refine w1l ?_ | refine w1q ?_ | refine w1b ?_ | refine w1p ?_ | ((first | refine w1r ?_ | refine w1k ?_ | refine w1e ?_ | refine CallC.now (fn65 ps p h hp) ?_); (refine sy1 ?_; try exact True.intro)) | refine an2 ?_ | fail)
  refine W_condD (by rfl) (fun h2 => ?_) (fun h2 => ?_)
  · have e : sharesE ps m p = 19 := by unfold sharesE; rw [if_neg (by rw [h1]; decide), if_pos h2]
    rw [e, if_neg (by decide)]
    repeat' (first | refine w1g ?_ | refine w1l ?_ | refine w1q ?_ | refine w1b ?_ | refine w1p ?_ | ((first | refine w1r ?_ | refine w1k ?_ | refine w1e ?_); (refine sy1 ?_; try exact True.intro)) | refine an2 ?_ | fail)
    exact W_ret ⟨[_, _], ⟨⟨by simp, rfl⟩, rfl, rfl⟩, rfl⟩
  have hE : sharesE ps m p = if (ps.any fun s => decide (s.limit < cdiv (m * part ps p s.g.toNat) (whole ps))) = true then 14 else 0 := by
    unfold sharesE; rw [if_neg (by rw [h1]; decide), if_neg h2]
  repeat' (first | refine w1g ?_ | refine w1l ?_ | refine w1q ?_ | refine w1b ?_ | refine w1p ?_ | ((first | refine w1r ?_ | refine w1k ?_ | refine w1e ?_ | refine CallC.now (fn98 ps m p h hp hm h2) ?_); (refine sy1 ?_; try exact True.intro)) | refine an2 ?_ | fail)
  refine W_loopU (fun i : Nat => [(9, iv i)]) (fun i => []) (fun i => i ≤ ps.length ∧ ∀ j, j < i → decide ((sp ps j).limit < cdiv (m * part ps p (sp ps j).g.toNat) (whole ps)) = false) (fun i => ps.length - i) 0 ⟨by omega, fun j hj => by omega⟩ (by rfl) (by rfl) (fun i hi => ?_)
  obtain ⟨hi, hno⟩ := hi
  (refine sy1 ?_; try exact True.intro)
  repeat' (first | refine w1g ?_ | refine w1l ?_ | refine w1q ?_ | refine w1b ?_ | refine w1p ?_ | ((first | refine w1r ?_ | refine w1k ?_ | refine w1e ?_); (refine sy1 ?_; try exact True.intro)) | refine an2 ?_ | fail)
  refine W_condD (by rfl) (fun h7 => ?_) (fun h7 => ?_)
  · have hlt : i < ps.length := by omega
    have hsp : ps.getD i dS = sp ps i := rfl
    have hsg := supB_iff.1 (hok i hlt)
    obtain ⟨g, hg⟩ : ∃ g : Nat, (sp ps i).g = g := ⟨(sp ps i).g.toNat, by omega⟩
    have hgn : (sp ps i).g.toNat = g := by omega
    have hg3 : g < 3 := by omega
    repeat' (first | refine w1g ?_ | refine w1l ?_ | refine w1q ?_ | refine w1b ?_ | refine w1p ?_ | ((first | refine w1r ?_ | refine w1k ?_ | refine w1e ?_); simp (maxSteps := 400000) (disch := omega) only [push_cast, ↓reduceIte, reduceCtorEq, Nat.reduceAdd, Nat.reduceSub, Nat.reduceEqDiff, Nat.reduceLeDiff, Nat.reduceLT, Nat.reduceBEq, Nat.reduceDiv, Nat.reduceMod, Nat.reducePow, Nat.reduceMul, Int.reduceToNat, Int.reduceLT, Int.reduceLE, hsp, hg, Nat.mul_one]) | refine an2 ?_ | fail)
    refine W_condD (by rfl) (fun h8 => ?_) (fun h8 => ?_)
    · have e : sharesE ps m p = 14 := by
        rw [hE, any_get hlt (by rw [hgn]; exact decide_eq_true h8)]; rfl
      rw [e, if_neg (by decide)]
      repeat' (first | refine w1g ?_ | refine w1l ?_ | refine w1q ?_ | refine w1b ?_ | refine w1p ?_ | ((first | refine w1r ?_ | refine w1k ?_ | refine w1e ?_); (refine sy1 ?_; try exact True.intro)) | refine an2 ?_ | fail)
      exact W_ret ⟨[_, _], ⟨⟨by simp, rfl⟩, rfl, rfl⟩, rfl⟩
    · repeat' (first | refine w1g ?_ | refine w1l ?_ | refine w1q ?_ | refine w1b ?_ | refine w1p ?_ | ((first | refine w1r ?_ | refine w1k ?_ | refine w1e ?_); (refine sy1 ?_; try exact True.intro)) | refine an2 ?_ | fail)
      refine ⟨i + 1, ⟨by omega, up_all hno (by rw [hgn]; exact decide_eq_false h8)⟩, by omega, by rfl, ?_⟩
      (refine syE ?_; try exact True.intro)
  · repeat' (first | refine w1g ?_ | refine w1l ?_ | refine w1q ?_ | refine w1b ?_ | refine w1p ?_ | ((first | refine w1r ?_ | refine w1k ?_ | refine w1e ?_); (refine sy1 ?_; try exact True.intro)) | refine an2 ?_ | fail)
    have e : sharesE ps m p = 0 := by rw [hE, any_none (fun j hj => hno j (by omega))]; rfl
    rw [e, if_pos rfl]
    exact W_ret ⟨[_, _], ⟨⟨by simp [len3], rfl⟩, rfl, rfl⟩, rfl⟩
theorem eq9 (f : Nat → Int) : eqL 87381 (c9 f) (c9 f) = some true := by
  simp [c9, eqL]
theorem eq33 (f : Nat → Int) : eqL 21 (c3 f) (c3 f) = some true := by
  simp [c3, eqL]
attribute [push_cast] eq9 eq33
end Go.Proofs.Ytfkjdjlcaojedaa

namespace Go.Proofs.Ytfkjdjlcaojedaa
open Go Sy
set_option maxRecDepth 100000
set_option maxHeartbeats 4000000
set_option linter.unusedVariables false
set_option linter.unusedSimpArgs false
def okH (h : Int) : Bool := inR h (-16384) 16384
def okF (f : Int) : Bool := inR f 0 196608
noncomputable def gE (ps : List Sup) (fl : Nat → Int) (gr : List Int) : Int :=
  if chkP ps = 0 then (if gr.length = ps.length then (if gr.any (fun h => !okH h) = true then 3 else if (okF (fl 0) && okF (fl 1) && okF (fl 2)) = true then 0 else 3) else 17) else chkP ps
def gS (ps : List Sup) (fl : Nat → Int) (gr : List Int) : Nat → Nat → Int
  | 0, j => fl j
  | n + 1, j => gS ps fl gr n j + if j = (sp ps n).g.toNat then gr.getD n 0 else 0
structure GOK (ps : List Sup) (fl : Nat → Int) (gr : List Int) : Prop where
  ch : chkP ps = 0
  len : gr.length = ps.length
  hh : ∀ i, i < gr.length → okH (gr.getD i 0) = true
  ff : ∀ j, j < 3 → okF (fl j) = true
def beyB (ps : List Sup) (p : Pt) (g : Nat) : Bool := decide (whole ps < (max (part ps p g) (0 - part ps p g) + 1023) / 1024)
def beyA (ps : List Sup) (p : Pt) : Bool := beyB ps p 0 || beyB ps p 1 || beyB ps p 2
def htS (h : Nat → Int) (ps : List Sup) (p : Pt) : Nat → Int
  | 0 => 0
  | n + 1 => htS h ps p n + h n * part ps p n / whole ps
structure HB (h : Nat → Int) : Prop where
  b : ∀ j, j < 3 → -1048576 ≤ h j ∧ h j ≤ 1048576
noncomputable def hE (ps : List Sup) (fl : Nat → Int) (gr : List Int) (p : Pt) : Int := if gE ps fl gr = 0 then (if okPt p = true then (if beyA ps p = true then 4 else 0) else 3) else gE ps fl gr
noncomputable def hV (ps : List Sup) (fl : Nat → Int) (gr : List Int) (p : Pt) : Int := if gE ps fl gr = 0 ∧ okPt p = true ∧ beyA ps p = false then htS (gS ps fl gr ps.length) ps p 3 else 0
end Go.Proofs.Ytfkjdjlcaojedaa

namespace Go.Proofs.Ytfkjdjlcaojedaa
open Go Sy
set_option maxRecDepth 100000
set_option maxHeartbeats 4000000
set_option linter.unusedVariables false
set_option linter.unusedSimpArgs false
structure Ctr where
  x : Int
  y : Int
  z : Int
abbrev cCt (c : Ctr) : List AV := [iv c.x, iv c.y, iv c.z]
def okX (x : Int) : Bool := inR x (-131072) 131072
def okC (c : Ctr) : Bool := okX c.x && (okX c.y && okX c.z)
def okSl (s : Pt) : Bool := inR s.x (-1000) 1000 && inR s.y (-1000) 1000
theorem fn100 (x : Int) : Sy.Fn Try.prog 100 [iv x] (bv (!okX x)) := by
  refine Fn_of_W mixed Xt100 rfl ?_
  repeat' (first | refine w1g ?_ | refine w1l ?_ | refine w1q ?_ | refine w1b ?_ | refine w1p ?_ | ((first | refine w1r ?_ | refine w1k ?_ | refine w1e ?_ | refine CallC.now (fn53 _ _ _) ?_); (refine sy1 ?_; try exact True.intro)) | refine an2 ?_ | fail)
  exact W_ret ⟨[_], ⟨rfl, rfl⟩, rfl⟩
theorem fn68 (c : Ctr) : Sy.Fn Try.prog 68 [.agg (cCt c)] (bv (okC c)) := by
  refine Fn_of_W mixed Xt68 rfl ?_
  have c99 := fn99 [c.x, c.y, c.z] (Nat.le_of_ble_eq_true rfl) 100 [] [] (fun x => !okX x) (fun x _ => fn100 x)
  refine W_seq (W_regL ?_)
  (refine sy1 ?_; try exact True.intro)
  refine W_seq (W_regL ?_)
  (refine sy1 ?_; try exact True.intro)
  refine ⟨Int, 0, cI, [c.x, c.y, c.z], fun _ => ⟨by simp, rfl, by omega, fun x _ => rfl, rfl⟩, ?_⟩
  (refine sy1 ?_; try exact True.intro)
  refine CallC.now c99 ?_
  (refine sy1 ?_; try exact True.intro)
  have e : (!(!okX c.x || (!okX c.y || !okX c.z))) = okC c := by
    simp only [okC, Bool.not_or, Bool.not_not]
  rw [e]
  exact W_ret ⟨[_], ⟨rfl, rfl⟩, rfl⟩
theorem fn69 (s : Pt) : Sy.Fn Try.prog 69 [.agg (cPt s)] (bv (okSl s)) := by
  refine Fn_of_W mixed Xt69 rfl ?_
  repeat' (first | refine w1g ?_ | refine w1l ?_ | refine w1q ?_ | refine w1b ?_ | refine w1p ?_ | ((first | refine w1r ?_ | refine w1k ?_ | refine w1e ?_ | refine CallC.now (fn53 _ _ _) ?_ | refine CallC.go _ (fun _ => ⟨trivial, fn53 _ _ _⟩) rfl ?_); (refine sy1 ?_; try exact True.intro)) | refine an2 ?_ | fail)
  exact W_ret ⟨[_], ⟨rfl, rfl⟩, rfl⟩
theorem fn71 (c : Ctr) : Sy.Fn Try.prog 71 [.agg (cCt c)] (iv (if okC c = true then 0 else 3)) := by
  refine Fn_of_W mixed Xt71 rfl ?_
  let f : Nat → Int := fun | 0 => c.x | 1 => c.y | _ => c.z
  have hc : [iv c.x, iv c.y, iv c.z] = c3 f := rfl
  have hok : okC c = true ↔ ∀ j, j < 3 → okX (f j) = true := by
    unfold okC
    rw [Bool.and_eq_true, Bool.and_eq_true]
    constructor
    · rintro ⟨a, b, d⟩ j hj
      rcases (show j = 0 ∨ j = 1 ∨ j = 2 by omega) with rfl | rfl | rfl
      · exact a
      · exact b
      · exact d
    · intro h; exact ⟨h 0 (by omega), h 1 (by omega), h 2 (by omega)⟩
  unfold cCt
  rw [hc]
  generalize f = f at *
  repeat' (first | refine w1g ?_ | refine w1l ?_ | refine w1q ?_ | refine w1b ?_ | refine w1p ?_ | ((first | refine w1r ?_ | refine w1k ?_ | refine w1e ?_); (refine sy1 ?_; try exact True.intro)) | refine an2 ?_ | fail)
  refine W_loopU (fun k : Nat => [(3, iv k)]) (fun k => []) (fun k => k ≤ 3 ∧ ∀ j, j < k → okX (f j) = true) (fun k => 3 - k) 0 ⟨by omega, fun j hj => by omega⟩ (by rfl) (by rfl) (fun k hk => ?_)
  obtain ⟨hk, hall⟩ := hk
  (refine sy1 ?_; try exact True.intro)
  repeat' (first | refine w1g ?_ | refine w1l ?_ | refine w1q ?_ | refine w1b ?_ | refine w1p ?_ | ((first | refine w1r ?_ | refine w1k ?_ | refine w1e ?_); (refine sy1 ?_; try exact True.intro)) | refine an2 ?_ | fail)
  refine W_condD (by rfl) (fun h6 => ?_) (fun h6 => ?_)
  · have hk3 : k < 3 := by omega
    repeat' (first | refine w1g ?_ | refine w1l ?_ | refine w1q ?_ | refine w1b ?_ | refine w1p ?_ | ((first | refine w1r ?_ | refine w1k ?_ | refine w1e ?_ | refine CallC.now (fn74 _ _ _) ?_); simp (maxSteps := 400000) (disch := omega) only [push_cast, ↓reduceIte, reduceCtorEq, Nat.reduceAdd, Nat.reduceSub, Nat.reduceEqDiff, Nat.reduceLeDiff, Nat.reduceLT, Nat.reduceBEq, Nat.reduceDiv, Nat.reduceMod, Nat.reducePow, Nat.reduceMul, Int.reduceToNat, Int.reduceLT, Int.reduceLE, Nat.mul_one]) | refine an2 ?_ | fail)
    refine W_cond (by rfl) (fun hb => ?_) (fun hb => ?_)
    · have hb : okX (f k) = false := by unfold okX; simpa using hb
      have : ¬ okC c = true := fun q => by rw [hok.1 q k hk3] at hb; cases hb
      rw [if_neg this]
      repeat' (first | refine w1g ?_ | refine w1l ?_ | refine w1q ?_ | refine w1b ?_ | refine w1p ?_ | ((first | refine w1r ?_ | refine w1k ?_ | refine w1e ?_); (refine sy1 ?_; try exact True.intro)) | refine an2 ?_ | fail)
      exact W_ret ⟨[_], ⟨rfl, rfl⟩, rfl⟩
    · repeat' (first | refine w1g ?_ | refine w1l ?_ | refine w1q ?_ | refine w1b ?_ | refine w1p ?_ | ((first | refine w1r ?_ | refine w1k ?_ | refine w1e ?_); (refine sy1 ?_; try exact True.intro)) | refine an2 ?_ | fail)
      refine ⟨k + 1, ⟨by omega, up_all hall (by unfold okX; simpa using hb)⟩, by omega, by rfl, ?_⟩
      (refine syE ?_; try exact True.intro)
  · rw [if_pos (hok.2 (fun j hj => hall j (by omega)))]
    repeat' (first | refine w1g ?_ | refine w1l ?_ | refine w1q ?_ | refine w1b ?_ | refine w1p ?_ | ((first | refine w1r ?_ | refine w1k ?_ | refine w1e ?_); (refine sy1 ?_; try exact True.intro)) | refine an2 ?_ | fail)
    exact W_ret ⟨[_], ⟨rfl, rfl⟩, rfl⟩
theorem fn72 (s : Pt) : Sy.Fn Try.prog 72 [.agg (cPt s)] (iv (if okSl s = true then 0 else 3)) := by
  refine Fn_of_W mixed Xt72 rfl ?_
  repeat' (first | refine w1g ?_ | refine w1l ?_ | refine w1q ?_ | refine w1b ?_ | refine w1p ?_ | ((first | refine w1r ?_ | refine w1k ?_ | refine w1e ?_ | refine CallC.now (fn74 _ _ _) ?_ | refine CallC.go _ (fun _ => ⟨trivial, fn74 _ _ _⟩) rfl ?_); (refine sy1 ?_; try exact True.intro)) | refine an2 ?_ | fail)
  have key : (!inR s.x (-1000) 1000 || !inR s.y (-1000) 1000) = !okSl s := by unfold okSl; rw [Bool.not_and]
  rw [key]
  refine W_cond (by rfl) (fun h => ?_) (fun h => ?_)
  · have h1 : ¬ okSl s = true := by simpa using h
    rw [if_neg h1]
    repeat' (first | refine w1g ?_ | refine w1l ?_ | refine w1q ?_ | refine w1b ?_ | refine w1p ?_ | ((first | refine w1r ?_ | refine w1k ?_ | refine w1e ?_); (refine sy1 ?_; try exact True.intro)) | refine an2 ?_ | fail)
    exact W_ret ⟨[_], ⟨rfl, rfl⟩, rfl⟩
  · have h1 : okSl s = true := by simpa using h
    rw [if_pos h1]
    repeat' (first | refine w1g ?_ | refine w1l ?_ | refine w1q ?_ | refine w1b ?_ | refine w1p ?_ | ((first | refine w1r ?_ | refine w1k ?_ | refine w1e ?_); (refine sy1 ?_; try exact True.intro)) | refine an2 ?_ | fail)
    exact W_ret ⟨[_], ⟨rfl, rfl⟩, rfl⟩
def near (n d : Int) : Int := (2 * n + d) / (2 * d)
theorem near_B {n d A : Int} (hd : 0 < d) (h : -(A * d) ≤ n ∧ n ≤ A * d) : -A ≤ near n d ∧ near n d ≤ A := by
  unfold near
  have h1 : -A ≤ (2 * n + d) / (2 * d) := by rw [Int.le_ediv_iff_mul_le (by omega), Int.neg_mul, show A * (2 * d) = 2 * (A * d) by grind]; omega
  have h2 : (2 * n + d) / (2 * d) < A + 1 := by rw [Int.ediv_lt_iff_lt_mul (by omega), Int.add_mul, show A * (2 * d) = 2 * (A * d) by grind]; omega
  omega
theorem fn70 (n d : Int) (hn : -1152921504606846976 ≤ n ∧ n ≤ 1152921504606846976) (hd : 0 < d ∧ d ≤ 1152921504606846976) : Sy.Fn Try.prog 70 [iv n, iv d] (iv (near n d)) := by
  refine Fn_of_W mixed Xt70 rfl ?_
  have e1 := wrap_i64_tdiv (2 * n + d) (2 * d) (by omega) (by omega) (by omega)
  have e2 := floor_eq (a := 2 * n + d) (b := 2 * d) (by omega)
  have e3 := Int.tdiv_mul_add_tmod (2 * n + d) (2 * d)
  have hb : -4611686018427387904 ≤ (2 * n + d).tdiv (2 * d) ∧ (2 * n + d).tdiv (2 * d) ≤ 4611686018427387904 := by
    have l1 : (2 * n + d).tmod (2 * d) < 2 * d := Int.tmod_lt_of_pos _ (by omega)
    have l2 : -(2 * d) < (2 * n + d).tmod (2 * d) := by
      have := Int.tmod_lt_of_pos (-(2 * n + d)) (show 0 < 2 * d by omega)
      rw [Int.neg_tmod] at this
      omega
    generalize (2 * n + d).tdiv (2 * d) = q at *
    constructor
    · by_cases h : -4611686018427387904 ≤ q
      · exact h
      · have := Int.mul_le_mul_of_nonneg_right (show q ≤ -4611686018427387905 by omega) (show 0 ≤ 2 * d by omega); omega
    · by_cases h : q ≤ 4611686018427387904
      · exact h
      · have := Int.mul_le_mul_of_nonneg_right (show 4611686018427387905 ≤ q by omega) (show 0 ≤ 2 * d by omega); omega
  unfold near
  repeat' (first | refine w1g ?_ | refine w1l ?_ | refine w1q ?_ | refine w1b ?_ | refine w1p ?_ | ((first | refine w1r ?_ | refine w1k ?_ | refine w1e ?_); simp (maxSteps := 400000) (disch := omega) only [push_cast, ↓reduceIte, reduceCtorEq, Nat.reduceAdd, Nat.reduceSub, Nat.reduceEqDiff, Nat.reduceLeDiff, Nat.reduceLT, Nat.reduceBEq, Nat.reduceDiv, Nat.reduceMod, Nat.reducePow, Nat.reduceMul, Int.reduceToNat, Int.reduceLT, Int.reduceLE, e1]) | refine an2 ?_ | fail)
  refine W_condD (by rfl) (fun h => ?_) (fun h => ?_)
  · rw [if_pos h] at e2
    repeat' (first | refine w1g ?_ | refine w1l ?_ | refine w1q ?_ | refine w1b ?_ | refine w1p ?_ | ((first | refine w1r ?_ | refine w1k ?_ | refine w1e ?_); (refine sy1 ?_; try exact True.intro)) | refine an2 ?_ | fail)
    exact W_ret ⟨[_], ⟨rfl, rfl⟩, by rw [e2]; rfl⟩
  · rw [if_neg h] at e2
    repeat' (first | refine w1g ?_ | refine w1l ?_ | refine w1q ?_ | refine w1b ?_ | refine w1p ?_ | ((first | refine w1r ?_ | refine w1k ?_ | refine w1e ?_); (refine sy1 ?_; try exact True.intro)) | refine an2 ?_ | fail)
    exact W_ret ⟨[_], ⟨rfl, rfl⟩, by rw [e2]; rfl⟩
theorem fn73 (n d : Int) (hn : -1152921504606846976 ≤ n ∧ n ≤ 1152921504606846976) (hd : 0 < d ∧ d ≤ 1152921504606846976) : Sy.Fn Try.prog 73 [iv n, iv d] (iv (near n d)) := by
  refine Fn_of_W mixed Xt73 rfl ?_
  have c := fn101 (2 * n + d) (2 * d) (by omega) (by omega)
  unfold near
  repeat' (first | refine w1g ?_ | refine w1l ?_ | refine w1q ?_ | refine w1b ?_ | refine w1p ?_ | ((first | refine w1r ?_ | refine w1k ?_ | refine w1e ?_ | refine CallC.now (c) ?_); (refine sy1 ?_; try exact True.intro)) | refine an2 ?_ | fail)
  exact W_ret ⟨[_], ⟨rfl, rfl⟩, rfl⟩
def footE (c : Ctr) (s a : Pt) : Int := if (!okC c || !okSl s || !okSl a) = true then 3 else 0
def footF (c : Ctr) (s a : Pt) : Pt := ⟨c.x + near (c.z * (s.x + a.x)) 1000, c.y + near (c.z * (s.y + a.y)) 1000⟩
def footP (c : Ctr) (s a : Pt) : Pt := if footE c s a = 0 then footF c s a else ⟨0, 0⟩
theorem footE_ok {c : Ctr} {s a : Pt} (h : footE c s a = 0) : okC c = true ∧ okSl s = true ∧ okSl a = true := by
  unfold footE at h
  split at h
  · omega
  · rename_i h1
    simp only [Bool.or_eq_true, Bool.not_eq_true', not_or, Bool.not_eq_false] at h1
    exact ⟨h1.1.1, h1.1.2, h1.2⟩
theorem okC_iff {c : Ctr} : okC c = true ↔ (-131072 ≤ c.x ∧ c.x ≤ 131072) ∧ (-131072 ≤ c.y ∧ c.y ≤ 131072) ∧ -131072 ≤ c.z ∧ c.z ≤ 131072 := by
  simp only [okC, okX, Bool.and_eq_true, inR_iff]
theorem okSl_iff {s : Pt} : okSl s = true ↔ (-1000 ≤ s.x ∧ s.x ≤ 1000) ∧ -1000 ≤ s.y ∧ s.y ≤ 1000 := by
  simp only [okSl, Bool.and_eq_true, inR_iff]
theorem foot_parts {c : Ctr} {s a : Pt} (h : footE c s a = 0) : ((-262144000 ≤ c.z * (s.x + a.x) ∧ c.z * (s.x + a.x) ≤ 262144000) ∧ (-262144000 ≤ c.z * (s.y + a.y) ∧ c.z * (s.y + a.y) ≤ 262144000)) ∧
    (-262144 ≤ near (c.z * (s.x + a.x)) 1000 ∧ near (c.z * (s.x + a.x)) 1000 ≤ 262144) ∧ (-262144 ≤ near (c.z * (s.y + a.y)) 1000 ∧ near (c.z * (s.y + a.y)) 1000 ≤ 262144) := by
  obtain ⟨h1, h2, h3⟩ := footE_ok h
  have h1 := okC_iff.1 h1
  have h2 := okSl_iff.1 h2
  have h3 := okSl_iff.1 h3
  have m1 := mulB (C := 262144000) (A := 131072) (B := 2000) h1.2.2 (show -2000 ≤ s.x + a.x ∧ s.x + a.x ≤ 2000 by omega) (by decide)
  have m2 := mulB (C := 262144000) (A := 131072) (B := 2000) h1.2.2 (show -2000 ≤ s.y + a.y ∧ s.y + a.y ≤ 2000 by omega) (by decide)
  exact ⟨⟨m1, m2⟩, near_B (by omega) (by omega), near_B (by omega) (by omega)⟩
theorem fn29 (c : Ctr) (s a : Pt) : Sy.Fn Try.prog 29 [.agg (cCt c), .agg (cPt s), .agg (cPt a)] (.tup [.agg (cPt (footP c s a)), iv (footE c s a)]) := by
  refine Fn_of_W mixed Xt29 rfl ?_
  unfold footP
  repeat' (first | refine w1g ?_ | refine w1l ?_ | refine w1q ?_ | refine w1b ?_ | refine w1p ?_ | ((first | refine w1r ?_ | refine w1k ?_ | refine w1e ?_ | refine CallC.now (fn68 c) ?_ | refine CallC.go _ (fun _ => ⟨trivial, fn69 _⟩) rfl ?_); (refine sy1 ?_; try exact True.intro)) | refine an2 ?_ | fail)
  refine W_cond (by rfl) (fun h => ?_) (fun h => ?_)
  · have e : footE c s a = 3 := by unfold footE; rw [if_pos h]
    rw [e, if_neg (by decide)]
    repeat' (first | refine w1g ?_ | refine w1l ?_ | refine w1q ?_ | refine w1b ?_ | refine w1p ?_ | ((first | refine w1r ?_ | refine w1k ?_ | refine w1e ?_); (refine sy1 ?_; try exact True.intro)) | refine an2 ?_ | fail)
    exact W_ret ⟨[_, _], ⟨⟨by simp, rfl⟩, rfl, rfl⟩, rfl⟩
  have e : footE c s a = 0 := by unfold footE; rw [if_neg (by rw [h]; decide)]
  obtain ⟨⟨m1, m2⟩, n1, n2⟩ := foot_parts e
  obtain ⟨h1, h2, h3⟩ := footE_ok e
  have h1 := okC_iff.1 h1
  have h2 := okSl_iff.1 h2
  have h3 := okSl_iff.1 h3
  have c1 := fn70 (c.z * (s.x + a.x)) 1000 (by omega) (by omega)
  have c2 := fn70 (c.z * (s.y + a.y)) 1000 (by omega) (by omega)
  rw [e, if_pos rfl]
  unfold footF
  repeat' (first | refine w1g ?_ | refine w1l ?_ | refine w1q ?_ | refine w1b ?_ | refine w1p ?_ | ((first | refine w1r ?_ | refine w1k ?_ | refine w1e ?_ | refine CallC.now (c1) ?_ | refine CallC.now (c2) ?_); (refine sy1 ?_; try exact True.intro)) | refine an2 ?_ | fail)
  exact W_ret ⟨[_, _], ⟨⟨by simp, rfl⟩, rfl, rfl⟩, rfl⟩
theorem fn30 (c : Ctr) (s a : Pt) : Sy.Fn Try.prog 30 [.agg (cCt c), .agg (cPt s), .agg (cPt a)] (.tup [.agg (cPt (footP c s a)), iv (footE c s a)]) := by
  refine Fn_of_W mixed Xt30 rfl ?_
  unfold footP
  repeat' (first | refine w1g ?_ | refine w1l ?_ | refine w1q ?_ | refine w1b ?_ | refine w1p ?_ | ((first | refine w1r ?_ | refine w1k ?_ | refine w1e ?_ | refine CallC.now (fn71 c) ?_ | refine CallC.go _ (fun _ => ⟨trivial, fn72 _⟩) rfl ?_); simp (maxSteps := 400000) (disch := omega) only [push_cast, ↓reduceIte, reduceCtorEq, Nat.reduceAdd, Nat.reduceSub, Nat.reduceEqDiff, Nat.reduceLeDiff, Nat.reduceLT, Nat.reduceBEq, Nat.reduceDiv, Nat.reduceMod, Nat.reducePow, Nat.reduceMul, Int.reduceToNat, Int.reduceLT, Int.reduceLE, err_not]) | refine an2 ?_ | fail)
  refine W_cond (by rfl) (fun h => ?_) (fun h => ?_)
  · have e : footE c s a = 3 := by unfold footE; rw [if_pos h]
    rw [e, if_neg (by decide)]
    repeat' (first | refine w1g ?_ | refine w1l ?_ | refine w1q ?_ | refine w1b ?_ | refine w1p ?_ | ((first | refine w1r ?_ | refine w1k ?_ | refine w1e ?_); (refine sy1 ?_; try exact True.intro)) | refine an2 ?_ | fail)
    exact W_ret ⟨[_, _], ⟨⟨by simp, rfl⟩, rfl, rfl⟩, rfl⟩
  have e : footE c s a = 0 := by unfold footE; rw [if_neg (by rw [h]; decide)]
  obtain ⟨⟨m1, m2⟩, n1, n2⟩ := foot_parts e
  obtain ⟨h1, h2, h3⟩ := footE_ok e
  have h1 := okC_iff.1 h1
  have h2 := okSl_iff.1 h2
  have h3 := okSl_iff.1 h3
  have c1 := fn73 (c.z * (s.x + a.x)) 1000 (by omega) (by omega)
  have c2 := fn73 (c.z * (s.y + a.y)) 1000 (by omega) (by omega)
  rw [e, if_pos rfl]
  unfold footF
  repeat' (first | refine w1g ?_ | refine w1l ?_ | refine w1q ?_ | refine w1b ?_ | refine w1p ?_ | ((first | refine w1r ?_ | refine w1k ?_ | refine w1e ?_ | refine CallC.now (c1) ?_ | refine CallC.now (c2) ?_); (refine sy1 ?_; try exact True.intro)) | refine an2 ?_ | fail)
  exact W_ret ⟨[_, _], ⟨⟨by simp, rfl⟩, rfl, rfl⟩, rfl⟩
end Go.Proofs.Ytfkjdjlcaojedaa

namespace Go.Proofs.Ytfkjdjlcaojedaa
open Go Sy
set_option maxRecDepth 100000
set_option maxHeartbeats 4000000
set_option linter.unusedVariables false
set_option linter.unusedSimpArgs false
end Go.Proofs.Ytfkjdjlcaojedaa

namespace Go.Proofs.Ytfkjdjlcaojedaa
open Go Sy
set_option maxRecDepth 100000
set_option maxHeartbeats 4000000
set_option linter.unusedVariables false
set_option linter.unusedSimpArgs false
end Go.Proofs.Ytfkjdjlcaojedaa

namespace Go.Proofs.Ytfkjdjlcaojedaa
open Go Sy
set_option maxRecDepth 100000
set_option linter.unusedVariables false
theorem b2 : Try.prog.bytesOf 2 = 8 := by kernel_rfl
end Go.Proofs.Ytfkjdjlcaojedaa

namespace Go.Proofs.Ytfkjdjlcaojedaa
open Go Sy
set_option maxRecDepth 100000
set_option linter.unusedVariables false
set_option linter.unusedSimpArgs false
abbrev byt (s : ByteArray) (i : Nat) : Nat := (s.get! i).toNat
def gC (c : Nat) : Bool := (decide (97 ≤ c) && decide (c ≤ 122)) || (decide (48 ≤ c) && decide (c ≤ 57))
theorem gC_lt {c : Nat} (h : gC c = true) : c < 128 := by
  unfold gC at h
  simp only [Bool.or_eq_true, Bool.and_eq_true, decide_eq_true_eq] at h
  omega
theorem dec_lt {s : ByteArray} {p : Nat} (h : byt s p < 128) : Utf8.decode s p = (byt s p, 1) := by
  unfold Utf8.decode
  simp only [Nat.add_zero]
  rw [if_pos h]
theorem dec_ge {s : ByteArray} {p : Nat} (h : 128 ≤ byt s p) : 128 ≤ (Utf8.decode s p).1 := by
  unfold Utf8.decode
  simp only [Nat.add_zero]
  rw [if_neg (by unfold byt at h; omega)]
  split
  · split
    · assumption
    · decide
  split
  · split
    · rename_i q; simp only [Bool.and_eq_true, decide_eq_true_eq, ge_iff_le] at q; omega
    · decide
  split
  · split
    · rename_i q; simp only [Bool.and_eq_true, decide_eq_true_eq, ge_iff_le] at q; omega
    · decide
  · decide
def goodB (s : ByteArray) : Bool := (List.range s.size).all fun i => gC (byt s i)
theorem good_iff {s : ByteArray} : goodB s = true ↔ ∀ i, i < s.size → gC (byt s i) = true := by
  unfold goodB
  rw [List.all_eq_true]
  exact ⟨fun h i hi => h i (by simpa using hi), fun h i hi => h i (by simpa using hi)⟩
def nameB (s : ByteArray) : Bool := decide (1 ≤ s.size) && (decide (s.size ≤ 20) && goodB s)
theorem dec_good (s : ByteArray) (p : Nat) : gC (Utf8.decode s p).1 = gC (byt s p) ∧ (gC (byt s p) = true → Utf8.decode s p = (byt s p, 1)) := by
  by_cases h : byt s p < 128
  · rw [dec_lt h]; exact ⟨rfl, fun _ => rfl⟩
  · have h1 := dec_ge (s := s) (p := p) (by omega)
    have e1 : gC (Utf8.decode s p).1 = false := by
      rw [← Bool.not_eq_true]; intro q; have := gC_lt q; omega
    have e2 : gC (byt s p) = false := by
      rw [← Bool.not_eq_true]; intro q; have := gC_lt q; omega
    rw [e1, e2]
    exact ⟨rfl, fun q => by cases q⟩
end Go.Proofs.Ytfkjdjlcaojedaa

namespace Go.Proofs.Ytfkjdjlcaojedaa
open Go Sy
set_option maxRecDepth 100000
set_option maxHeartbeats 4000000
set_option linter.unusedVariables false
set_option linter.unusedSimpArgs false
abbrev tx (s : ByteArray) : AV := .v (.string s)
structure Pce where
  x : Int
  y : Int
  z : Int
  l : Int
  w : Int
  h : Int
  m : Int
structure Eye where
  x : Int
  y : Int
  z : Int
  st : Int
structure Lod where
  name : ByteArray
  ps : List Pce
  es : List Eye
  fr : Int
def dPc : Pce := ⟨0, 0, 0, 0, 0, 0, 0⟩
def dEy : Eye := ⟨0, 0, 0, 0⟩
abbrev cPc (p : Pce) : List AV := [iv p.x, iv p.y, iv p.z, iv p.l, iv p.w, iv p.h, iv p.m]
abbrev cEy (e : Eye) : List AV := [iv e.x, iv e.y, iv e.z, iv e.st]
abbrev aPc (l : List Pce) : AV := .sl 7 dPc cPc l
abbrev aEy (l : List Eye) : AV := .sl 4 dEy cEy l
abbrev cLd (l : Lod) : List AV := [tx l.name, aPc l.ps, aEy l.es, iv l.fr]
def pceB (p : Pce) : Bool := inR p.x (-131072) 131072 && (decide (1 ≤ p.l) && decide (p.l ≤ 131072 - p.x)) && (inR p.y (-131072) 131072 && (decide (1 ≤ p.w) && decide (p.w ≤ 131072 - p.y))) && (inR p.z 0 131072 && (decide (1 ≤ p.h) && decide (p.h ≤ 131072 - p.z))) && inR p.m 0 16777216
def eyeB (e : Eye) : Bool := inR e.x (-131072) 131072 && inR e.y (-131072) 131072 && inR e.z 0 131072 && inR e.st 0 4194304
theorem fn132 (x lo hi : Int) : Sy.Fn Try.prog 132 [iv x, iv lo, iv hi] (bv (inR x lo hi)) := by
  refine Fn_of_W mixed Xt132 rfl ?_
  repeat' (first | refine w1g ?_ | refine w1l ?_ | refine w1q ?_ | refine w1b ?_ | refine w1p ?_ | ((first | refine w1r ?_ | refine w1k ?_ | refine w1e ?_); (refine sy1 ?_; try exact True.intro)) | refine an2 ?_ | fail)
  exact W_ret ⟨[_], ⟨rfl, rfl⟩, by unfold inR; rfl⟩
theorem fn139 (x lo hi : Int) : Sy.Fn Try.prog 139 [iv x, iv lo, iv hi] (bv (inR x lo hi)) := by
  refine Fn_of_W mixed Xt139 rfl ?_
  repeat' (first | refine w1g ?_ | refine w1l ?_ | refine w1q ?_ | refine w1b ?_ | refine w1p ?_ | ((first | refine w1r ?_ | refine w1k ?_ | refine w1e ?_); (refine sy1 ?_; try exact True.intro)) | refine an2 ?_ | fail)
  exact W_ret ⟨[_], ⟨rfl, rfl⟩, by unfold inR; rfl⟩
theorem fn134 (e : Eye) : Sy.Fn Try.prog 134 [.agg (cEy e)] (bv (eyeB e)) := by
  refine Fn_of_W mixed Xt134 rfl ?_
  repeat' (first | refine w1g ?_ | refine w1l ?_ | refine w1q ?_ | refine w1b ?_ | refine w1p ?_ | ((first | refine w1r ?_ | refine w1k ?_ | refine w1e ?_ | refine CallC.now (fn132 _ _ _) ?_ | refine CallC.go _ (fun _ => ⟨trivial, fn132 _ _ _⟩) rfl ?_); (refine sy1 ?_; try exact True.intro)) | refine an2 ?_ | fail)
  exact W_ret ⟨[_], ⟨rfl, rfl⟩, by unfold eyeB; rfl⟩
theorem fn137 (e : Eye) : Sy.Fn Try.prog 137 [.agg (cEy e)] (bv (eyeB e)) := by
  refine Fn_of_W mixed Xt137 rfl ?_
  repeat' (first | refine w1g ?_ | refine w1l ?_ | refine w1q ?_ | refine w1b ?_ | refine w1p ?_ | ((first | refine w1r ?_ | refine w1k ?_ | refine w1e ?_ | refine CallC.now (fn139 _ _ _) ?_ | refine CallC.go _ (fun _ => ⟨trivial, fn139 _ _ _⟩) rfl ?_); (refine sy1 ?_; try exact True.intro)) | refine an2 ?_ | fail)
  exact W_ret ⟨[_], ⟨rfl, rfl⟩, by unfold eyeB; rfl⟩
theorem fn136 (p : Pce) : Sy.Fn Try.prog 136 [.agg (cPc p)] (bv (pceB p)) := by
  refine Fn_of_W mixed Xt136 rfl ?_
  repeat' (first | refine w1g ?_ | refine w1l ?_ | refine w1q ?_ | refine w1b ?_ | refine w1p ?_ | ((first | refine w1r ?_ | refine w1k ?_ | refine w1e ?_ | refine CallC.now (fn139 _ _ _) ?_ | refine CallC.go _ (fun _ => ⟨trivial, fn139 _ _ _⟩) rfl ?_); (refine sy1 ?_; try exact True.intro)) | refine an2 ?_ | fail)
  have key : (inR p.x (-131072) 131072 && inR p.y (-131072) 131072 && inR p.z 0 131072 && decide (1 ≤ p.l) && decide (1 ≤ p.w) && decide (1 ≤ p.h) && decide (p.l ≤ IntKind.i64.wrap (131072 - p.x)) && decide (p.w ≤ IntKind.i64.wrap (131072 - p.y)) && decide (p.h ≤ IntKind.i64.wrap (131072 - p.z)) && inR p.m 0 16777216) = pceB p := by
    unfold pceB
    by_cases h1 : inR p.x (-131072) 131072 = true
    rotate_left
    · rw [Bool.not_eq_true] at h1; rw [h1]; rfl
    by_cases h2 : inR p.y (-131072) 131072 = true
    rotate_left
    · rw [Bool.not_eq_true] at h2; rw [h2]; simp
    by_cases h3 : inR p.z 0 131072 = true
    rotate_left
    · rw [Bool.not_eq_true] at h3; rw [h3]; simp
    have g1 := inR_iff.1 h1
    have g2 := inR_iff.1 h2
    have g3 := inR_iff.1 h3
    rw [wrap64 ⟨by omega, by omega⟩, wrap64 ⟨by omega, by omega⟩, wrap64 ⟨by omega, by omega⟩, h1, h2, h3]
    simp only [Bool.true_and]
    rw [Bool.eq_iff_iff]
    simp only [Bool.and_eq_true, decide_eq_true_eq]
    constructor
    · rintro ⟨⟨⟨⟨⟨⟨q1, q2⟩, q3⟩, q4⟩, q5⟩, q6⟩, q7⟩; exact ⟨⟨⟨⟨q1, q4⟩, q2, q5⟩, q3, q6⟩, q7⟩
    · rintro ⟨⟨⟨⟨q1, q4⟩, q2, q5⟩, q3, q6⟩, q7⟩; exact ⟨⟨⟨⟨⟨⟨q1, q2⟩, q3⟩, q4⟩, q5⟩, q6⟩, q7⟩
  rw [key]
  exact W_ret ⟨[_], ⟨rfl, rfl⟩, rfl⟩
theorem name_no {s : ByteArray} {p : Nat} (hp : p < s.size) (h : gC (byt s p) = false) : nameB s = false := by
  rw [← Bool.not_eq_true]
  intro q
  unfold nameB at q
  simp only [Bool.and_eq_true] at q
  rw [good_iff.1 q.2.2 p hp] at h
  cases h
theorem fn131 (s : ByteArray) : Sy.Fn Try.prog 131 [tx s] (bv (nameB s)) := by
  refine Fn_of_W mixed Xt131 rfl ?_
  repeat' (first | refine w1g ?_ | refine w1l ?_ | refine w1q ?_ | refine w1b ?_ | refine w1p ?_ | ((first | refine w1r ?_ | refine w1k ?_ | refine w1e ?_); (refine sy1 ?_; try exact True.intro)) | refine an2 ?_ | fail)
  refine W_cond (by rfl) (fun h => ?_) (fun h => ?_)
  · have e : nameB s = false := by
      rw [← Bool.not_eq_true]
      unfold nameB
      simp only [Bool.and_eq_true, decide_eq_true_eq, Bool.or_eq_true] at h ⊢
      omega
    rw [e]
    repeat' (first | refine w1g ?_ | refine w1l ?_ | refine w1q ?_ | refine w1b ?_ | refine w1p ?_ | ((first | refine w1r ?_ | refine w1k ?_ | refine w1e ?_); (refine sy1 ?_; try exact True.intro)) | refine an2 ?_ | fail)
    exact W_ret ⟨[_], ⟨rfl, rfl⟩, rfl⟩
  simp only [Bool.or_eq_false_iff, decide_eq_false_iff_not] at h
  refine W_skip ?_
  (refine sy1 ?_; try exact True.intro)
  repeat (first | refine WK_go ?_ | refine W_seqL ?_ | refine W_seq ?_ | refine W_block ?_)
  refine W_regX [1] ?_
  simp (maxSteps := 400000) (disch := omega) only [push_cast, ↓reduceIte, reduceCtorEq, Nat.reduceAdd, Nat.reduceSub, Nat.reduceEqDiff, Nat.reduceLeDiff, Nat.reduceLT, Nat.reduceBEq, Nat.reduceDiv, Nat.reduceMod, Nat.reducePow, Nat.reduceMul, Int.reduceToNat, Int.reduceLT, Int.reduceLE, chainX, SpM, List.take_succ_cons, List.take_zero, List.drop_succ_cons, List.drop_zero]
  refine ⟨[], rfl, rfl, s, rfl, fun b => ?_⟩
  (refine sy1 ?_; try exact True.intro)
  repeat' (first | refine w1g ?_ | refine w1l ?_ | refine w1q ?_ | refine w1b ?_ | refine w1p ?_ | ((first | refine w1r ?_ | refine w1k ?_ | refine w1e ?_); (refine sy1 ?_; try exact True.intro)) | refine an2 ?_ | fail)
  refine W_loopU (fun i : Nat => []) (fun i => [(10, .oth (.si b s i))]) (fun i => i ≤ s.size ∧ ∀ j, j < i → gC (byt s j) = true) (fun i => s.size - i) 0 ⟨by omega, fun j hj => by omega⟩ (by rfl) (by rfl) (fun i hi => ?_)
  obtain ⟨hi, hall⟩ := hi
  (refine sy1 ?_; try exact True.intro)
  repeat (first | refine WK_go ?_ | refine W_seqL ?_ | refine W_seq ?_ | refine W_block ?_)
  refine W_regX [0] ?_
  simp (maxSteps := 400000) (disch := omega) only [push_cast, ↓reduceIte, reduceCtorEq, Nat.reduceAdd, Nat.reduceSub, Nat.reduceEqDiff, Nat.reduceLeDiff, Nat.reduceLT, Nat.reduceBEq, Nat.reduceDiv, Nat.reduceMod, Nat.reducePow, Nat.reduceMul, Int.reduceToNat, Int.reduceLT, Int.reduceLE, chainX, SpM, List.take_succ_cons, List.take_zero, List.drop_succ_cons, List.drop_zero]
  refine ⟨[], rfl, rfl, 10, b, s, i, rfl, rfl, ?_⟩
  by_cases hlt : i < s.size
  · obtain ⟨e1, e2⟩ := dec_good s i
    rw [show outN s i = .tup [bv true, .v (goInt i), .v (.int .i32 (Utf8.decode s i).1)] by unfold outN; rw [if_pos hlt], show advN s i = i + (Utf8.decode s i).2 by unfold advN; rw [if_pos hlt]]
    generalize (Utf8.decode s i).1 = c at *
    (refine sy1 ?_; try exact True.intro)
    repeat' (first | refine w1g ?_ | refine w1l ?_ | refine w1q ?_ | refine w1b ?_ | refine w1p ?_ | ((first | refine w1r ?_ | refine w1k ?_ | refine w1e ?_); (refine sy1 ?_; try exact True.intro)) | refine an2 ?_ | fail)
    refine W_cond (by rfl) (fun _ => ?_) (fun hz => by cases hz)
    repeat' (first | refine w1g ?_ | refine w1l ?_ | refine w1q ?_ | refine w1b ?_ | refine w1p ?_ | ((first | refine w1r ?_ | refine w1k ?_ | refine w1e ?_); (refine sy1 ?_; try exact True.intro)) | refine an2 ?_ | fail)
    have key : ((decide ((c : Int) < 97) || decide (122 < (c : Int))) && (decide ((c : Int) < 48) || decide (57 < (c : Int)))) = !gC c := by
      rw [Bool.eq_iff_iff]
      unfold gC
      simp only [Bool.and_eq_true, Bool.or_eq_true, Bool.not_eq_true', Bool.or_eq_false_iff, Bool.and_eq_false_iff, decide_eq_true_eq, decide_eq_false_iff_not]
      omega
    rw [key, e1]
    refine W_cond (by rfl) (fun hb => ?_) (fun hb => ?_)
    · rw [name_no hlt (by simpa using hb)]
      repeat' (first | refine w1g ?_ | refine w1l ?_ | refine w1q ?_ | refine w1b ?_ | refine w1p ?_ | ((first | refine w1r ?_ | refine w1k ?_ | refine w1e ?_); (refine sy1 ?_; try exact True.intro)) | refine an2 ?_ | fail)
      exact W_ret ⟨[_], ⟨rfl, rfl⟩, rfl⟩
    · have hg : gC (byt s i) = true := by simpa using hb
      rw [e2 hg]
      repeat' (first | refine w1g ?_ | refine w1l ?_ | refine w1q ?_ | refine w1b ?_ | refine w1p ?_ | ((first | refine w1r ?_ | refine w1k ?_ | refine w1e ?_); (refine sy1 ?_; try exact True.intro)) | refine an2 ?_ | fail)
      refine ⟨i + 1, ⟨by omega, up_all hall hg⟩, by omega, by rfl, ?_⟩
      (refine syE ?_; try exact True.intro)
  · rw [show outN s i = .tup [bv false] by unfold outN; rw [if_neg hlt], show advN s i = i by unfold advN; rw [if_neg hlt]]
    have e : nameB s = true := by
      unfold nameB
      rw [good_iff.2 (fun j hj => hall j (by omega))]
      simp only [Bool.and_true, Bool.and_eq_true, decide_eq_true_eq]
      omega
    rw [e]
    (refine sy1 ?_; try exact True.intro)
    repeat' (first | refine w1g ?_ | refine w1l ?_ | refine w1q ?_ | refine w1b ?_ | refine w1p ?_ | ((first | refine w1r ?_ | refine w1k ?_ | refine w1e ?_); (refine sy1 ?_; try exact True.intro)) | refine an2 ?_ | fail)
    refine W_cond (by rfl) (fun hz => by cases hz) (fun _ => ?_)
    repeat' (first | refine w1g ?_ | refine w1l ?_ | refine w1q ?_ | refine w1b ?_ | refine w1p ?_ | ((first | refine w1r ?_ | refine w1k ?_ | refine w1e ?_); (refine sy1 ?_; try exact True.intro)) | refine an2 ?_ | fail)
    exact W_ret ⟨[_], ⟨rfl, rfl⟩, rfl⟩
end Go.Proofs.Ytfkjdjlcaojedaa

namespace Go.Proofs.Ytfkjdjlcaojedaa
open Go Sy
set_option maxRecDepth 100000
set_option maxHeartbeats 4000000
set_option linter.unusedVariables false
set_option linter.unusedSimpArgs false
theorem byteAt_eq {s : ByteArray} {i : Nat} (h : i < s.size) : byteAt s i = byt s i := by
  unfold byteAt byt
  rw [getElem?_pos s i h]
  obtain ⟨bs⟩ := s
  show (bs[i]'h).toNat = (bs[i]!).toNat
  rw [getElem!_pos bs i h]
def axB (x l lo : Int) : Bool := inR x lo 131072 && (decide (1 ≤ l) && decide (l ≤ 131072 - x))
theorem pceB_eq (p : Pce) : pceB p = (axB p.x p.l (-131072) && axB p.y p.w (-131072) && axB p.z p.h 0 && inR p.m 0 16777216) := rfl
theorem ax_key (x l lo : Int) (hl : -131072 ≤ lo) : (!inR x lo 131072 || decide (l < 1) || decide (IntKind.i64.wrap (131072 - x) < l)) = !axB x l lo := by
  unfold axB
  by_cases h1 : inR x lo 131072 = true
  rotate_left
  · rw [Bool.not_eq_true] at h1; rw [h1]; rfl
  have g1 := inR_iff.1 h1
  rw [wrap64 ⟨by omega, by omega⟩, h1, Bool.eq_iff_iff]
  simp only [Bool.not_true, Bool.false_or, Bool.true_and, Bool.or_eq_true, Bool.not_eq_true', Bool.and_eq_false_iff, decide_eq_true_eq, decide_eq_false_iff_not]
  omega
theorem fn138 (s : ByteArray) : Sy.Fn Try.prog 138 [tx s] (bv (nameB s)) := by
  refine Fn_of_W mixed Xt138 rfl ?_
  repeat' (first | refine w1g ?_ | refine w1l ?_ | refine w1q ?_ | refine w1b ?_ | refine w1p ?_ | ((first | refine w1r ?_ | refine w1k ?_ | refine w1e ?_); (refine sy1 ?_; try exact True.intro)) | refine an2 ?_ | fail)
  refine W_cond (by rfl) (fun h => ?_) (fun h => ?_)
  · have e : nameB s = false := by
      rw [← Bool.not_eq_true]
      unfold nameB
      simp only [Bool.and_eq_true, decide_eq_true_eq, Bool.or_eq_true] at h ⊢
      omega
    rw [e]
    repeat' (first | refine w1g ?_ | refine w1l ?_ | refine w1q ?_ | refine w1b ?_ | refine w1p ?_ | ((first | refine w1r ?_ | refine w1k ?_ | refine w1e ?_); (refine sy1 ?_; try exact True.intro)) | refine an2 ?_ | fail)
    exact W_ret ⟨[_], ⟨rfl, rfl⟩, rfl⟩
  simp only [Bool.or_eq_false_iff, decide_eq_false_iff_not] at h
  repeat' (first | refine w1g ?_ | refine w1l ?_ | refine w1q ?_ | refine w1b ?_ | refine w1p ?_ | ((first | refine w1r ?_ | refine w1k ?_ | refine w1e ?_); (refine sy1 ?_; try exact True.intro)) | refine an2 ?_ | fail)
  refine W_loopU (fun i : Nat => [(3, iv i)]) (fun i => []) (fun i => i ≤ s.size ∧ ∀ j, j < i → gC (byt s j) = true) (fun i => s.size - i) 0 ⟨by omega, fun j hj => by omega⟩ (by rfl) (by rfl) (fun i hi => ?_)
  obtain ⟨hi, hall⟩ := hi
  (refine sy1 ?_; try exact True.intro)
  repeat' (first | refine w1g ?_ | refine w1l ?_ | refine w1q ?_ | refine w1b ?_ | refine w1p ?_ | ((first | refine w1r ?_ | refine w1k ?_ | refine w1e ?_); (refine sy1 ?_; try exact True.intro)) | refine an2 ?_ | fail)
  refine W_condD (by rfl) (fun h5 => ?_) (fun h5 => ?_)
  · have hlt : i < s.size := by omega
    have hby := byteAt_eq hlt
    have hb0 : byt s i < 256 := (s.get! i).toNat_lt
    generalize hc : byt s i = c at *
    repeat' (first | refine w1g ?_ | refine w1l ?_ | refine w1q ?_ | refine w1b ?_ | refine w1p ?_ | ((first | refine w1r ?_ | refine w1k ?_ | refine w1e ?_); simp (maxSteps := 400000) (disch := omega) only [push_cast, ↓reduceIte, reduceCtorEq, Nat.reduceAdd, Nat.reduceSub, Nat.reduceEqDiff, Nat.reduceLeDiff, Nat.reduceLT, Nat.reduceBEq, Nat.reduceDiv, Nat.reduceMod, Nat.reducePow, Nat.reduceMul, Int.reduceToNat, Int.reduceLT, Int.reduceLE, hby]) | refine an2 ?_ | fail)
    have key : (decide (97 ≤ (c : Int)) && decide ((c : Int) ≤ 122) || decide (48 ≤ (c : Int)) && decide ((c : Int) ≤ 57)) = gC c := by
      rw [Bool.eq_iff_iff]
      unfold gC
      simp only [Bool.and_eq_true, Bool.or_eq_true, decide_eq_true_eq]
      omega
    rw [key]
    refine W_cond (by rfl) (fun hb => ?_) (fun hb => ?_)
    · rw [name_no hlt (by rw [hc]; simpa using hb)]
      repeat' (first | refine w1g ?_ | refine w1l ?_ | refine w1q ?_ | refine w1b ?_ | refine w1p ?_ | ((first | refine w1r ?_ | refine w1k ?_ | refine w1e ?_); (refine sy1 ?_; try exact True.intro)) | refine an2 ?_ | fail)
      exact W_ret ⟨[_], ⟨rfl, rfl⟩, rfl⟩
    · repeat' (first | refine w1g ?_ | refine w1l ?_ | refine w1q ?_ | refine w1b ?_ | refine w1p ?_ | ((first | refine w1r ?_ | refine w1k ?_ | refine w1e ?_); (refine sy1 ?_; try exact True.intro)) | refine an2 ?_ | fail)
      refine ⟨i + 1, ⟨by omega, up_all hall (by rw [hc]; simpa using hb)⟩, by omega, by rfl, ?_⟩
      (refine syE ?_; try exact True.intro)
  · have e : nameB s = true := by
      unfold nameB
      rw [good_iff.2 (fun j hj => hall j (by omega))]
      simp only [Bool.and_true, Bool.and_eq_true, decide_eq_true_eq]
      omega
    rw [e]
    repeat' (first | refine w1g ?_ | refine w1l ?_ | refine w1q ?_ | refine w1b ?_ | refine w1p ?_ | ((first | refine w1r ?_ | refine w1k ?_ | refine w1e ?_); (refine sy1 ?_; try exact True.intro)) | refine an2 ?_ | fail)
    exact W_ret ⟨[_], ⟨rfl, rfl⟩, rfl⟩
theorem fn133 (p : Pce) : Sy.Fn Try.prog 133 [.agg (cPc p)] (bv (pceB p)) := by
  refine Fn_of_W mixed Xt133 rfl ?_
  rw [pceB_eq]
  repeat' (first | refine w1g ?_ | refine w1l ?_ | refine w1q ?_ | refine w1b ?_ | refine w1p ?_ | ((first | refine w1r ?_ | refine w1k ?_ | refine w1e ?_); (refine sy1 ?_; try exact True.intro)) | refine an2 ?_ | fail)
  refine W_loopU (fun k : Nat => [(22, iv k)]) (fun k => []) (fun k => k ≤ 3 ∧ (0 < k → axB p.x p.l (-131072) = true) ∧ (1 < k → axB p.y p.w (-131072) = true) ∧ (2 < k → axB p.z p.h 0 = true)) (fun k => 3 - k) 0 ⟨by omega, by omega, by omega, by omega⟩ (by rfl) (by rfl) (fun k hk => ?_)
  obtain ⟨hk, g1, g2, g3⟩ := hk
  (refine sy1 ?_; try exact True.intro)
  repeat' (first | refine w1g ?_ | refine w1l ?_ | refine w1q ?_ | refine w1b ?_ | refine w1p ?_ | ((first | refine w1r ?_ | refine w1k ?_ | refine w1e ?_); (refine sy1 ?_; try exact True.intro)) | refine an2 ?_ | fail)
  refine W_condD (by rfl) (fun h5 => ?_) (fun h5 => ?_)
  · obtain rfl | rfl | rfl : k = 0 ∨ k = 1 ∨ k = 2 := by omega
    · repeat' (first | refine w1g ?_ | refine w1l ?_ | refine w1q ?_ | refine w1b ?_ | refine w1p ?_ | ((first | refine w1r ?_ | refine w1k ?_ | refine w1e ?_ | refine CallC.now (fn132 _ _ _) ?_ | refine CallC.go _ (fun _ => ⟨trivial, fn132 _ _ _⟩) rfl ?_); simp (maxSteps := 400000) (disch := omega) only [push_cast, ↓reduceIte, reduceCtorEq, Nat.reduceAdd, Nat.reduceSub, Nat.reduceEqDiff, Nat.reduceLeDiff, Nat.reduceLT, Nat.reduceBEq, Nat.reduceDiv, Nat.reduceMod, Nat.reducePow, Nat.reduceMul, Int.reduceToNat, Int.reduceLT, Int.reduceLE, Nat.mul_one]) | refine an2 ?_ | fail)
      rw [ax_key _ _ _ (by omega)]
      refine W_cond (by rfl) (fun hb => ?_) (fun hb => ?_)
      · rw [show axB p.x p.l (-131072) = false by simpa using hb]
        repeat' (first | refine w1g ?_ | refine w1l ?_ | refine w1q ?_ | refine w1b ?_ | refine w1p ?_ | ((first | refine w1r ?_ | refine w1k ?_ | refine w1e ?_); (refine sy1 ?_; try exact True.intro)) | refine an2 ?_ | fail)
        exact W_ret ⟨[_], ⟨rfl, rfl⟩, rfl⟩
      · repeat' (first | refine w1g ?_ | refine w1l ?_ | refine w1q ?_ | refine w1b ?_ | refine w1p ?_ | ((first | refine w1r ?_ | refine w1k ?_ | refine w1e ?_); (refine sy1 ?_; try exact True.intro)) | refine an2 ?_ | fail)
        refine ⟨1, ⟨by omega, fun _ => by simpa using hb, by omega, by omega⟩, by omega, by rfl, ?_⟩
        (refine syE ?_; try exact True.intro)
    · rw [show ((1 : Nat) : Int) = 1 from rfl]
      repeat' (first | refine w1g ?_ | refine w1l ?_ | refine w1q ?_ | refine w1b ?_ | refine w1p ?_ | ((first | refine w1r ?_ | refine w1k ?_ | refine w1e ?_ | refine CallC.now (fn132 _ _ _) ?_ | refine CallC.go _ (fun _ => ⟨trivial, fn132 _ _ _⟩) rfl ?_); simp (maxSteps := 400000) (disch := omega) only [push_cast, ↓reduceIte, reduceCtorEq, Nat.reduceAdd, Nat.reduceSub, Nat.reduceEqDiff, Nat.reduceLeDiff, Nat.reduceLT, Nat.reduceBEq, Nat.reduceDiv, Nat.reduceMod, Nat.reducePow, Nat.reduceMul, Int.reduceToNat, Int.reduceLT, Int.reduceLE, Nat.mul_one]) | refine an2 ?_ | fail)
      rw [ax_key _ _ _ (by omega)]
      refine W_cond (by rfl) (fun hb => ?_) (fun hb => ?_)
      · rw [show axB p.y p.w (-131072) = false by simpa using hb]
        simp only [Bool.and_false, Bool.false_and]
        repeat' (first | refine w1g ?_ | refine w1l ?_ | refine w1q ?_ | refine w1b ?_ | refine w1p ?_ | ((first | refine w1r ?_ | refine w1k ?_ | refine w1e ?_); (refine sy1 ?_; try exact True.intro)) | refine an2 ?_ | fail)
        exact W_ret ⟨[_], ⟨rfl, rfl⟩, rfl⟩
      · repeat' (first | refine w1g ?_ | refine w1l ?_ | refine w1q ?_ | refine w1b ?_ | refine w1p ?_ | ((first | refine w1r ?_ | refine w1k ?_ | refine w1e ?_); (refine sy1 ?_; try exact True.intro)) | refine an2 ?_ | fail)
        refine ⟨2, ⟨by omega, fun _ => g1 (by omega), fun _ => by simpa using hb, by omega⟩, by omega, by rfl, ?_⟩
        (refine syE ?_; try exact True.intro)
        rfl
    · rw [show ((2 : Nat) : Int) = 2 from rfl]
      repeat' (first | refine w1g ?_ | refine w1l ?_ | refine w1q ?_ | refine w1b ?_ | refine w1p ?_ | ((first | refine w1r ?_ | refine w1k ?_ | refine w1e ?_ | refine CallC.now (fn132 _ _ _) ?_ | refine CallC.go _ (fun _ => ⟨trivial, fn132 _ _ _⟩) rfl ?_); simp (maxSteps := 400000) (disch := omega) only [push_cast, ↓reduceIte, reduceCtorEq, Nat.reduceAdd, Nat.reduceSub, Nat.reduceEqDiff, Nat.reduceLeDiff, Nat.reduceLT, Nat.reduceBEq, Nat.reduceDiv, Nat.reduceMod, Nat.reducePow, Nat.reduceMul, Int.reduceToNat, Int.reduceLT, Int.reduceLE, Nat.mul_one]) | refine an2 ?_ | fail)
      rw [ax_key _ _ _ (by omega)]
      refine W_cond (by rfl) (fun hb => ?_) (fun hb => ?_)
      · rw [show axB p.z p.h 0 = false by simpa using hb]
        simp only [Bool.and_false, Bool.false_and]
        repeat' (first | refine w1g ?_ | refine w1l ?_ | refine w1q ?_ | refine w1b ?_ | refine w1p ?_ | ((first | refine w1r ?_ | refine w1k ?_ | refine w1e ?_); (refine sy1 ?_; try exact True.intro)) | refine an2 ?_ | fail)
        exact W_ret ⟨[_], ⟨rfl, rfl⟩, rfl⟩
      · repeat' (first | refine w1g ?_ | refine w1l ?_ | refine w1q ?_ | refine w1b ?_ | refine w1p ?_ | ((first | refine w1r ?_ | refine w1k ?_ | refine w1e ?_); (refine sy1 ?_; try exact True.intro)) | refine an2 ?_ | fail)
        refine ⟨3, ⟨by omega, fun _ => g1 (by omega), fun _ => g2 (by omega), fun _ => by simpa using hb⟩, by omega, by rfl, ?_⟩
        (refine syE ?_; try exact True.intro)
        rfl
  · rw [g1 (by omega), g2 (by omega), g3 (by omega)]
    repeat' (first | refine w1g ?_ | refine w1l ?_ | refine w1q ?_ | refine w1b ?_ | refine w1p ?_ | ((first | refine w1r ?_ | refine w1k ?_ | refine w1e ?_ | refine CallC.now (fn132 _ _ _) ?_); (refine sy1 ?_; try exact True.intro)) | refine an2 ?_ | fail)
    exact W_ret ⟨[_], ⟨rfl, rfl⟩, rfl⟩
theorem fn146 (p : Pce) (h : pceB p = true) : Sy.Fn Try.prog 146 [.agg (cPc p)] (.agg [iv p.x, iv p.y, iv p.z, iv (p.x + p.l), iv (p.y + p.w), iv (p.z + p.h)]) := by
  refine Fn_of_W mixed Xt146 rfl ?_
  unfold pceB at h
  simp only [Bool.and_eq_true, decide_eq_true_eq, inR_iff] at h
  repeat' (first | refine w1g ?_ | refine w1l ?_ | refine w1q ?_ | refine w1b ?_ | refine w1p ?_ | ((first | refine w1r ?_ | refine w1k ?_ | refine w1e ?_); (refine sy1 ?_; try exact True.intro)) | refine an2 ?_ | fail)
  exact W_ret ⟨[_], ⟨⟨by simp, rfl⟩, rfl⟩, rfl⟩
theorem fn113 (a b : Int) (ha : -9223372036854775808 ≤ a ∧ a ≤ 9223372036854775807) (hb : 0 < b) : Sy.Fn Try.prog 113 [iv a, iv b] (iv (a / b)) := by
  refine Fn_of_W mixed Xt113 rfl ?_
  have e1 := wrap_i64_tdiv a b ha.1 ha.2 (by omega)
  have e2 := floor_eq (a := a) hb
  have hm : 0 ≤ a.tmod b ∨ (a.tmod b < 0 ∧ -9223372036854775807 ≤ a.tdiv b) := by
    by_cases h : 0 ≤ a.tmod b
    · exact .inl h
    · right
      refine ⟨by omega, ?_⟩
      have e := Int.tdiv_mul_add_tmod a b
      have l2 : -b < a.tmod b := by
        have := Int.tmod_lt_of_pos (-a) hb
        rw [Int.neg_tmod] at this
        omega
      by_cases q : -9223372036854775807 ≤ a.tdiv b
      · exact q
      · have := Int.mul_le_mul_of_nonneg_right (show a.tdiv b ≤ -9223372036854775808 by omega) (Int.le_of_lt hb)
        omega
  have hu : a.tdiv b ≤ 9223372036854775807 := by
    by_cases q : a.tdiv b ≤ 9223372036854775807
    · exact q
    · have e := Int.tdiv_mul_add_tmod a b
      have l2 : -b < a.tmod b := by
        have := Int.tmod_lt_of_pos (-a) hb
        rw [Int.neg_tmod] at this
        omega
      have := Int.mul_le_mul_of_nonneg_right (show 9223372036854775808 ≤ a.tdiv b by omega) (Int.le_of_lt hb)
      omega
  repeat' (first | refine w1g ?_ | refine w1l ?_ | refine w1q ?_ | refine w1b ?_ | refine w1p ?_ | ((first | refine w1r ?_ | refine w1k ?_ | refine w1e ?_); simp (maxSteps := 400000) (disch := omega) only [push_cast, ↓reduceIte, reduceCtorEq, Nat.reduceAdd, Nat.reduceSub, Nat.reduceEqDiff, Nat.reduceLeDiff, Nat.reduceLT, Nat.reduceBEq, Nat.reduceDiv, Nat.reduceMod, Nat.reducePow, Nat.reduceMul, Int.reduceToNat, Int.reduceLT, Int.reduceLE, e1]) | refine an2 ?_ | fail)
  refine W_condD (by rfl) (fun h => ?_) (fun h => ?_)
  · rw [if_pos h] at e2
    repeat' (first | refine w1g ?_ | refine w1l ?_ | refine w1q ?_ | refine w1b ?_ | refine w1p ?_ | ((first | refine w1r ?_ | refine w1k ?_ | refine w1e ?_); (refine sy1 ?_; try exact True.intro)) | refine an2 ?_ | fail)
    exact W_ret ⟨[_], ⟨rfl, rfl⟩, by rw [e2]; rfl⟩
  · rw [if_neg h] at e2
    repeat' (first | refine w1g ?_ | refine w1l ?_ | refine w1q ?_ | refine w1b ?_ | refine w1p ?_ | ((first | refine w1r ?_ | refine w1k ?_ | refine w1e ?_); (refine sy1 ?_; try exact True.intro)) | refine an2 ?_ | fail)
    exact W_ret ⟨[_], ⟨rfl, rfl⟩, by rw [e2]; rfl⟩
end Go.Proofs.Ytfkjdjlcaojedaa

namespace Go.Proofs.Ytfkjdjlcaojedaa
open Go Sy
set_option maxRecDepth 100000
set_option maxHeartbeats 4000000
set_option linter.unusedVariables false
set_option linter.unusedSimpArgs false
def pc (l : List Pce) (i : Nat) : Pce := l.getD i dPc
def plo (p : Pce) : Nat → Int
  | 0 => p.x
  | 1 => p.y
  | _ => p.z
def psz (p : Pce) : Nat → Int
  | 0 => p.l
  | 1 => p.w
  | _ => p.h
def mo (p : Pce) (k : Nat) : Int := p.m * (plo p k + (plo p k + psz p k))
def smM (l : List Pce) : Int := l.foldl (fun a p => a + p.m) 0
def smK (l : List Pce) (k : Nat) : Int := l.foldl (fun a p => a + mo p k) 0
theorem take_pc {l : List Pce} {i : Nat} (h : i < l.length) : l.take (i + 1) = l.take i ++ [pc l i] := by
  rw [List.take_succ_eq_append_getElem h]
  simp [pc, h]
theorem smM_succ {l : List Pce} {i : Nat} (h : i < l.length) : smM (l.take (i + 1)) = smM (l.take i) + (pc l i).m := by
  rw [take_pc h]; simp [smM, List.foldl_append]
theorem smK_succ {l : List Pce} {i : Nat} (h : i < l.length) (k : Nat) : smK (l.take (i + 1)) k = smK (l.take i) k + mo (pc l i) k := by
  rw [take_pc h]; simp [smK, List.foldl_append]
theorem pceB_iff {p : Pce} : pceB p = true ↔ (((-131072 ≤ p.x ∧ p.x ≤ 131072) ∧ 1 ≤ p.l ∧ p.l ≤ 131072 - p.x) ∧ ((-131072 ≤ p.y ∧ p.y ≤ 131072) ∧ 1 ≤ p.w ∧ p.w ≤ 131072 - p.y) ∧ (0 ≤ p.z ∧ p.z ≤ 131072) ∧ 1 ≤ p.h ∧ p.h ≤ 131072 - p.z) ∧ 0 ≤ p.m ∧ p.m ≤ 16777216 := by
  unfold pceB
  simp only [Bool.and_eq_true, decide_eq_true_eq, inR_iff]
  omega
theorem mo_rng {p : Pce} (h : pceB p = true) (k : Nat) : (-262144 ≤ plo p k + (plo p k + psz p k) ∧ plo p k + (plo p k + psz p k) ≤ 262144) ∧ -4398046511104 ≤ mo p k ∧ mo p k ≤ 4398046511104 := by
  obtain ⟨⟨h1, h2, h3⟩, h4⟩ := pceB_iff.1 h
  have hr : -262144 ≤ plo p k + (plo p k + psz p k) ∧ plo p k + (plo p k + psz p k) ≤ 262144 := by
    rcases k with _ | _ | k <;> simp only [plo, psz] <;> omega
  refine ⟨hr, ?_⟩
  unfold mo
  generalize plo p k + (plo p k + psz p k) = q at *
  constructor
  · have a := Int.mul_le_mul_of_nonneg_left hr.1 h4.1
    have b := Int.mul_le_mul_of_nonneg_right h4.2 (show (0 : Int) ≤ 262144 by omega)
    omega
  · have a := Int.mul_le_mul_of_nonneg_left hr.2 h4.1
    have b := Int.mul_le_mul_of_nonneg_right h4.2 (show (0 : Int) ≤ 262144 by omega)
    omega
theorem sm_rng {l : List Pce} (h : ∀ i, i < l.length → pceB (pc l i) = true) : ∀ n, n ≤ l.length → (0 ≤ smM (l.take n) ∧ smM (l.take n) ≤ n * 16777216) ∧ ∀ k, -(n * 4398046511104) ≤ smK (l.take n) k ∧ smK (l.take n) k ≤ n * 4398046511104
  | 0, _ => by simp [smM, smK]
  | n + 1, hn => by
    obtain ⟨h1, h2⟩ := sm_rng h n (by omega)
    rw [smM_succ (by omega)]
    have hp := h n (by omega)
    obtain ⟨_, h4⟩ := pceB_iff.1 hp
    refine ⟨by omega, fun k => ?_⟩
    rw [smK_succ (by omega)]
    have := (mo_rng hp k).2
    have := h2 k
    omega
abbrev cW (m a b c : Int) : List AV := [iv m, iv a, iv b, iv c]
def wk (F : Nat → Int) (p : Pce) (k j : Nat) : Int := if j < k then F j + mo p j else F j
theorem fn112 (l : List Pce) (hl : l.length ≤ 32) (h : ∀ i, i < l.length → pceB (pc l i) = true) : Sy.Fn Try.prog 112 [aPc l] (.agg (cW (smM l) (smK l 0) (smK l 1) (smK l 2))) := by
  refine Fn_of_W mixed Xt112 rfl ?_
  repeat' (first | refine w1g ?_ | refine w1l ?_ | refine w1q ?_ | refine w1b ?_ | refine w1p ?_ | ((first | refine w1r ?_ | refine w1k ?_ | refine w1e ?_); (refine sy1 ?_; try exact True.intro)) | refine an2 ?_ | fail)
  refine W_loopU (fun i : Nat => [(7, iv i)]) (fun i => [(0, .cells (cW (smM (l.take i)) (smK (l.take i) 0) (smK (l.take i) 1) (smK (l.take i) 2)))]) (fun i => i ≤ l.length) (fun i => l.length - i) 0 (by omega) (by rfl) (by rfl) (fun i hi => ?_)
  (refine sy1 ?_; try exact True.intro)
  repeat' (first | refine w1g ?_ | refine w1l ?_ | refine w1q ?_ | refine w1b ?_ | refine w1p ?_ | ((first | refine w1r ?_ | refine w1k ?_ | refine w1e ?_); (refine sy1 ?_; try exact True.intro)) | refine an2 ?_ | fail)
  refine W_condD (by rfl) (fun h5 => ?_) (fun h5 => ?_)
  · have hlt : i < l.length := by omega
    have hp := h i hlt
    have hpc : l.getD i dPc = pc l i := rfl
    obtain ⟨r1, r2⟩ := sm_rng h i (by omega)
    have e1 := smM_succ hlt
    have e2 := smK_succ hlt
    generalize pc l i = p at *
    generalize smM (l.take i) = M at *
    generalize smK (l.take i) = F at *
    obtain ⟨⟨h1, h2, h3⟩, h4⟩ := pceB_iff.1 hp
    repeat' (first | refine w1g ?_ | refine w1l ?_ | refine w1q ?_ | refine w1b ?_ | refine w1p ?_ | ((first | refine w1r ?_ | refine w1k ?_ | refine w1e ?_); simp (maxSteps := 400000) (disch := omega) only [push_cast, ↓reduceIte, reduceCtorEq, Nat.reduceAdd, Nat.reduceSub, Nat.reduceEqDiff, Nat.reduceLeDiff, Nat.reduceLT, Nat.reduceBEq, Nat.reduceDiv, Nat.reduceMod, Nat.reducePow, Nat.reduceMul, Int.reduceToNat, Int.reduceLT, Int.reduceLE, hpc]) | refine an2 ?_ | fail)
    refine CallC.inl (Inl_of_W mixed Xt135 rfl (fun vs => ?_))
    have c146 := fn146 p hp
    (refine sy1 ?_; try exact True.intro)
    repeat' (first | refine w1g ?_ | refine w1l ?_ | refine w1q ?_ | refine w1b ?_ | refine w1p ?_ | ((first | refine w1r ?_ | refine w1k ?_ | refine w1e ?_ | refine CallC.now (c146) ?_); (refine sy1 ?_; try exact True.intro)) | refine an2 ?_ | fail)
    have q0 : (-262144 ≤ p.x + (p.x + p.l) ∧ p.x + (p.x + p.l) ≤ 262144) ∧ -4398046511104 ≤ p.m * (p.x + (p.x + p.l)) ∧ p.m * (p.x + (p.x + p.l)) ≤ 4398046511104 := mo_rng hp 0
    have q1 : (-262144 ≤ p.y + (p.y + p.w) ∧ p.y + (p.y + p.w) ≤ 262144) ∧ -4398046511104 ≤ p.m * (p.y + (p.y + p.w)) ∧ p.m * (p.y + (p.y + p.w)) ≤ 4398046511104 := mo_rng hp 1
    have q2 : (-262144 ≤ p.z + (p.z + p.h) ∧ p.z + (p.z + p.h) ≤ 262144) ∧ -4398046511104 ≤ p.m * (p.z + (p.z + p.h)) ∧ p.m * (p.z + (p.z + p.h)) ≤ 4398046511104 := mo_rng hp 2
    have f0 := r2 0
    have f1 := r2 1
    have f2 := r2 2
    refine W_loopU (fun k : Nat => [(17, iv k)]) (fun k => [(0, .cells (cW (M + p.m) (wk F p k 0) (wk F p k 1) (wk F p k 2)))]) (fun k => k ≤ 3) (fun k => 3 - k) 0 (by omega) (by rfl) (by rfl) (fun k hk => ?_)
    (refine sy1 ?_; try exact True.intro)
    repeat' (first | refine w1g ?_ | refine w1l ?_ | refine w1q ?_ | refine w1b ?_ | refine w1p ?_ | ((first | refine w1r ?_ | refine w1k ?_ | refine w1e ?_); (refine sy1 ?_; try exact True.intro)) | refine an2 ?_ | fail)
    refine W_condD (by rfl) (fun h6 => ?_) (fun h6 => ?_)
    · obtain rfl | rfl | rfl : k = 0 ∨ k = 1 ∨ k = 2 := by omega
      · rw [show wk F p 0 0 = F 0 from rfl, show wk F p 0 1 = F 1 from rfl, show wk F p 0 2 = F 2 from rfl]
        repeat' (first | refine w1g ?_ | refine w1l ?_ | refine w1q ?_ | refine w1b ?_ | refine w1p ?_ | ((first | refine w1r ?_ | refine w1k ?_ | refine w1e ?_); simp (maxSteps := 400000) (disch := omega) only [push_cast, ↓reduceIte, reduceCtorEq, Nat.reduceAdd, Nat.reduceSub, Nat.reduceEqDiff, Nat.reduceLeDiff, Nat.reduceLT, Nat.reduceBEq, Nat.reduceDiv, Nat.reduceMod, Nat.reducePow, Nat.reduceMul, Int.reduceToNat, Int.reduceLT, Int.reduceLE, Nat.mul_one]) | refine an2 ?_ | fail)
        refine ⟨1, by omega, by omega, by rfl, ?_⟩
        rw [show wk F p 1 0 = F 0 + p.m * (p.x + (p.x + p.l)) from rfl, show wk F p 1 1 = F 1 from rfl, show wk F p 1 2 = F 2 from rfl]
        (refine syE ?_; try exact True.intro)
      · rw [show ((1 : Nat) : Int) = 1 from rfl, show wk F p 1 0 = F 0 + p.m * (p.x + (p.x + p.l)) from rfl, show wk F p 1 1 = F 1 from rfl, show wk F p 1 2 = F 2 from rfl]
        repeat' (first | refine w1g ?_ | refine w1l ?_ | refine w1q ?_ | refine w1b ?_ | refine w1p ?_ | ((first | refine w1r ?_ | refine w1k ?_ | refine w1e ?_); simp (maxSteps := 400000) (disch := omega) only [push_cast, ↓reduceIte, reduceCtorEq, Nat.reduceAdd, Nat.reduceSub, Nat.reduceEqDiff, Nat.reduceLeDiff, Nat.reduceLT, Nat.reduceBEq, Nat.reduceDiv, Nat.reduceMod, Nat.reducePow, Nat.reduceMul, Int.reduceToNat, Int.reduceLT, Int.reduceLE, Nat.mul_one]) | refine an2 ?_ | fail)
        refine ⟨2, by omega, by omega, by rfl, ?_⟩
        rw [show wk F p 2 0 = F 0 + p.m * (p.x + (p.x + p.l)) from rfl, show wk F p 2 1 = F 1 + p.m * (p.y + (p.y + p.w)) from rfl, show wk F p 2 2 = F 2 from rfl]
        (refine syE ?_; try exact True.intro)
        rfl
      · rw [show ((2 : Nat) : Int) = 2 from rfl, show wk F p 2 0 = F 0 + p.m * (p.x + (p.x + p.l)) from rfl, show wk F p 2 1 = F 1 + p.m * (p.y + (p.y + p.w)) from rfl, show wk F p 2 2 = F 2 from rfl]
        repeat' (first | refine w1g ?_ | refine w1l ?_ | refine w1q ?_ | refine w1b ?_ | refine w1p ?_ | ((first | refine w1r ?_ | refine w1k ?_ | refine w1e ?_); simp (maxSteps := 400000) (disch := omega) only [push_cast, ↓reduceIte, reduceCtorEq, Nat.reduceAdd, Nat.reduceSub, Nat.reduceEqDiff, Nat.reduceLeDiff, Nat.reduceLT, Nat.reduceBEq, Nat.reduceDiv, Nat.reduceMod, Nat.reducePow, Nat.reduceMul, Int.reduceToNat, Int.reduceLT, Int.reduceLE, Nat.mul_one]) | refine an2 ?_ | fail)
        refine ⟨3, by omega, by omega, by rfl, ?_⟩
        rw [show wk F p 3 0 = F 0 + p.m * (p.x + (p.x + p.l)) from rfl, show wk F p 3 1 = F 1 + p.m * (p.y + (p.y + p.w)) from rfl, show wk F p 3 2 = F 2 + p.m * (p.z + (p.z + p.h)) from rfl]
        (refine syE ?_; try exact True.intro)
        rfl
    · obtain rfl : k = 3 := by omega
      rw [show wk F p 3 0 = F 0 + mo p 0 from rfl, show wk F p 3 1 = F 1 + mo p 1 from rfl, show wk F p 3 2 = F 2 + mo p 2 from rfl, ← e1, ← e2, ← e2, ← e2]
      repeat' (first | refine w1g ?_ | refine w1l ?_ | refine w1q ?_ | refine w1b ?_ | refine w1p ?_ | ((first | refine w1r ?_ | refine w1k ?_ | refine w1e ?_); (refine sy1 ?_; try exact True.intro)) | refine an2 ?_ | fail)
      refine ⟨[], _, rfl, rfl, ?_⟩
      simp (maxSteps := 400000) (disch := omega) only [push_cast, ↓reduceIte, reduceCtorEq, Nat.reduceAdd, Nat.reduceSub, Nat.reduceEqDiff, Nat.reduceLeDiff, Nat.reduceLT, Nat.reduceBEq, Nat.reduceDiv, Nat.reduceMod, Nat.reducePow, Nat.reduceMul, Int.reduceToNat, Int.reduceLT, Int.reduceLE, pack]
      repeat' (first | refine w1g ?_ | refine w1l ?_ | refine w1q ?_ | refine w1b ?_ | refine w1p ?_ | ((first | refine w1r ?_ | refine w1k ?_ | refine w1e ?_); (refine sy1 ?_; try exact True.intro)) | refine an2 ?_ | fail)
      refine ⟨i + 1, by omega, by omega, by rfl, ?_⟩
      (refine syE ?_; try exact True.intro)
  · obtain rfl : i = l.length := by omega
    rw [List.take_length]
    repeat' (first | refine w1g ?_ | refine w1l ?_ | refine w1q ?_ | refine w1b ?_ | refine w1p ?_ | ((first | refine w1r ?_ | refine w1k ?_ | refine w1e ?_); (refine sy1 ?_; try exact True.intro)) | refine an2 ?_ | fail)
    exact W_ret ⟨[_], ⟨⟨by simp, rfl⟩, rfl⟩, rfl⟩
theorem fn116 (l : List Pce) (hl : l.length ≤ 32) (h : ∀ i, i < l.length → pceB (pc l i) = true) : Sy.Fn Try.prog 116 [aPc l] (iv (smM l)) := by
  refine Fn_of_W mixed Xt116 rfl ?_
  repeat' (first | refine w1g ?_ | refine w1l ?_ | refine w1q ?_ | refine w1b ?_ | refine w1p ?_ | ((first | refine w1r ?_ | refine w1k ?_ | refine w1e ?_); (refine sy1 ?_; try exact True.intro)) | refine an2 ?_ | fail)
  refine W_loopU (fun i : Nat => [(3, iv (smM (l.take i))), (4, iv i)]) (fun i => []) (fun i => i ≤ l.length) (fun i => l.length - i) 0 (by omega) (by rfl) (by rfl) (fun i hi => ?_)
  (refine sy1 ?_; try exact True.intro)
  repeat' (first | refine w1g ?_ | refine w1l ?_ | refine w1q ?_ | refine w1b ?_ | refine w1p ?_ | ((first | refine w1r ?_ | refine w1k ?_ | refine w1e ?_); (refine sy1 ?_; try exact True.intro)) | refine an2 ?_ | fail)
  refine W_condD (by rfl) (fun h5 => ?_) (fun h5 => ?_)
  · have hlt : i < l.length := by omega
    have hp := h i hlt
    have hpc : l.getD i dPc = pc l i := rfl
    obtain ⟨r1, _⟩ := sm_rng h i (by omega)
    have e1 := smM_succ hlt
    generalize pc l i = p at *
    generalize smM (l.take i) = M at *
    obtain ⟨_, h4⟩ := pceB_iff.1 hp
    repeat' (first | refine w1g ?_ | refine w1l ?_ | refine w1q ?_ | refine w1b ?_ | refine w1p ?_ | ((first | refine w1r ?_ | refine w1k ?_ | refine w1e ?_); simp (maxSteps := 400000) (disch := omega) only [push_cast, ↓reduceIte, reduceCtorEq, Nat.reduceAdd, Nat.reduceSub, Nat.reduceEqDiff, Nat.reduceLeDiff, Nat.reduceLT, Nat.reduceBEq, Nat.reduceDiv, Nat.reduceMod, Nat.reducePow, Nat.reduceMul, Int.reduceToNat, Int.reduceLT, Int.reduceLE, hpc]) | refine an2 ?_ | fail)
    refine ⟨i + 1, by omega, by omega, by rfl, ?_⟩
    rw [e1]
    (refine syE ?_; try exact True.intro)
  · obtain rfl : i = l.length := by omega
    rw [List.take_length]
    repeat' (first | refine w1g ?_ | refine w1l ?_ | refine w1q ?_ | refine w1b ?_ | refine w1p ?_ | ((first | refine w1r ?_ | refine w1k ?_ | refine w1e ?_); (refine sy1 ?_; try exact True.intro)) | refine an2 ?_ | fail)
    exact W_ret ⟨[_], ⟨rfl, rfl⟩, rfl⟩
theorem fn115 (l : List Pce) (hl : l.length ≤ 32) (h : ∀ i, i < l.length → pceB (pc l i) = true) : Sy.Fn Try.prog 115 [aPc l] (.agg [iv (smK l 0), iv (smK l 1), iv (smK l 2)]) := by
  refine Fn_of_W mixed Xt115 rfl ?_
  repeat' (first | refine w1g ?_ | refine w1l ?_ | refine w1q ?_ | refine w1b ?_ | refine w1p ?_ | ((first | refine w1r ?_ | refine w1k ?_ | refine w1e ?_); (refine sy1 ?_; try exact True.intro)) | refine an2 ?_ | fail)
  trace_state
  refine W_loopU (fun i : Nat => [(4, iv i)]) (fun i => [(1, .cells [iv (smK (l.take i) 0), iv (smK (l.take i) 1), iv (smK (l.take i) 2)])]) (fun i => i ≤ l.length) (fun i => l.length - i) 0 (by omega) (by rfl) (by rfl) (fun i hi => ?_)
  (refine sy1 ?_; try exact True.intro)
  repeat' (first | refine w1g ?_ | refine w1l ?_ | refine w1q ?_ | refine w1b ?_ | refine w1p ?_ | ((first | refine w1r ?_ | refine w1k ?_ | refine w1e ?_); (refine sy1 ?_; try exact True.intro)) | refine an2 ?_ | fail)
  refine W_condD (by rfl) (fun h5 => ?_) (fun h5 => ?_)
  · have hlt : i < l.length := by omega
    have hp := h i hlt
    have hpc : l.getD i dPc = pc l i := rfl
    obtain ⟨_, r2⟩ := sm_rng h i (by omega)
    have e2 := smK_succ hlt
    generalize pc l i = p at *
    generalize smK (l.take i) = F at *
    obtain ⟨⟨h1, h2, h3⟩, h4⟩ := pceB_iff.1 hp
    have w0 : 2 * p.x + p.l = p.x + (p.x + p.l) := by omega
    have w1 : 2 * p.y + p.w = p.y + (p.y + p.w) := by omega
    have w2 : 2 * p.z + p.h = p.z + (p.z + p.h) := by omega
    have q0 : (-262144 ≤ p.x + (p.x + p.l) ∧ p.x + (p.x + p.l) ≤ 262144) ∧ -4398046511104 ≤ p.m * (p.x + (p.x + p.l)) ∧ p.m * (p.x + (p.x + p.l)) ≤ 4398046511104 := mo_rng hp 0
    have q1 : (-262144 ≤ p.y + (p.y + p.w) ∧ p.y + (p.y + p.w) ≤ 262144) ∧ -4398046511104 ≤ p.m * (p.y + (p.y + p.w)) ∧ p.m * (p.y + (p.y + p.w)) ≤ 4398046511104 := mo_rng hp 1
    have q2 : (-262144 ≤ p.z + (p.z + p.h) ∧ p.z + (p.z + p.h) ≤ 262144) ∧ -4398046511104 ≤ p.m * (p.z + (p.z + p.h)) ∧ p.m * (p.z + (p.z + p.h)) ≤ 4398046511104 := mo_rng hp 2
    have f0 := r2 0
    have f1 := r2 1
    have f2 := r2 2
    repeat' (first | refine w1g ?_ | refine w1l ?_ | refine w1q ?_ | refine w1b ?_ | refine w1p ?_ | ((first | refine w1r ?_ | refine w1k ?_ | refine w1e ?_); simp (maxSteps := 400000) (disch := omega) only [push_cast, ↓reduceIte, reduceCtorEq, Nat.reduceAdd, Nat.reduceSub, Nat.reduceEqDiff, Nat.reduceLeDiff, Nat.reduceLT, Nat.reduceBEq, Nat.reduceDiv, Nat.reduceMod, Nat.reducePow, Nat.reduceMul, Int.reduceToNat, Int.reduceLT, Int.reduceLE, hpc, w0, w1, w2]) | refine an2 ?_ | fail)
    refine ⟨i + 1, by omega, by omega, by rfl, ?_⟩
    rw [e2, e2, e2, show mo p 0 = p.m * (p.x + (p.x + p.l)) from rfl, show mo p 1 = p.m * (p.y + (p.y + p.w)) from rfl, show mo p 2 = p.m * (p.z + (p.z + p.h)) from rfl]
    (refine syE ?_; try exact True.intro)
  · obtain rfl : i = l.length := by omega
    rw [List.take_length]
    repeat' (first | refine w1g ?_ | refine w1l ?_ | refine w1q ?_ | refine w1b ?_ | refine w1p ?_ | ((first | refine w1r ?_ | refine w1k ?_ | refine w1e ?_); (refine sy1 ?_; try exact True.intro)) | refine an2 ?_ | fail)
    exact W_ret ⟨[_], ⟨⟨by simp, rfl⟩, rfl⟩, rfl⟩
end Go.Proofs.Ytfkjdjlcaojedaa

namespace Go.Proofs.Ytfkjdjlcaojedaa
open Go Sy
set_option maxRecDepth 100000
set_option maxHeartbeats 4000000
set_option linter.unusedVariables false
set_option linter.unusedSimpArgs false
def gEy (l : List Eye) (i : Nat) : Eye := l.getD i dEy
structure OkL (l : Lod) : Prop where
  n1 : 1 ≤ l.ps.length
  n2 : l.ps.length ≤ 32
  n3 : l.es.length ≤ 32
  nm : nameB l.name = true
  fr : inR l.fr 0 1000 = true
  pc : ∀ i, i < l.ps.length → pceB (pc l.ps i) = true
  ey : ∀ i, i < l.es.length → eyeB (gEy l.es i) = true
  ms : inR (smM l.ps) 1 16777216 = true
open Classical in
noncomputable def chkL (l : Lod) : Int := if l.ps.length < 1 ∨ 32 < l.ps.length ∨ 32 < l.es.length then 6 else if OkL l then 0 else 2
theorem chkL_many {l : Lod} (h : l.ps.length < 1 ∨ 32 < l.ps.length ∨ 32 < l.es.length) : chkL l = 6 := by unfold chkL; rw [if_pos h]
theorem chkL_bad {l : Lod} (h : ¬ (l.ps.length < 1 ∨ 32 < l.ps.length ∨ 32 < l.es.length)) (h2 : ¬ OkL l) : chkL l = 2 := by unfold chkL; rw [if_neg h, if_neg h2]
theorem chkL_ok {l : Lod} (h : OkL l) : chkL l = 0 := by
  have := h.n1; have := h.n2; have := h.n3
  unfold chkL; rw [if_neg (by omega), if_pos h]
theorem chkL_zero {l : Lod} (h : chkL l = 0) : OkL l := by
  unfold chkL at h
  split at h
  · omega
  · split at h
    · assumption
    · omega
theorem fn111 (l : Lod) (h1 : l.ps.length ≤ 140737488355328) (h2 : l.es.length ≤ 140737488355328) : Sy.Fn Try.prog 111 [.agg (cLd l)] (iv (chkL l)) := by
  refine Fn_of_W mixed Xt111 rfl ?_
  repeat' (first | refine w1g ?_ | refine w1l ?_ | refine w1q ?_ | refine w1b ?_ | refine w1p ?_ | ((first | refine w1r ?_ | refine w1k ?_ | refine w1e ?_); (refine sy1 ?_; try exact True.intro)) | refine an2 ?_ | fail)
  refine W_cond (by rfl) (fun h => ?_) (fun h => ?_)
  · rw [chkL_many (by simp only [Bool.or_eq_true, decide_eq_true_eq] at h; omega)]
    repeat' (first | refine w1g ?_ | refine w1l ?_ | refine w1q ?_ | refine w1b ?_ | refine w1p ?_ | ((first | refine w1r ?_ | refine w1k ?_ | refine w1e ?_); (refine sy1 ?_; try exact True.intro)) | refine an2 ?_ | fail)
    exact W_ret ⟨[_], ⟨rfl, rfl⟩, rfl⟩
  simp only [Bool.or_eq_false_iff, decide_eq_false_iff_not] at h
  have hm : ¬ (l.ps.length < 1 ∨ 32 < l.ps.length ∨ 32 < l.es.length) := by omega
  have c131 := fn131 l.name
  repeat' (first | refine w1g ?_ | refine w1l ?_ | refine w1q ?_ | refine w1b ?_ | refine w1p ?_ | ((first | refine w1r ?_ | refine w1k ?_ | refine w1e ?_ | refine CallC.now (c131) ?_ | refine CallC.go _ (fun _ => ⟨trivial, fn132 _ _ _⟩) rfl ?_); (refine sy1 ?_; try exact True.intro)) | refine an2 ?_ | fail)
  refine W_cond (by rfl) (fun hb => ?_) (fun hb => ?_)
  · rw [chkL_bad hm (fun q => by rw [q.nm, q.fr] at hb; cases hb)]
    repeat' (first | refine w1g ?_ | refine w1l ?_ | refine w1q ?_ | refine w1b ?_ | refine w1p ?_ | ((first | refine w1r ?_ | refine w1k ?_ | refine w1e ?_); (refine sy1 ?_; try exact True.intro)) | refine an2 ?_ | fail)
    exact W_ret ⟨[_], ⟨rfl, rfl⟩, rfl⟩
  simp only [Bool.or_eq_false_iff, Bool.not_eq_false'] at hb
  repeat' (first | refine w1g ?_ | refine w1l ?_ | refine w1q ?_ | refine w1b ?_ | refine w1p ?_ | ((first | refine w1r ?_ | refine w1k ?_ | refine w1e ?_); (refine sy1 ?_; try exact True.intro)) | refine an2 ?_ | fail)
  refine W_loopU (fun i : Nat => [(36, iv i)]) (fun i => []) (fun i => i ≤ l.ps.length ∧ ∀ j, j < i → pceB (pc l.ps j) = true) (fun i => l.ps.length - i) 0 ⟨by omega, fun j hj => by omega⟩ (by rfl) (by rfl) (fun i hi => ?_)
  obtain ⟨hi, hall⟩ := hi
  (refine sy1 ?_; try exact True.intro)
  repeat' (first | refine w1g ?_ | refine w1l ?_ | refine w1q ?_ | refine w1b ?_ | refine w1p ?_ | ((first | refine w1r ?_ | refine w1k ?_ | refine w1e ?_); (refine sy1 ?_; try exact True.intro)) | refine an2 ?_ | fail)
  refine W_condD (by rfl) (fun h5 => ?_) (fun h5 => ?_)
  · have hlt : i < l.ps.length := by omega
    have hpc : l.ps.getD i dPc = pc l.ps i := rfl
    have c133 := fn133 (pc l.ps i)
    generalize hp : pc l.ps i = p at *
    repeat' (first | refine w1g ?_ | refine w1l ?_ | refine w1q ?_ | refine w1b ?_ | refine w1p ?_ | ((first | refine w1r ?_ | refine w1k ?_ | refine w1e ?_ | refine CallC.now (c133) ?_); simp (maxSteps := 400000) (disch := omega) only [push_cast, ↓reduceIte, reduceCtorEq, Nat.reduceAdd, Nat.reduceSub, Nat.reduceEqDiff, Nat.reduceLeDiff, Nat.reduceLT, Nat.reduceBEq, Nat.reduceDiv, Nat.reduceMod, Nat.reducePow, Nat.reduceMul, Int.reduceToNat, Int.reduceLT, Int.reduceLE, hpc]) | refine an2 ?_ | fail)
    refine W_cond (by rfl) (fun hq => ?_) (fun hq => ?_)
    · rw [chkL_bad hm (fun q => by rw [← hp, q.pc i hlt] at hq; cases hq)]
      repeat' (first | refine w1g ?_ | refine w1l ?_ | refine w1q ?_ | refine w1b ?_ | refine w1p ?_ | ((first | refine w1r ?_ | refine w1k ?_ | refine w1e ?_); (refine sy1 ?_; try exact True.intro)) | refine an2 ?_ | fail)
      exact W_ret ⟨[_], ⟨rfl, rfl⟩, rfl⟩
    · repeat' (first | refine w1g ?_ | refine w1l ?_ | refine w1q ?_ | refine w1b ?_ | refine w1p ?_ | ((first | refine w1r ?_ | refine w1k ?_ | refine w1e ?_); (refine sy1 ?_; try exact True.intro)) | refine an2 ?_ | fail)
      refine ⟨i + 1, ⟨by omega, up_all hall (by rw [hp]; simpa using hq)⟩, by omega, by rfl, ?_⟩
      (refine syE ?_; try exact True.intro)
  have hpc : ∀ j, j < l.ps.length → pceB (pc l.ps j) = true := fun j hj => hall j (by omega)
  repeat' (first | refine w1g ?_ | refine w1l ?_ | refine w1q ?_ | refine w1b ?_ | refine w1p ?_ | ((first | refine w1r ?_ | refine w1k ?_ | refine w1e ?_); (refine sy1 ?_; try exact True.intro)) | refine an2 ?_ | fail)
  refine W_loopU (fun i : Nat => [(47, iv i)]) (fun i => []) (fun i => i ≤ l.es.length ∧ ∀ j, j < i → eyeB (gEy l.es j) = true) (fun i => l.es.length - i) 0 ⟨by omega, fun j hj => by omega⟩ (by rfl) (by rfl) (fun i hi => ?_)
  obtain ⟨hi, hall2⟩ := hi
  (refine sy1 ?_; try exact True.intro)
  repeat' (first | refine w1g ?_ | refine w1l ?_ | refine w1q ?_ | refine w1b ?_ | refine w1p ?_ | ((first | refine w1r ?_ | refine w1k ?_ | refine w1e ?_); (refine sy1 ?_; try exact True.intro)) | refine an2 ?_ | fail)
  refine W_condD (by rfl) (fun h6 => ?_) (fun h6 => ?_)
  · have hlt : i < l.es.length := by omega
    have hey : l.es.getD i dEy = gEy l.es i := rfl
    have c134 := fn134 (gEy l.es i)
    generalize hp : gEy l.es i = p at *
    repeat' (first | refine w1g ?_ | refine w1l ?_ | refine w1q ?_ | refine w1b ?_ | refine w1p ?_ | ((first | refine w1r ?_ | refine w1k ?_ | refine w1e ?_ | refine CallC.now (c134) ?_); simp (maxSteps := 400000) (disch := omega) only [push_cast, ↓reduceIte, reduceCtorEq, Nat.reduceAdd, Nat.reduceSub, Nat.reduceEqDiff, Nat.reduceLeDiff, Nat.reduceLT, Nat.reduceBEq, Nat.reduceDiv, Nat.reduceMod, Nat.reducePow, Nat.reduceMul, Int.reduceToNat, Int.reduceLT, Int.reduceLE, hey]) | refine an2 ?_ | fail)
    refine W_cond (by rfl) (fun hq => ?_) (fun hq => ?_)
    · rw [chkL_bad hm (fun q => by rw [← hp, q.ey i hlt] at hq; cases hq)]
      repeat' (first | refine w1g ?_ | refine w1l ?_ | refine w1q ?_ | refine w1b ?_ | refine w1p ?_ | ((first | refine w1r ?_ | refine w1k ?_ | refine w1e ?_); (refine sy1 ?_; try exact True.intro)) | refine an2 ?_ | fail)
      exact W_ret ⟨[_], ⟨rfl, rfl⟩, rfl⟩
    · repeat' (first | refine w1g ?_ | refine w1l ?_ | refine w1q ?_ | refine w1b ?_ | refine w1p ?_ | ((first | refine w1r ?_ | refine w1k ?_ | refine w1e ?_); (refine sy1 ?_; try exact True.intro)) | refine an2 ?_ | fail)
      refine ⟨i + 1, ⟨by omega, up_all hall2 (by rw [hp]; simpa using hq)⟩, by omega, by rfl, ?_⟩
      (refine syE ?_; try exact True.intro)
  have hey : ∀ j, j < l.es.length → eyeB (gEy l.es j) = true := fun j hj => hall2 j (by omega)
  have c112 := fn112 l.ps (by omega) hpc
  repeat' (first | refine w1g ?_ | refine w1l ?_ | refine w1q ?_ | refine w1b ?_ | refine w1p ?_ | ((first | refine w1r ?_ | refine w1k ?_ | refine w1e ?_ | refine CallC.now (c112) ?_ | refine CallC.now (fn132 _ _ _) ?_); (refine sy1 ?_; try exact True.intro)) | refine an2 ?_ | fail)
  refine W_cond (by rfl) (fun hq => ?_) (fun hq => ?_)
  · rw [chkL_bad hm (fun q => by rw [q.ms] at hq; cases hq)]
    repeat' (first | refine w1g ?_ | refine w1l ?_ | refine w1q ?_ | refine w1b ?_ | refine w1p ?_ | ((first | refine w1r ?_ | refine w1k ?_ | refine w1e ?_); (refine sy1 ?_; try exact True.intro)) | refine an2 ?_ | fail)
    exact W_ret ⟨[_], ⟨rfl, rfl⟩, rfl⟩
  · rw [chkL_ok ⟨by omega, by omega, by omega, hb.1, hb.2, hpc, hey, by simpa using hq⟩]
    repeat' (first | refine w1g ?_ | refine w1l ?_ | refine w1q ?_ | refine w1b ?_ | refine w1p ?_ | ((first | refine w1r ?_ | refine w1k ?_ | refine w1e ?_); (refine sy1 ?_; try exact True.intro)) | refine an2 ?_ | fail)
    exact W_ret ⟨[_], ⟨rfl, rfl⟩, rfl⟩
theorem fn114 (l : Lod) (h1 : l.ps.length ≤ 140737488355328) (h2 : l.es.length ≤ 140737488355328) : Sy.Fn Try.prog 114 [.agg (cLd l)] (iv (chkL l)) := by
  refine Fn_of_W mixed Xt114 rfl ?_
  repeat' (first | refine w1g ?_ | refine w1l ?_ | refine w1q ?_ | refine w1b ?_ | refine w1p ?_ | ((first | refine w1r ?_ | refine w1k ?_ | refine w1e ?_); (refine sy1 ?_; try exact True.intro)) | refine an2 ?_ | fail)
  refine W_cond (by rfl) (fun h => ?_) (fun h => ?_)
  · rw [chkL_many (by simp only [Bool.or_eq_true, decide_eq_true_eq] at h; omega)]
    repeat' (first | refine w1g ?_ | refine w1l ?_ | refine w1q ?_ | refine w1b ?_ | refine w1p ?_ | ((first | refine w1r ?_ | refine w1k ?_ | refine w1e ?_); (refine sy1 ?_; try exact True.intro)) | refine an2 ?_ | fail)
    exact W_ret ⟨[_], ⟨rfl, rfl⟩, rfl⟩
  simp only [Bool.or_eq_false_iff, decide_eq_false_iff_not] at h
  have hm : ¬ (l.ps.length < 1 ∨ 32 < l.ps.length ∨ 32 < l.es.length) := by omega
  repeat' (first | refine w1g ?_ | refine w1l ?_ | refine w1q ?_ | refine w1b ?_ | refine w1p ?_ | ((first | refine w1r ?_ | refine w1k ?_ | refine w1e ?_); (refine sy1 ?_; try exact True.intro)) | refine an2 ?_ | fail)
  refine W_loopU (fun i : Nat => [(3, iv (smM (l.ps.take i))), (4, iv i)]) (fun i => []) (fun i => i ≤ l.ps.length ∧ (∀ j, j < i → pceB (pc l.ps j) = true) ∧ 0 ≤ smM (l.ps.take i) ∧ smM (l.ps.take i) ≤ i * 16777216) (fun i => l.ps.length - i) 0 ⟨by omega, fun j hj => by omega, by simp [smM], by simp [smM]⟩ (by rfl) (by rfl) (fun i hi => ?_)
  obtain ⟨hi, hall, hs1, hs2⟩ := hi
  (refine sy1 ?_; try exact True.intro)
  repeat' (first | refine w1g ?_ | refine w1l ?_ | refine w1q ?_ | refine w1b ?_ | refine w1p ?_ | ((first | refine w1r ?_ | refine w1k ?_ | refine w1e ?_); (refine sy1 ?_; try exact True.intro)) | refine an2 ?_ | fail)
  refine W_condD (by rfl) (fun h5 => ?_) (fun h5 => ?_)
  · have hlt : i < l.ps.length := by omega
    have hpc : l.ps.getD i dPc = pc l.ps i := rfl
    have c136 := fn136 (pc l.ps i)
    have e1 := smM_succ hlt
    generalize hp : pc l.ps i = p at *
    generalize smM (l.ps.take i) = M at *
    repeat' (first | refine w1g ?_ | refine w1l ?_ | refine w1q ?_ | refine w1b ?_ | refine w1p ?_ | ((first | refine w1r ?_ | refine w1k ?_ | refine w1e ?_ | refine CallC.now (c136) ?_); simp (maxSteps := 400000) (disch := omega) only [push_cast, ↓reduceIte, reduceCtorEq, Nat.reduceAdd, Nat.reduceSub, Nat.reduceEqDiff, Nat.reduceLeDiff, Nat.reduceLT, Nat.reduceBEq, Nat.reduceDiv, Nat.reduceMod, Nat.reducePow, Nat.reduceMul, Int.reduceToNat, Int.reduceLT, Int.reduceLE, hpc]) | refine an2 ?_ | fail)
    refine W_cond (by rfl) (fun hq => ?_) (fun hq => ?_)
    · rw [chkL_bad hm (fun q => by rw [← hp, q.pc i hlt] at hq; cases hq)]
      repeat' (first | refine w1g ?_ | refine w1l ?_ | refine w1q ?_ | refine w1b ?_ | refine w1p ?_ | ((first | refine w1r ?_ | refine w1k ?_ | refine w1e ?_); (refine sy1 ?_; try exact True.intro)) | refine an2 ?_ | fail)
      exact W_ret ⟨[_], ⟨rfl, rfl⟩, rfl⟩
    · have hpb : pceB p = true := by simpa using hq
      obtain ⟨_, h4⟩ := pceB_iff.1 hpb
      repeat' (first | refine w1g ?_ | refine w1l ?_ | refine w1q ?_ | refine w1b ?_ | refine w1p ?_ | ((first | refine w1r ?_ | refine w1k ?_ | refine w1e ?_); simp (maxSteps := 400000) (disch := omega) only [push_cast, ↓reduceIte, reduceCtorEq, Nat.reduceAdd, Nat.reduceSub, Nat.reduceEqDiff, Nat.reduceLeDiff, Nat.reduceLT, Nat.reduceBEq, Nat.reduceDiv, Nat.reduceMod, Nat.reducePow, Nat.reduceMul, Int.reduceToNat, Int.reduceLT, Int.reduceLE, hpc]) | refine an2 ?_ | fail)
      refine ⟨i + 1, ⟨by omega, up_all hall (by rw [hp]; exact hpb), by omega, by omega⟩, by omega, by rfl, ?_⟩
      rw [e1]
      (refine syE ?_; try exact True.intro)
  have hpc : ∀ j, j < l.ps.length → pceB (pc l.ps j) = true := fun j hj => hall j (by omega)
  obtain rfl : i = l.ps.length := by omega
  rw [List.take_length]
  repeat' (first | refine w1g ?_ | refine w1l ?_ | refine w1q ?_ | refine w1b ?_ | refine w1p ?_ | ((first | refine w1r ?_ | refine w1k ?_ | refine w1e ?_); (refine sy1 ?_; try exact True.intro)) | refine an2 ?_ | fail)
  refine W_loopU (fun i : Nat => [(5, iv i)]) (fun i => []) (fun i => i ≤ l.es.length ∧ ∀ j, j < i → eyeB (gEy l.es j) = true) (fun i => l.es.length - i) 0 ⟨by omega, fun j hj => by omega⟩ (by rfl) (by rfl) (fun i hi => ?_)
  obtain ⟨hi, hall2⟩ := hi
  (refine sy1 ?_; try exact True.intro)
  repeat' (first | refine w1g ?_ | refine w1l ?_ | refine w1q ?_ | refine w1b ?_ | refine w1p ?_ | ((first | refine w1r ?_ | refine w1k ?_ | refine w1e ?_); (refine sy1 ?_; try exact True.intro)) | refine an2 ?_ | fail)
  refine W_condD (by rfl) (fun h6 => ?_) (fun h6 => ?_)
  · have hlt : i < l.es.length := by omega
    have hey : l.es.getD i dEy = gEy l.es i := rfl
    have c137 := fn137 (gEy l.es i)
    generalize hp : gEy l.es i = p at *
    repeat' (first | refine w1g ?_ | refine w1l ?_ | refine w1q ?_ | refine w1b ?_ | refine w1p ?_ | ((first | refine w1r ?_ | refine w1k ?_ | refine w1e ?_ | refine CallC.now (c137) ?_); simp (maxSteps := 400000) (disch := omega) only [push_cast, ↓reduceIte, reduceCtorEq, Nat.reduceAdd, Nat.reduceSub, Nat.reduceEqDiff, Nat.reduceLeDiff, Nat.reduceLT, Nat.reduceBEq, Nat.reduceDiv, Nat.reduceMod, Nat.reducePow, Nat.reduceMul, Int.reduceToNat, Int.reduceLT, Int.reduceLE, hey]) | refine an2 ?_ | fail)
    refine W_cond (by rfl) (fun hq => ?_) (fun hq => ?_)
    · rw [chkL_bad hm (fun q => by rw [← hp, q.ey i hlt] at hq; cases hq)]
      repeat' (first | refine w1g ?_ | refine w1l ?_ | refine w1q ?_ | refine w1b ?_ | refine w1p ?_ | ((first | refine w1r ?_ | refine w1k ?_ | refine w1e ?_); (refine sy1 ?_; try exact True.intro)) | refine an2 ?_ | fail)
      exact W_ret ⟨[_], ⟨rfl, rfl⟩, rfl⟩
    · repeat' (first | refine w1g ?_ | refine w1l ?_ | refine w1q ?_ | refine w1b ?_ | refine w1p ?_ | ((first | refine w1r ?_ | refine w1k ?_ | refine w1e ?_); (refine sy1 ?_; try exact True.intro)) | refine an2 ?_ | fail)
      refine ⟨i + 1, ⟨by omega, up_all hall2 (by rw [hp]; simpa using hq)⟩, by omega, by rfl, ?_⟩
      (refine syE ?_; try exact True.intro)
  have hey : ∀ j, j < l.es.length → eyeB (gEy l.es j) = true := fun j hj => hall2 j (by omega)
  have c138 := fn138 l.name
  repeat' (first | refine w1g ?_ | refine w1l ?_ | refine w1q ?_ | refine w1b ?_ | refine w1p ?_ | ((first | refine w1r ?_ | refine w1k ?_ | refine w1e ?_ | refine CallC.now (c138) ?_ | refine CallC.go _ (fun _ => ⟨trivial, fn139 _ _ _⟩) rfl ?_); (refine sy1 ?_; try exact True.intro)) | refine an2 ?_ | fail)
  refine W_cond (by rfl) (fun hq => ?_) (fun hq => ?_)
  · rw [chkL_bad hm (fun q => by rw [q.ms, q.nm, q.fr] at hq; cases hq)]
    repeat' (first | refine w1g ?_ | refine w1l ?_ | refine w1q ?_ | refine w1b ?_ | refine w1p ?_ | ((first | refine w1r ?_ | refine w1k ?_ | refine w1e ?_); (refine sy1 ?_; try exact True.intro)) | refine an2 ?_ | fail)
    exact W_ret ⟨[_], ⟨rfl, rfl⟩, rfl⟩
  · simp only [Bool.or_eq_false_iff, Bool.not_eq_false'] at hq
    rw [chkL_ok ⟨by omega, by omega, by omega, hq.1.1, hq.2, hpc, hey, hq.1.2⟩]
    repeat' (first | refine w1g ?_ | refine w1l ?_ | refine w1q ?_ | refine w1b ?_ | refine w1p ?_ | ((first | refine w1r ?_ | refine w1k ?_ | refine w1e ?_); (refine sy1 ?_; try exact True.intro)) | refine an2 ?_ | fail)
    exact W_ret ⟨[_], ⟨rfl, rfl⟩, rfl⟩
end Go.Proofs.Ytfkjdjlcaojedaa

namespace Go.Proofs.Ytfkjdjlcaojedaa
open Go Sy
set_option maxRecDepth 100000
set_option maxHeartbeats 4000000
set_option linter.unusedVariables false
set_option linter.unusedSimpArgs false
noncomputable def masV (l : Lod) : Int := if chkL l = 0 then smM l.ps else 0
def cq (l : Lod) (k : Nat) : Int := (smK l.ps k + smM l.ps) / (2 * smM l.ps)
noncomputable def cenP (l : Lod) : Ctr := if chkL l = 0 then ⟨cq l 0, cq l 1, cq l 2⟩ else ⟨0, 0, 0⟩
theorem ok_rng {l : Lod} (h : OkL l) : (1 ≤ smM l.ps ∧ smM l.ps ≤ 16777216) ∧ ∀ k, -140737488355328 ≤ smK l.ps k ∧ smK l.ps k ≤ 140737488355328 := by
  have h1 := inR_iff.1 h.ms
  have h2 := (sm_rng h.pc l.ps.length (Nat.le_refl _)).2
  rw [List.take_length] at h2
  have := h.n2
  exact ⟨h1, fun k => by have := h2 k; omega⟩
theorem fn87 (l : Lod) (h1 : l.ps.length ≤ 140737488355328) (h2 : l.es.length ≤ 140737488355328) : Sy.Fn Try.prog 87 [.agg (cLd l)] (.tup [iv (masV l), iv (chkL l)]) := by
  refine Fn_of_W mixed Xt87 rfl ?_
  have c111 := fn111 l h1 h2
  repeat' (first | refine w1g ?_ | refine w1l ?_ | refine w1q ?_ | refine w1b ?_ | refine w1p ?_ | ((first | refine w1r ?_ | refine w1k ?_ | refine w1e ?_ | refine CallC.now (c111) ?_); (refine sy1 ?_; try exact True.intro)) | refine an2 ?_ | fail)
  refine W_cond (by rfl) (fun h => ?_) (fun h => ?_)
  · have h0 : ¬ chkL l = 0 := by simpa using h
    rw [show masV l = 0 by unfold masV; rw [if_neg h0]]
    repeat' (first | refine w1g ?_ | refine w1l ?_ | refine w1q ?_ | refine w1b ?_ | refine w1p ?_ | ((first | refine w1r ?_ | refine w1k ?_ | refine w1e ?_); (refine sy1 ?_; try exact True.intro)) | refine an2 ?_ | fail)
    exact W_ret ⟨[_, _], ⟨rfl, rfl, rfl⟩, rfl⟩
  · have h0 : chkL l = 0 := by simpa using h
    have ok := chkL_zero h0
    have c112 := fn112 l.ps ok.n2 ok.pc
    rw [show masV l = smM l.ps by unfold masV; rw [if_pos h0], h0]
    repeat' (first | refine w1g ?_ | refine w1l ?_ | refine w1q ?_ | refine w1b ?_ | refine w1p ?_ | ((first | refine w1r ?_ | refine w1k ?_ | refine w1e ?_ | refine CallC.now (c112) ?_); (refine sy1 ?_; try exact True.intro)) | refine an2 ?_ | fail)
    exact W_ret ⟨[_, _], ⟨rfl, rfl, rfl⟩, rfl⟩
theorem fn89 (l : Lod) (h1 : l.ps.length ≤ 140737488355328) (h2 : l.es.length ≤ 140737488355328) : Sy.Fn Try.prog 89 [.agg (cLd l)] (.tup [iv (masV l), iv (chkL l)]) := by
  refine Fn_of_W mixed Xt89 rfl ?_
  have c114 := fn114 l h1 h2
  repeat' (first | refine w1g ?_ | refine w1l ?_ | refine w1q ?_ | refine w1b ?_ | refine w1p ?_ | ((first | refine w1r ?_ | refine w1k ?_ | refine w1e ?_ | refine CallC.now (c114) ?_); (refine sy1 ?_; try exact True.intro)) | refine an2 ?_ | fail)
  refine W_cond (by rfl) (fun h => ?_) (fun h => ?_)
  · have h0 : ¬ chkL l = 0 := by simpa using h
    rw [show masV l = 0 by unfold masV; rw [if_neg h0]]
    repeat' (first | refine w1g ?_ | refine w1l ?_ | refine w1q ?_ | refine w1b ?_ | refine w1p ?_ | ((first | refine w1r ?_ | refine w1k ?_ | refine w1e ?_ | refine CallC.now (c114) ?_); (refine sy1 ?_; try exact True.intro)) | refine an2 ?_ | fail)
    exact W_ret ⟨[_, _], ⟨rfl, rfl, rfl⟩, rfl⟩
  · have h0 : chkL l = 0 := by simpa using h
    have ok := chkL_zero h0
    have c116 := fn116 l.ps ok.n2 ok.pc
    rw [show masV l = smM l.ps by unfold masV; rw [if_pos h0], h0]
    repeat' (first | refine w1g ?_ | refine w1l ?_ | refine w1q ?_ | refine w1b ?_ | refine w1p ?_ | ((first | refine w1r ?_ | refine w1k ?_ | refine w1e ?_ | refine CallC.now (c116) ?_); (refine sy1 ?_; try exact True.intro)) | refine an2 ?_ | fail)
    exact W_ret ⟨[_, _], ⟨rfl, rfl, rfl⟩, rfl⟩
def ck (l : Lod) (k j : Nat) : Int := if j < k then cq l j else 0
theorem fn86 (l : Lod) (h1 : l.ps.length ≤ 140737488355328) (h2 : l.es.length ≤ 140737488355328) : Sy.Fn Try.prog 86 [.agg (cLd l)] (.tup [.agg (cCt (cenP l)), iv (chkL l)]) := by
  refine Fn_of_W mixed Xt86 rfl ?_
  have c111 := fn111 l h1 h2
  repeat' (first | refine w1g ?_ | refine w1l ?_ | refine w1q ?_ | refine w1b ?_ | refine w1p ?_ | ((first | refine w1r ?_ | refine w1k ?_ | refine w1e ?_ | refine CallC.now (c111) ?_); (refine sy1 ?_; try exact True.intro)) | refine an2 ?_ | fail)
  refine W_cond (by rfl) (fun h => ?_) (fun h => ?_)
  · have h0 : ¬ chkL l = 0 := by simpa using h
    rw [show cenP l = ⟨0, 0, 0⟩ by unfold cenP; rw [if_neg h0]]
    repeat' (first | refine w1g ?_ | refine w1l ?_ | refine w1q ?_ | refine w1b ?_ | refine w1p ?_ | ((first | refine w1r ?_ | refine w1k ?_ | refine w1e ?_); (refine sy1 ?_; try exact True.intro)) | refine an2 ?_ | fail)
    exact W_ret ⟨[_, _], ⟨⟨by simp [c3], rfl⟩, rfl, rfl⟩, rfl⟩
  · have h0 : chkL l = 0 := by simpa using h
    have ok := chkL_zero h0
    have c112 := fn112 l.ps ok.n2 ok.pc
    obtain ⟨r1, r2⟩ := ok_rng ok
    have f0 := r2 0
    have f1 := r2 1
    have f2 := r2 2
    rw [show cenP l = ⟨cq l 0, cq l 1, cq l 2⟩ by unfold cenP; rw [if_pos h0], h0]
    repeat' (first | refine w1g ?_ | refine w1l ?_ | refine w1q ?_ | refine w1b ?_ | refine w1p ?_ | ((first | refine w1r ?_ | refine w1k ?_ | refine w1e ?_ | refine CallC.now (c112) ?_); (refine sy1 ?_; try exact True.intro)) | refine an2 ?_ | fail)
    refine W_loopU (fun k : Nat => [(19, iv k)]) (fun k => [(1, .cells [iv (ck l k 0), iv (ck l k 1), iv (ck l k 2)])]) (fun k => k ≤ 3) (fun k => 3 - k) 0 (by omega) (by rfl) (by rfl) (fun k hk => ?_)
    (refine sy1 ?_; try exact True.intro)
    repeat' (first | refine w1g ?_ | refine w1l ?_ | refine w1q ?_ | refine w1b ?_ | refine w1p ?_ | ((first | refine w1r ?_ | refine w1k ?_ | refine w1e ?_); (refine sy1 ?_; try exact True.intro)) | refine an2 ?_ | fail)
    refine W_condD (by rfl) (fun h6 => ?_) (fun h6 => ?_)
    · obtain rfl | rfl | rfl : k = 0 ∨ k = 1 ∨ k = 2 := by omega
      · rw [show ck l 0 0 = 0 from rfl, show ck l 0 1 = 0 from rfl, show ck l 0 2 = 0 from rfl]
        have cd : Sy.Fn Try.prog 113 [iv (smK l.ps 0 + smM l.ps), iv (2 * smM l.ps)] (iv (cq l 0)) := fn113 (smK l.ps 0 + smM l.ps) (2 * smM l.ps) (by omega) (by omega)
        repeat' (first | refine w1g ?_ | refine w1l ?_ | refine w1q ?_ | refine w1b ?_ | refine w1p ?_ | ((first | refine w1r ?_ | refine w1k ?_ | refine w1e ?_ | refine CallC.now (cd) ?_); simp (maxSteps := 400000) (disch := omega) only [push_cast, ↓reduceIte, reduceCtorEq, Nat.reduceAdd, Nat.reduceSub, Nat.reduceEqDiff, Nat.reduceLeDiff, Nat.reduceLT, Nat.reduceBEq, Nat.reduceDiv, Nat.reduceMod, Nat.reducePow, Nat.reduceMul, Int.reduceToNat, Int.reduceLT, Int.reduceLE, Nat.mul_one]) | refine an2 ?_ | fail)
        refine ⟨1, by omega, by omega, by rfl, ?_⟩
        rw [show ck l 1 0 = cq l 0 from rfl, show ck l 1 1 = 0 from rfl, show ck l 1 2 = 0 from rfl]
        (refine syE ?_; try exact True.intro)
      · rw [show ((1 : Nat) : Int) = 1 from rfl, show ck l 1 0 = cq l 0 from rfl, show ck l 1 1 = 0 from rfl, show ck l 1 2 = 0 from rfl]
        have cd : Sy.Fn Try.prog 113 [iv (smK l.ps 1 + smM l.ps), iv (2 * smM l.ps)] (iv (cq l 1)) := fn113 (smK l.ps 1 + smM l.ps) (2 * smM l.ps) (by omega) (by omega)
        repeat' (first | refine w1g ?_ | refine w1l ?_ | refine w1q ?_ | refine w1b ?_ | refine w1p ?_ | ((first | refine w1r ?_ | refine w1k ?_ | refine w1e ?_ | refine CallC.now (cd) ?_); simp (maxSteps := 400000) (disch := omega) only [push_cast, ↓reduceIte, reduceCtorEq, Nat.reduceAdd, Nat.reduceSub, Nat.reduceEqDiff, Nat.reduceLeDiff, Nat.reduceLT, Nat.reduceBEq, Nat.reduceDiv, Nat.reduceMod, Nat.reducePow, Nat.reduceMul, Int.reduceToNat, Int.reduceLT, Int.reduceLE, Nat.mul_one]) | refine an2 ?_ | fail)
        refine ⟨2, by omega, by omega, by rfl, ?_⟩
        rw [show ck l 2 0 = cq l 0 from rfl, show ck l 2 1 = cq l 1 from rfl, show ck l 2 2 = 0 from rfl]
        (refine syE ?_; try exact True.intro)
        rfl
      · rw [show ((2 : Nat) : Int) = 2 from rfl, show ck l 2 0 = cq l 0 from rfl, show ck l 2 1 = cq l 1 from rfl, show ck l 2 2 = 0 from rfl]
        have cd : Sy.Fn Try.prog 113 [iv (smK l.ps 2 + smM l.ps), iv (2 * smM l.ps)] (iv (cq l 2)) := fn113 (smK l.ps 2 + smM l.ps) (2 * smM l.ps) (by omega) (by omega)
        repeat' (first | refine w1g ?_ | refine w1l ?_ | refine w1q ?_ | refine w1b ?_ | refine w1p ?_ | ((first | refine w1r ?_ | refine w1k ?_ | refine w1e ?_ | refine CallC.now (cd) ?_); simp (maxSteps := 400000) (disch := omega) only [push_cast, ↓reduceIte, reduceCtorEq, Nat.reduceAdd, Nat.reduceSub, Nat.reduceEqDiff, Nat.reduceLeDiff, Nat.reduceLT, Nat.reduceBEq, Nat.reduceDiv, Nat.reduceMod, Nat.reducePow, Nat.reduceMul, Int.reduceToNat, Int.reduceLT, Int.reduceLE, Nat.mul_one]) | refine an2 ?_ | fail)
        refine ⟨3, by omega, by omega, by rfl, ?_⟩
        rw [show ck l 3 0 = cq l 0 from rfl, show ck l 3 1 = cq l 1 from rfl, show ck l 3 2 = cq l 2 from rfl]
        (refine syE ?_; try exact True.intro)
        rfl
    · obtain rfl : k = 3 := by omega
      rw [show ck l 3 0 = cq l 0 from rfl, show ck l 3 1 = cq l 1 from rfl, show ck l 3 2 = cq l 2 from rfl]
      repeat' (first | refine w1g ?_ | refine w1l ?_ | refine w1q ?_ | refine w1b ?_ | refine w1p ?_ | ((first | refine w1r ?_ | refine w1k ?_ | refine w1e ?_); (refine sy1 ?_; try exact True.intro)) | refine an2 ?_ | fail)
      exact W_ret ⟨[_, _], ⟨⟨by simp [c3], rfl⟩, rfl, rfl⟩, rfl⟩
theorem fn88 (l : Lod) (h1 : l.ps.length ≤ 140737488355328) (h2 : l.es.length ≤ 140737488355328) : Sy.Fn Try.prog 88 [.agg (cLd l)] (.tup [.agg (cCt (cenP l)), iv (chkL l)]) := by
  refine Fn_of_W mixed Xt88 rfl ?_
  have c114 := fn114 l h1 h2
  repeat' (first | refine w1g ?_ | refine w1l ?_ | refine w1q ?_ | refine w1b ?_ | refine w1p ?_ | ((first | refine w1r ?_ | refine w1k ?_ | refine w1e ?_ | refine CallC.now (c114) ?_); (refine sy1 ?_; try exact True.intro)) | refine an2 ?_ | fail)
  refine W_cond (by rfl) (fun h => ?_) (fun h => ?_)
  · have h0 : ¬ chkL l = 0 := by simpa using h
    rw [show cenP l = ⟨0, 0, 0⟩ by unfold cenP; rw [if_neg h0]]
    repeat' (first | refine w1g ?_ | refine w1l ?_ | refine w1q ?_ | refine w1b ?_ | refine w1p ?_ | ((first | refine w1r ?_ | refine w1k ?_ | refine w1e ?_ | refine CallC.now (c114) ?_); (refine sy1 ?_; try exact True.intro)) | refine an2 ?_ | fail)
    exact W_ret ⟨[_, _], ⟨⟨by simp [c3], rfl⟩, rfl, rfl⟩, rfl⟩
  · have h0 : chkL l = 0 := by simpa using h
    have ok := chkL_zero h0
    have c115 := fn115 l.ps ok.n2 ok.pc
    have c116 := fn116 l.ps ok.n2 ok.pc
    obtain ⟨r1, r2⟩ := ok_rng ok
    have f0 := r2 0
    have f1 := r2 1
    have f2 := r2 2
    rw [show cenP l = ⟨cq l 0, cq l 1, cq l 2⟩ by unfold cenP; rw [if_pos h0], h0]
    repeat' (first | refine w1g ?_ | refine w1l ?_ | refine w1q ?_ | refine w1b ?_ | refine w1p ?_ | ((first | refine w1r ?_ | refine w1k ?_ | refine w1e ?_ | refine CallC.now (c115) ?_ | refine CallC.now (c116) ?_); (refine sy1 ?_; try exact True.intro)) | refine an2 ?_ | fail)
    refine W_loopU (fun k : Nat => [(7, iv k)]) (fun k => [(15, .cells [iv (ck l k 0), iv (ck l k 1), iv (ck l k 2)])]) (fun k => k ≤ 3) (fun k => 3 - k) 0 (by omega) (by rfl) (by rfl) (fun k hk => ?_)
    (refine sy1 ?_; try exact True.intro)
    repeat' (first | refine w1g ?_ | refine w1l ?_ | refine w1q ?_ | refine w1b ?_ | refine w1p ?_ | ((first | refine w1r ?_ | refine w1k ?_ | refine w1e ?_); (refine sy1 ?_; try exact True.intro)) | refine an2 ?_ | fail)
    refine W_condD (by rfl) (fun h6 => ?_) (fun h6 => ?_)
    · obtain rfl | rfl | rfl : k = 0 ∨ k = 1 ∨ k = 2 := by omega
      · rw [show ck l 0 0 = 0 from rfl, show ck l 0 1 = 0 from rfl, show ck l 0 2 = 0 from rfl]
        have cd : Sy.Fn Try.prog 101 [iv (smK l.ps 0 + smM l.ps), iv (2 * smM l.ps)] (iv (cq l 0)) := fn101 (smK l.ps 0 + smM l.ps) (2 * smM l.ps) ⟨by omega, by omega⟩ (by omega)
        repeat' (first | refine w1g ?_ | refine w1l ?_ | refine w1q ?_ | refine w1b ?_ | refine w1p ?_ | ((first | refine w1r ?_ | refine w1k ?_ | refine w1e ?_ | refine CallC.now (cd) ?_); simp (maxSteps := 400000) (disch := omega) only [push_cast, ↓reduceIte, reduceCtorEq, Nat.reduceAdd, Nat.reduceSub, Nat.reduceEqDiff, Nat.reduceLeDiff, Nat.reduceLT, Nat.reduceBEq, Nat.reduceDiv, Nat.reduceMod, Nat.reducePow, Nat.reduceMul, Int.reduceToNat, Int.reduceLT, Int.reduceLE, Nat.mul_one]) | refine an2 ?_ | fail)
        refine ⟨1, by omega, by omega, by rfl, ?_⟩
        rw [show ck l 1 0 = cq l 0 from rfl, show ck l 1 1 = 0 from rfl, show ck l 1 2 = 0 from rfl]
        (refine syE ?_; try exact True.intro)
      · rw [show ((1 : Nat) : Int) = 1 from rfl, show ck l 1 0 = cq l 0 from rfl, show ck l 1 1 = 0 from rfl, show ck l 1 2 = 0 from rfl]
        have cd : Sy.Fn Try.prog 101 [iv (smK l.ps 1 + smM l.ps), iv (2 * smM l.ps)] (iv (cq l 1)) := fn101 (smK l.ps 1 + smM l.ps) (2 * smM l.ps) ⟨by omega, by omega⟩ (by omega)
        repeat' (first | refine w1g ?_ | refine w1l ?_ | refine w1q ?_ | refine w1b ?_ | refine w1p ?_ | ((first | refine w1r ?_ | refine w1k ?_ | refine w1e ?_ | refine CallC.now (cd) ?_); simp (maxSteps := 400000) (disch := omega) only [push_cast, ↓reduceIte, reduceCtorEq, Nat.reduceAdd, Nat.reduceSub, Nat.reduceEqDiff, Nat.reduceLeDiff, Nat.reduceLT, Nat.reduceBEq, Nat.reduceDiv, Nat.reduceMod, Nat.reducePow, Nat.reduceMul, Int.reduceToNat, Int.reduceLT, Int.reduceLE, Nat.mul_one]) | refine an2 ?_ | fail)
        refine ⟨2, by omega, by omega, by rfl, ?_⟩
        rw [show ck l 2 0 = cq l 0 from rfl, show ck l 2 1 = cq l 1 from rfl, show ck l 2 2 = 0 from rfl]
        (refine syE ?_; try exact True.intro)
        rfl
      · rw [show ((2 : Nat) : Int) = 2 from rfl, show ck l 2 0 = cq l 0 from rfl, show ck l 2 1 = cq l 1 from rfl, show ck l 2 2 = 0 from rfl]
        have cd : Sy.Fn Try.prog 101 [iv (smK l.ps 2 + smM l.ps), iv (2 * smM l.ps)] (iv (cq l 2)) := fn101 (smK l.ps 2 + smM l.ps) (2 * smM l.ps) ⟨by omega, by omega⟩ (by omega)
        repeat' (first | refine w1g ?_ | refine w1l ?_ | refine w1q ?_ | refine w1b ?_ | refine w1p ?_ | ((first | refine w1r ?_ | refine w1k ?_ | refine w1e ?_ | refine CallC.now (cd) ?_); simp (maxSteps := 400000) (disch := omega) only [push_cast, ↓reduceIte, reduceCtorEq, Nat.reduceAdd, Nat.reduceSub, Nat.reduceEqDiff, Nat.reduceLeDiff, Nat.reduceLT, Nat.reduceBEq, Nat.reduceDiv, Nat.reduceMod, Nat.reducePow, Nat.reduceMul, Int.reduceToNat, Int.reduceLT, Int.reduceLE, Nat.mul_one]) | refine an2 ?_ | fail)
        refine ⟨3, by omega, by omega, by rfl, ?_⟩
        rw [show ck l 3 0 = cq l 0 from rfl, show ck l 3 1 = cq l 1 from rfl, show ck l 3 2 = cq l 2 from rfl]
        (refine syE ?_; try exact True.intro)
        rfl
    · obtain rfl : k = 3 := by omega
      rw [show ck l 3 0 = cq l 0 from rfl, show ck l 3 1 = cq l 1 from rfl, show ck l 3 2 = cq l 2 from rfl]
      repeat' (first | refine w1g ?_ | refine w1l ?_ | refine w1q ?_ | refine w1b ?_ | refine w1p ?_ | ((first | refine w1r ?_ | refine w1k ?_ | refine w1e ?_); (refine sy1 ?_; try exact True.intro)) | refine an2 ?_ | fail)
      exact W_ret ⟨[_, _], ⟨⟨by simp [c3], rfl⟩, rfl, rfl⟩, rfl⟩
noncomputable def sdE (ps : List Sup) (l : Lod) (s a : Pt) : Int := if chkP ps ≠ 0 then chkP ps else if chkL l ≠ 0 then chkL l else if footE (cenP l) s a ≠ 0 then footE (cenP l) s a else sharesE ps (masV l) (footP (cenP l) s a)
noncomputable def sdV (ps : List Sup) (l : Lod) (s a : Pt) : Nat → Int := if chkP ps ≠ 0 then fun _ => 0 else if chkL l ≠ 0 then fun _ => 0 else if footE (cenP l) s a ≠ 0 then fun _ => 0 else sharesV ps (masV l) (footP (cenP l) s a)
theorem fn45 (ps : List Sup) (l : Lod) (s a : Pt) (hl : ps.length ≤ 140737488355328) (h1 : l.ps.length ≤ 140737488355328) (h2 : l.es.length ≤ 140737488355328) : Sy.Fn Try.prog 45 [aP ps, .agg (cLd l), .agg (cPt s), .agg (cPt a)] (.tup [.agg (c3 (sdV ps l s a)), iv (sdE ps l s a)]) := by
  refine Fn_of_W mixed Xt45 rfl ?_
  have c56 := fn56 ps hl
  have c86 := fn86 l h1 h2
  have c87 := fn87 l h1 h2
  have c29 := fn29 (cenP l) s a
  unfold sdE sdV
  by_cases g1 : chkP ps = 0
  rotate_left
  · rw [dkR_bad rfl g1] at c56
    rw [if_pos g1, if_pos g1]
    repeat' (first | refine w1g ?_ | refine w1l ?_ | refine w1q ?_ | refine w1b ?_ | refine w1p ?_ | ((first | refine w1r ?_ | refine w1k ?_ | refine w1e ?_ | refine CallC.now (c56) ?_); (refine sy1 ?_; try exact True.intro)) | refine an2 ?_ | fail)
    refine W_cond (by rfl) (fun _ => ?_) (fun h => absurd (by simpa using h) g1)
    repeat' (first | refine w1g ?_ | refine w1l ?_ | refine w1q ?_ | refine w1b ?_ | refine w1p ?_ | ((first | refine w1r ?_ | refine w1k ?_ | refine w1e ?_); (refine sy1 ?_; try exact True.intro)) | refine an2 ?_ | fail)
    exact W_ret ⟨[_, _], ⟨⟨by simp [c3], rfl⟩, rfl, rfl⟩, rfl⟩
  have c56 := _root_.Go.Proofs.Ytfkjdjlcaojedaa.c56 ps hl g1
  have c59 := fn59 ps (masV l) (footP (cenP l) s a) g1
  have gn : ¬ chkP ps ≠ 0 := by simpa using g1
  rw [if_neg gn, if_neg gn]
  repeat' (first | refine w1g ?_ | refine w1l ?_ | refine w1q ?_ | refine w1b ?_ | refine w1p ?_ | ((first | refine w1r ?_ | refine w1k ?_ | refine w1e ?_ | refine CallC.now (c56) ?_); (refine sy1 ?_; try exact True.intro)) | refine an2 ?_ | fail)
  refine W_cond (by rfl) (fun h => by cases h) (fun _ => ?_)
  repeat' (first | refine w1g ?_ | refine w1l ?_ | refine w1q ?_ | refine w1b ?_ | refine w1p ?_ | ((first | refine w1r ?_ | refine w1k ?_ | refine w1e ?_ | refine CallC.now (c86) ?_); (refine sy1 ?_; try exact True.intro)) | refine an2 ?_ | fail)
  refine W_cond (by rfl) (fun h => ?_) (fun h => ?_)
  · have g2 : chkL l ≠ 0 := by simpa using h
    rw [if_pos g2, if_pos g2]
    repeat' (first | refine w1g ?_ | refine w1l ?_ | refine w1q ?_ | refine w1b ?_ | refine w1p ?_ | ((first | refine w1r ?_ | refine w1k ?_ | refine w1e ?_); (refine sy1 ?_; try exact True.intro)) | refine an2 ?_ | fail)
    exact W_ret ⟨[_, _], ⟨⟨by simp [c3], rfl⟩, rfl, rfl⟩, rfl⟩
  have g2 : ¬ chkL l ≠ 0 := by simpa using h
  rw [if_neg g2, if_neg g2]
  repeat' (first | refine w1g ?_ | refine w1l ?_ | refine w1q ?_ | refine w1b ?_ | refine w1p ?_ | ((first | refine w1r ?_ | refine w1k ?_ | refine w1e ?_ | refine CallC.now (c29) ?_); (refine sy1 ?_; try exact True.intro)) | refine an2 ?_ | fail)
  refine W_cond (by rfl) (fun h => ?_) (fun h => ?_)
  · have g3 : footE (cenP l) s a ≠ 0 := by simpa using h
    rw [if_pos g3, if_pos g3]
    repeat' (first | refine w1g ?_ | refine w1l ?_ | refine w1q ?_ | refine w1b ?_ | refine w1p ?_ | ((first | refine w1r ?_ | refine w1k ?_ | refine w1e ?_); (refine sy1 ?_; try exact True.intro)) | refine an2 ?_ | fail)
    exact W_ret ⟨[_, _], ⟨⟨by simp [c3], rfl⟩, rfl, rfl⟩, rfl⟩
  have g3 : ¬ footE (cenP l) s a ≠ 0 := by simpa using h
  rw [if_neg g3, if_neg g3]
  repeat' (first | refine w1g ?_ | refine w1l ?_ | refine w1q ?_ | refine w1b ?_ | refine w1p ?_ | ((first | refine w1r ?_ | refine w1k ?_ | refine w1e ?_ | refine CallC.now (c87) ?_ | refine CallC.now (c59) ?_); (refine sy1 ?_; try exact True.intro)) | refine an2 ?_ | fail)
  exact W_ret ⟨[_, _], ⟨⟨by simp [c3], rfl⟩, rfl, rfl⟩, rfl⟩
theorem fn46 (ps : List Sup) (l : Lod) (s a : Pt) (hl : ps.length ≤ 140737488355328) (h1 : l.ps.length ≤ 140737488355328) (h2 : l.es.length ≤ 140737488355328) : Sy.Fn Try.prog 46 [aP ps, .agg (cLd l), .agg (cPt s), .agg (cPt a)] (.tup [.agg (c3 (sdV ps l s a)), iv (sdE ps l s a)]) := by
  refine Fn_of_W mixed Xt46 rfl ?_
  have c28 := fn28 ps hl
  have c88 := fn88 l h1 h2
  have c89 := fn89 l h1 h2
  have c30 := fn30 (cenP l) s a
  unfold sdE sdV
  repeat' (first | refine w1g ?_ | refine w1l ?_ | refine w1q ?_ | refine w1b ?_ | refine w1p ?_ | ((first | refine w1r ?_ | refine w1k ?_ | refine w1e ?_ | refine CallC.now (c28) ?_); (refine sy1 ?_; try exact True.intro)) | refine an2 ?_ | fail)
  refine W_cond (by rfl) (fun h => ?_) (fun h => ?_)
  · have g1 : chkP ps ≠ 0 := by simpa using h
    rw [if_pos g1, if_pos g1]
    repeat' (first | refine w1g ?_ | refine w1l ?_ | refine w1q ?_ | refine w1b ?_ | refine w1p ?_ | ((first | refine w1r ?_ | refine w1k ?_ | refine w1e ?_ | refine CallC.now (c28) ?_); (refine sy1 ?_; try exact True.intro)) | refine an2 ?_ | fail)
    exact W_ret ⟨[_, _], ⟨⟨by simp [c3], rfl⟩, rfl, rfl⟩, rfl⟩
  have g1 : chkP ps = 0 := by simpa using h
  have c64 := fn64 ps (masV l) (footP (cenP l) s a) g1
  have gn : ¬ chkP ps ≠ 0 := by simpa using g1
  rw [if_neg gn, if_neg gn]
  repeat' (first | refine w1g ?_ | refine w1l ?_ | refine w1q ?_ | refine w1b ?_ | refine w1p ?_ | ((first | refine w1r ?_ | refine w1k ?_ | refine w1e ?_ | refine CallC.now (c88) ?_); (refine sy1 ?_; try exact True.intro)) | refine an2 ?_ | fail)
  refine W_cond (by rfl) (fun h => ?_) (fun h => ?_)
  · have g2 : chkL l ≠ 0 := by simpa using h
    rw [if_pos g2, if_pos g2]
    repeat' (first | refine w1g ?_ | refine w1l ?_ | refine w1q ?_ | refine w1b ?_ | refine w1p ?_ | ((first | refine w1r ?_ | refine w1k ?_ | refine w1e ?_); (refine sy1 ?_; try exact True.intro)) | refine an2 ?_ | fail)
    exact W_ret ⟨[_, _], ⟨⟨by simp [c3], rfl⟩, rfl, rfl⟩, rfl⟩
  have g2 : ¬ chkL l ≠ 0 := by simpa using h
  rw [if_neg g2, if_neg g2]
  repeat' (first | refine w1g ?_ | refine w1l ?_ | refine w1q ?_ | refine w1b ?_ | refine w1p ?_ | ((first | refine w1r ?_ | refine w1k ?_ | refine w1e ?_ | refine CallC.now (c89) ?_ | refine CallC.now (c30) ?_); (refine sy1 ?_; try exact True.intro)) | refine an2 ?_ | fail)
  refine W_cond (by rfl) (fun h => ?_) (fun h => ?_)
  · have g3 : footE (cenP l) s a ≠ 0 := by simpa using h
    rw [if_pos g3, if_pos g3]
    repeat' (first | refine w1g ?_ | refine w1l ?_ | refine w1q ?_ | refine w1b ?_ | refine w1p ?_ | ((first | refine w1r ?_ | refine w1k ?_ | refine w1e ?_); (refine sy1 ?_; try exact True.intro)) | refine an2 ?_ | fail)
    exact W_ret ⟨[_, _], ⟨⟨by simp [c3], rfl⟩, rfl, rfl⟩, rfl⟩
  have g3 : ¬ footE (cenP l) s a ≠ 0 := by simpa using h
  rw [if_neg g3, if_neg g3]
  repeat' (first | refine w1g ?_ | refine w1l ?_ | refine w1q ?_ | refine w1b ?_ | refine w1p ?_ | ((first | refine w1r ?_ | refine w1k ?_ | refine w1e ?_ | refine CallC.now (c64) ?_); (refine sy1 ?_; try exact True.intro)) | refine an2 ?_ | fail)
  exact W_ret ⟨[_, _], ⟨⟨by simp [c3], rfl⟩, rfl, rfl⟩, rfl⟩
theorem fn13 (ps : List Sup) (l : Lod) (s a : Pt) (hl : ps.length ≤ 140737488355328) (h1 : l.ps.length ≤ 140737488355328) (h2 : l.es.length ≤ 140737488355328) : Sy.Fn Try.prog 13 [aP ps, .agg (cLd l), .agg (cPt s), .agg (cPt a)] (bv true) := by
  refine Fn_of_W mixed Xt13 rfl ?_
  have c45 := fn45 ps l s a hl h1 h2
  have c46 := fn46 ps l s a hl h1 h2
  repeat' (first | refine w1g ?_ | refine w1l ?_ | refine w1q ?_ | refine w1b ?_ | refine w1p ?_ | ((first | refine w1r ?_ | refine w1k ?_ | refine w1e ?_); (refine sy1 ?_; try exact True.intro)) | refine an2 ?_ | fail)
  refine W_cond (by rfl) (fun h => ?_) (fun h => ?_)
  · repeat' (first | refine w1g ?_ | refine w1l ?_ | refine w1q ?_ | refine w1b ?_ | refine w1p ?_ | ((first | refine w1r ?_ | refine w1k ?_ | refine w1e ?_ | refine CallC.now (fn17) ?_); (refine sy1 ?_; try exact True.intro)) | refine an2 ?_ | fail)
    exact W_ret ⟨[_], ⟨rfl, rfl⟩, rfl⟩
  repeat' (first | refine w1g ?_ | refine w1l ?_ | refine w1q ?_ | refine w1b ?_ | refine w1p ?_ | ((first | refine w1r ?_ | refine w1k ?_ | refine w1e ?_ | refine CallC.now (c45) ?_ | refine CallC.now (c46) ?_ | refine CallC.go _ (fun _ => ⟨trivial, fn17⟩) rfl ?_); (refine sy1 ?_; try exact True.intro)) | refine an2 ?_ | fail)
  refine W_ret ⟨[_], ⟨rfl, rfl⟩, ?_⟩
  simp
  rfl
end Go.Proofs.Ytfkjdjlcaojedaa

namespace Go.Proofs.Ytfkjdjlcaojedaa
open Go Sy
set_option maxRecDepth 100000
set_option linter.unusedVariables false
theorem k9t : Codec Try.prog 9 (fun s : ByteArray => [tx s]) (fun _ => True) := fun H enc w base held fuel cs x hx hw => by
  obtain ⟨s, rfl, hs⟩ := DataW.trod_string Try.underlying9 hx
  refine ⟨s, trivial, ?_⟩
  simp only [fsatL, fsat]
  exact ⟨_, [], rfl, rfl, rfl, rfl⟩
theorem y9t : Try.prog.cellsOf 9 = 1 := by kernel_rfl
theorem y71 : Try.prog.cellsOf 71 = 1 := by kernel_rfl
theorem y72 : Try.prog.cellsOf 72 = 1 := by kernel_rfl
theorem y162 : Try.prog.cellsOf 162 = 7 := by kernel_rfl
theorem y165 : Try.prog.cellsOf 165 = 4 := by kernel_rfl
theorem b162 : Try.prog.bytesOf 162 = 56 := by kernel_rfl
theorem b165 : Try.prog.bytesOf 165 = 32 := by kernel_rfl
theorem k162 : Codec Try.prog 162 cPc (fun _ => True) :=
  (Codec.struct Try.underlying162 (by kernel_rfl) (by kernel_rfl) (Parts.cons k2 y2 (Parts.cons k2 y2 (Parts.cons k2 y2 (Parts.cons k2 y2 (Parts.cons k2 y2 (Parts.cons k2 y2 (Parts.cons k2 y2 Parts.nil)))))))).map
    (fun x => ⟨x.1, x.2.1, x.2.2.1, x.2.2.2.1, x.2.2.2.2.1, x.2.2.2.2.2.1, x.2.2.2.2.2.2.1⟩) (fun _ => rfl) (fun _ _ => trivial)
theorem k165 : Codec Try.prog 165 cEy (fun _ => True) :=
  (Codec.struct Try.underlying165 (by kernel_rfl) (by kernel_rfl) (Parts.cons k2 y2 (Parts.cons k2 y2 (Parts.cons k2 y2 (Parts.cons k2 y2 Parts.nil))))).map
    (fun x => ⟨x.1, x.2.1, x.2.2.1, x.2.2.2.1⟩) (fun _ => rfl) (fun _ _ => trivial)
theorem k71 : Codec Try.prog 71 (fun l : List Pce => [aPc l]) (fun l => l.length * 56 ≤ 140737488351232) :=
  (Codec.slice Try.underlying71 (by rw [y162]; decide) y162 b162 dPc k162).map id (fun _ => rfl) (fun _ h => h.1)
theorem k72 : Codec Try.prog 72 (fun l : List Eye => [aEy l]) (fun l => l.length * 32 ≤ 140737488351232) :=
  (Codec.slice Try.underlying72 (by rw [y165]; decide) y165 b165 dEy k165).map id (fun _ => rfl) (fun _ h => h.1)
abbrev OL (l : Lod) : Prop := l.ps.length * 56 ≤ 140737488351232 ∧ l.es.length * 32 ≤ 140737488351232
theorem k74 : Codec Try.prog 74 cLd OL :=
  (Codec.struct Try.underlying74 (by kernel_rfl) (by kernel_rfl) (Parts.cons k9t y9t (Parts.cons k71 y71 (Parts.cons k72 y72 (Parts.cons k2 y2 Parts.nil))))).map
    (fun x => ⟨x.1, x.2.1, x.2.2.1, x.2.2.2.1⟩) (fun _ => rfl) (fun _ h => ⟨h.2.1, h.2.2.1⟩)
end Go.Proofs.Ytfkjdjlcaojedaa

namespace Go.Proofs.Ytfkjdjlcaojedaa
open Go Sy Go.ChangeShapes Go.WideShapes Go.RowKit
set_option maxRecDepth 100000
set_option linter.unusedVariables false
theorem own : ownKnob Try.prog.godebug = none := by kernel_rfl
theorem laidOut : laidOutB Try.prog = true := by kernel_rfl
theorem walk13 (W : World) (v0 v1 v2 v3 : Value) (ps : List Sup) (l : Lod) (s : Pt) (a : Pt) (h0 : fsat (inW W) W (aP ps) v0) (h1 : fsat (inW W) W (.agg (cLd l)) v1) (h2 : fsat (inW W) W (.agg (cPt s)) v2) (h3 : fsat (inW W) W (.agg (cPt a)) v3) (ops : ps.length * 48 ≤ 140737488351232 ∧ ∀ s ∈ ps, OSup s) (ol : OL l) (os : I64 s.x ∧ I64 s.y) (oa : I64 a.x ∧ I64 a.y) :
    Calls Try.prog 13 #[v0, v1, v2, v3] W fun e w' => e = .returned (.bool true) ∧ Below W.heap.size W w' := by
  have hf : Sy.Fn Try.prog 13 [aP ps, .agg (cLd l), .agg (cPt s), .agg (cPt a)] (bv true) := fn13 ps l s a (by have := ops.1; omega) (by have := ol.1; omega) (by have := ol.2; omega)
  refine (hf.2 (inW W) W [v0, v1, v2, v3] (fun b hb => hb) ?_).mono ?_
  · simp only [fsatT]
    exact ⟨v0, _, rfl, h0, v1, _, rfl, h1, v2, _, rfl, h2, v3, _, rfl, h3, rfl⟩
  · rintro e w' ⟨v, rfl, hb, hv⟩
    simp only [fsat] at hv
    exact ⟨by rw [hv], hb⟩
theorem lifted13 (os : Os) (started : os.Started) (H : Type) (enc : TypeId × Value → H) :
    ReturnsInHanded {} Try.checked os 13 .any (Rows.staticsStandsSpec.pre6 enc Try.prog Try.f13 Rows.staticsStandsRow.domain false) (Rows.staticsStandsSpec.post enc Try.prog Try.f13 false true false false) := by
  refine returnsInHanded_of_change_sized (C := Try.checked) own started (by kernel_rfl) Try.func13
    (ChangeSpec.witness6 (enc := enc) (C := Try.checked) false ⟨#[], #[.slice none 0 0, .agg #[.string ⟨#[]⟩, .slice none 0 0, .slice none 0 0, .int .i64 0], .agg #[.int .i64 0, .int .i64 0], .agg #[.int .i64 0, .int .i64 0]], []⟩ 8 (by kernel_rfl) (by kernel_rfl) (by kernel_rfl) (by kernel_rfl)) ?_
  intro W base args ds gs before hval0 hW hcnd hsz _
  have hval : ∀ (j : Nat) t v, Try.f13.params[j]? = some t → args[j]? = some v → Value.okWide Try.prog W .any base t v := hval0
  have hW' := hW
  obtain ⟨p, q, hA0, hV, rfl, hfz, hnd⟩ := hW
  have hA : DataW.TrodAll enc Try.prog W 0 (fun _ => true) true Try.f13.params.toList args.toList ds p := hA0
  rw [Try.params13] at hA hval
  obtain ⟨v0, vs0, d0, ds0, p0, q0, hargs, rfl, rfl, h0, r0⟩ := trodAll_cons hA
  obtain ⟨v1, vs1, d1, ds1, p1, q1, rfl, rfl, rfl, h1, r1⟩ := trodAll_cons r0
  obtain ⟨v2, vs2, d2, ds2, p2, q2, rfl, rfl, rfl, h2, r2⟩ := trodAll_cons r1
  obtain ⟨v3, vs3, d3, ds3, p3, q3, rfl, rfl, rfl, h3, r3⟩ := trodAll_cons r2
  obtain ⟨rfl, rfl, rfl⟩ := trodAll_nil r3
  obtain rfl : args = #[v0, v1, v2, v3] := by cases args; simp_all
  obtain ⟨rfl, rfl⟩ := trodVars_none hV
  have hs : ∀ (j : Nat) t (d : DataW H), [27, 74, 46, 46][j]? = some t → [d0, d1, d2, d3][j]? = some d → ∀ n ∈ d.weights Try.prog t, n ≤ reachBytes := fun j t d ht hd n hn => by
    have hall := List.all_eq_true.1 hsz n (DataW.weights_mem_each (j := j) (t := t) (d := d) (by rw [Try.params13]; simpa using (List.getElem?_append_left (l₂ := _) (by have := (List.getElem?_eq_some_iff.1 ht).1; simpa using this)).trans ht) (by simpa using (List.getElem?_append_left (l₂ := _) (by have := (List.getElem?_eq_some_iff.1 hd).1; simpa using this)).trans hd) n hn)
    simpa using hall
  have lt0 : ∀ x ∈ p0, x.block < W.heap.size := by obtain ⟨m, hm⟩ := h0; exact DataW.trod_lt m _ _ _ hm
  have lt1 : ∀ x ∈ p1, x.block < W.heap.size := by obtain ⟨m, hm⟩ := h1; exact DataW.trod_lt m _ _ _ hm
  have lt2 : ∀ x ∈ p2, x.block < W.heap.size := by obtain ⟨m, hm⟩ := h2; exact DataW.trod_lt m _ _ _ hm
  have lt3 : ∀ x ∈ p3, x.block < W.heap.size := by obtain ⟨m, hm⟩ := h3; exact DataW.trod_lt m _ _ _ hm
  obtain ⟨ps, ops, s0⟩ := k27.arg1 (by kernel_rfl) (hval 0 27 v0 rfl rfl) h0 (hs 0 27 d0 rfl rfl)
  obtain ⟨l, ol, s1⟩ := k74.arg (by kernel_rfl) (hval 1 74 v1 rfl rfl) h1 (hs 1 74 d1 rfl rfl)
  obtain ⟨s, os, s2⟩ := k46.arg (by kernel_rfl) (hval 2 46 v2 rfl rfl) h2 (hs 2 46 d2 rfl rfl)
  obtain ⟨a, oa, s3⟩ := k46.arg (by kernel_rfl) (hval 3 46 v3 rfl rfl) h3 (hs 3 46 d3 rfl rfl)
  clear hA0 hval0
  refine (walk13 W v0 v1 v2 v3 ps l s a s0 s1 s2 s3 ops ol os oa).mono fun e W' ⟨he, bel⟩ => ?_
  subst he
  exact ⟨_, rfl, _, _, _, [], _, [], hW', trodAll_mk1 (shut_bool Try.underlying4 _), (trodAll_cons_mk (Below.trod laidOut (by kernel_rfl) (of_decide_eq_true (by kernel_rfl)) h0 bel lt0) (trodAll_cons_mk (Below.trod laidOut (by kernel_rfl) (of_decide_eq_true (by kernel_rfl)) h1 bel lt1) (trodAll_cons_mk (Below.trod laidOut (by kernel_rfl) (of_decide_eq_true (by kernel_rfl)) h2 bel lt2) (trodAll_cons_mk (Below.trod laidOut (by kernel_rfl) (of_decide_eq_true (by kernel_rfl)) h3 bel lt3) trodAll_mk0)))), rfl, bel.frame _, fun h => by cases h⟩
theorem over13 : Rows.staticsStandsRow.holds Try.pinned (OpenSpec.ofChange Rows.staticsStandsSpec) :=
  OpenClaim.holds_of_wide 13 Try.f13 rfl rfl rfl rfl rfl rfl rfl ⟨rfl, rfl, rfl, rfl, rfl⟩ rfl rfl rfl rfl rfl (by kernel_rfl) Try.func13 (by kernel_rfl)
    (of_decide_eq_true (by kernel_rfl)) (by unfold Func.isWrapper; first | (rw [if_pos (by decide +kernel)]; kernel_rfl) | (rw [if_neg (by decide +kernel)]; exact ⟨rfl, rfl⟩))
    (fun os started H enc _ => lifted13 os started H enc)
theorem statics_stands_holds : Rows.StaticsStandsSaid := over13
end Go.Proofs.Ytfkjdjlcaojedaa

