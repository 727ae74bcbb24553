/- Part 5 of the proof of: RoadHours: for every input the law returns true; each argument reads behind the call as it read before. -/
import Derived.Test.YtfbdlmenhoagmaaP4
namespace Go.Proofs.Ytfbdlmenhoagmaa
open Go Sy
set_option maxRecDepth 100000
set_option maxHeartbeats 4000000
set_option linter.unusedVariables false
set_option linter.unusedSimpArgs false
def cAt (m : Mp) (f : Nat → Int) : List AV := [iv m.n, aR m.rs, aW m.ws, iv (f 0), iv (f 1), iv (f 2), iv (f 3), iv (f 4), iv (f 5)]
theorem nAt0 (m : Mp) (f : Nat → Int) : nth (cAt m f) 0 = iv m.n := rfl
theorem nAt1 (m : Mp) (f : Nat → Int) : nth (cAt m f) 1 = aR m.rs := rfl
theorem nAt2 (m : Mp) (f : Nat → Int) : nth (cAt m f) 2 = aW m.ws := rfl
theorem lAt (m : Mp) (f : Nat → Int) : (cAt m f).length = 9 := rfl
theorem frAt (m : Mp) (f : Nat → Int) : frzAll (cAt m f) = true := rfl
theorem tAt3 (m : Mp) (f : Nat → Int) : List.take 3 (cAt m f) = cM m := rfl
theorem tAt30 (m : Mp) (f : Nat → Int) : List.take 3 (List.drop 0 (cAt m f)) = cM m := rfl
theorem tAt6 (m : Mp) (f : Nat → Int) : List.take 6 (List.drop 3 (cAt m f)) = c6 f := rfl
theorem tAt9 (m : Mp) (f : Nat → Int) : List.take 9 (cAt m f) = cAt m f := rfl
theorem tAt90 (m : Mp) (f : Nat → Int) : List.take 9 (List.drop 0 (cAt m f)) = cAt m f := rfl
theorem iAt {g : Nat → Option Blk} {n : Nat} (m : Mp) (f : Nat → Int) : List.flatMap (ids g n) (cAt m f) = [] := flat_frz n _ (frAt m f)
theorem vAt {g : Nat → Option Blk} {n : Nat} (m : Mp) (f : Nat → Int) : List.map (view g n) (cAt m f) = cAt m f := viewL_frz n _ (frAt m f)
theorem mkAt (m : Mp) (f : Nat → Int) : cM m ++ c6 f = cAt m f := rfl
attribute [push_cast] nAt0 nAt1 nAt2 lAt frAt tAt3 tAt30 tAt6 tAt9 tAt90 iAt vAt mkAt
abbrev aAt (m : Mp) (f : Nat → Int) : AV := .agg (cAt m f)
def zAt : List AV := [iv 0, .v (.slice none 0 0), .v (.slice none 0 0), iv 0, iv 0, iv 0, iv 0, iv 0, iv 0]
def opE (m : Mp) (f : Nat → Int) : Int := if chkM m = 0 then szE f else chkM m
def opV (m : Mp) (f : Nat → Int) : List AV := if chkM m = 0 then cAt m f else zAt
theorem fn52 (m : Mp) (f : Nat → Int) (h : Gm m) : Sy.Fn Try.prog 52 [aM m, .agg (c6 f)] (.tup [.agg (opV m f), iv (opE m f)]) := by
  refine Fn_of_W mixed Xt52 rfl ?_
  unfold opE opV
  repeat' (first | refine w1g ?_ | refine w1l ?_ | refine w1q ?_ | refine w1b ?_ | refine w1p ?_ | ((first | refine w1r ?_ | refine w1k ?_ | refine w1e ?_ | refine CallC.now (fn27 m h) ?_); (refine sy1 ?_; try exact True.intro)) | refine an2 ?_ | fail)
  refine W_cond (by rfl) (fun hb => ?_) (fun hb => ?_)
  · rw [bne_iff_ne] at hb
    rw [if_neg hb, if_neg hb]
    repeat' (first | refine w1g ?_ | refine w1l ?_ | refine w1q ?_ | refine w1b ?_ | refine w1p ?_ | ((first | refine w1r ?_ | refine w1k ?_ | refine w1e ?_); (refine sy1 ?_; try exact True.intro)) | refine an2 ?_ | fail)
    exact W_ret ⟨[_, _], ⟨⟨by simp, rfl⟩, rfl, rfl⟩, rfl⟩
  · rw [bne_eq_false_iff_eq] at hb
    rw [if_pos hb, if_pos hb]
    repeat' (first | refine w1g ?_ | refine w1l ?_ | refine w1q ?_ | refine w1b ?_ | refine w1p ?_ | ((first | refine w1r ?_ | refine w1k ?_ | refine w1e ?_ | refine CallC.now (fn28 f) ?_); (refine sy1 ?_; try exact True.intro)) | refine an2 ?_ | fail)
    refine ⟨rfl, ?_⟩
    exact W_ret ⟨[_, _], ⟨⟨⟨trivial, Nat.le_of_ble_eq_true rfl⟩, rfl⟩, rfl, rfl⟩, rfl⟩
theorem fn113 (m : Mp) (x : Int) : Sy.Fn Try.prog 113 [iv x, .fp (cM m) 0] (bv (!plB m.n x)) := by
  refine Fn_of_W mixed Xt113 rfl ?_
  have e : (decide (x < 0) || decide (m.n ≤ x)) = !plB m.n x := by
    unfold plB
    rw [Bool.eq_iff_iff]
    simp only [Bool.or_eq_true, Bool.not_eq_true', Bool.and_eq_false_iff, decide_eq_true_eq, decide_eq_false_iff_not]
    omega
  rw [← e]
  repeat' (first | refine w1g ?_ | refine w1l ?_ | refine w1q ?_ | refine w1b ?_ | refine w1p ?_ | ((first | refine w1r ?_ | refine w1k ?_ | refine w1e ?_); (refine sy1 ?_; try exact True.intro)) | refine an2 ?_ | fail)
  exact W_ret ⟨[_], ⟨rfl, rfl⟩, rfl⟩
def plsB (m : Mp) (l : List Int) : Bool := !(l.any fun x => !plB m.n x)
theorem fn53 (m : Mp) (l : List Int) (hl : l.length ≤ 1000000) : Sy.Fn Try.prog 53 [aM m, aI l] (iv (if plsB m l = true then 0 else 3)) := by
  refine Fn_of_W mixed Xt53 rfl ?_
  have c70 := fn70 l hl 113 [] [.fp (cM m) 0] (fun x => !plB m.n x) (fun x _ => fn113 m x)
  unfold plsB
  repeat' (first | refine w1g ?_ | refine w1l ?_ | refine w1q ?_ | refine w1b ?_ | refine w1p ?_ | ((first | refine w1r ?_ | refine w1k ?_ | refine w1e ?_ | refine CallC.now (c70) ?_); (refine sy1 ?_; try exact True.intro)) | refine an2 ?_ | fail)
  cases l.any fun x => !plB m.n x
  · refine W_cond (by rfl) (fun h => by cases h) (fun _ => ?_)
    repeat' (first | refine w1g ?_ | refine w1l ?_ | refine w1q ?_ | refine w1b ?_ | refine w1p ?_ | ((first | refine w1r ?_ | refine w1k ?_ | refine w1e ?_); (refine sy1 ?_; try exact True.intro)) | refine an2 ?_ | fail)
    exact W_ret ⟨[_], ⟨rfl, rfl⟩, rfl⟩
  · refine W_cond (by rfl) (fun _ => ?_) (fun h => by cases h)
    repeat' (first | refine w1g ?_ | refine w1l ?_ | refine w1q ?_ | refine w1b ?_ | refine w1p ?_ | ((first | refine w1r ?_ | refine w1k ?_ | refine w1e ?_); (refine sy1 ?_; try exact True.intro)) | refine an2 ?_ | fail)
    exact W_ret ⟨[_], ⟨rfl, rfl⟩, rfl⟩
theorem fn119 (m : Mp) (x : Int) : Sy.Fn Try.prog 119 [iv x, .fp (cM m) 0] (bv (!plB m.rs.length x)) := by
  refine Fn_of_W mixed Xt119 rfl ?_
  have e : (decide (x < 0) || decide ((m.rs.length : Int) ≤ x)) = !plB m.rs.length x := by
    unfold plB
    rw [Bool.eq_iff_iff]
    simp only [Bool.or_eq_true, Bool.not_eq_true', Bool.and_eq_false_iff, decide_eq_true_eq, decide_eq_false_iff_not]
    omega
  rw [← e]
  repeat' (first | refine w1g ?_ | refine w1l ?_ | refine w1q ?_ | refine w1b ?_ | refine w1p ?_ | ((first | refine w1r ?_ | refine w1k ?_ | refine w1e ?_); (refine sy1 ?_; try exact True.intro)) | refine an2 ?_ | fail)
  exact W_ret ⟨[_], ⟨rfl, rfl⟩, rfl⟩
def rdE (m : Mp) (l : List Int) : Int := if 256 < l.length then 6 else if (l.any fun x => !plB m.rs.length x) = true then 3 else 0
theorem fn68 (m : Mp) (l : List Int) (hl : l.length ≤ 1000000) : Sy.Fn Try.prog 68 [aM m, aI l] (iv (rdE m l)) := by
  refine Fn_of_W mixed Xt68 rfl ?_
  have c70 := fn70 l hl 119 [] [.fp (cM m) 0] (fun x => !plB m.rs.length x) (fun x _ => fn119 m x)
  unfold rdE
  repeat' (first | refine w1g ?_ | refine w1l ?_ | refine w1q ?_ | refine w1b ?_ | refine w1p ?_ | ((first | refine w1r ?_ | refine w1k ?_ | refine w1e ?_); (refine sy1 ?_; try exact True.intro)) | refine an2 ?_ | fail)
  refine W_condD (by rfl) (fun h => ?_) (fun h => ?_)
  · rw [if_pos (by omega)]
    repeat' (first | refine w1g ?_ | refine w1l ?_ | refine w1q ?_ | refine w1b ?_ | refine w1p ?_ | ((first | refine w1r ?_ | refine w1k ?_ | refine w1e ?_); (refine sy1 ?_; try exact True.intro)) | refine an2 ?_ | fail)
    exact W_ret ⟨[_], ⟨rfl, rfl⟩, rfl⟩
  rw [if_neg (by omega)]
  repeat' (first | refine w1g ?_ | refine w1l ?_ | refine w1q ?_ | refine w1b ?_ | refine w1p ?_ | ((first | refine w1r ?_ | refine w1k ?_ | refine w1e ?_ | refine CallC.now (c70) ?_); (refine sy1 ?_; try exact True.intro)) | refine an2 ?_ | fail)
  cases l.any fun x => !plB m.rs.length x
  · refine W_cond (by rfl) (fun h => by cases h) (fun _ => ?_)
    repeat' (first | refine w1g ?_ | refine w1l ?_ | refine w1q ?_ | refine w1b ?_ | refine w1p ?_ | ((first | refine w1r ?_ | refine w1k ?_ | refine w1e ?_); (refine sy1 ?_; try exact True.intro)) | refine an2 ?_ | fail)
    exact W_ret ⟨[_], ⟨rfl, rfl⟩, rfl⟩
  · refine W_cond (by rfl) (fun _ => ?_) (fun h => by cases h)
    repeat' (first | refine w1g ?_ | refine w1l ?_ | refine w1q ?_ | refine w1b ?_ | refine w1p ?_ | ((first | refine w1r ?_ | refine w1k ?_ | refine w1e ?_); (refine sy1 ?_; try exact True.intro)) | refine an2 ?_ | fail)
    exact W_ret ⟨[_], ⟨rfl, rfl⟩, rfl⟩
def greatB (m : Mp) : Bool := decide (300 < m.rs.length) || decide (20 < m.ws.length) || (m.ws.any fun w => decide (40 < w.rs.length)) || (chkM m == 0 && (decide (12 < m.n) || decide (30 < m.rs.length) || decide (5 < m.ws.length)))
theorem great_no {m : Mp} (h : greatB m = false) : Gm m ∧ (chkM m = 0 → m.n ≤ 12 ∧ m.rs.length ≤ 30 ∧ m.ws.length ≤ 5) := by
  unfold greatB at h
  simp only [Bool.or_eq_false_iff, Bool.and_eq_false_iff, decide_eq_false_iff_not, beq_eq_false_iff_ne] at h
  obtain ⟨⟨⟨h1, h2⟩, h3⟩, h4⟩ := h
  refine ⟨⟨by omega, by omega, fun w hw => ?_⟩, fun q => ?_⟩
  · have := List.any_eq_false.1 h3 w hw
    simp only [decide_eq_true_eq] at this
    omega
  · rcases h4 with h4 | h4
    · exact absurd q h4
    · omega
theorem fn25 (m : Mp) (hr : m.rs.length ≤ 140737488355328) (hw : m.ws.length ≤ 140737488355328) (hs : ∀ w ∈ m.ws, w.rs.length ≤ 140737488355328) : Sy.Fn Try.prog 25 [aM m] (bv (greatB m)) := by
  refine Fn_of_W mixed Xt25 rfl ?_
  repeat' (first | refine w1g ?_ | refine w1l ?_ | refine w1q ?_ | refine w1b ?_ | refine w1p ?_ | ((first | refine w1r ?_ | refine w1k ?_ | refine w1e ?_); (refine sy1 ?_; try exact True.intro)) | refine an2 ?_ | fail)
  refine W_cond (by rfl) (fun hb => ?_) (fun hb => ?_)
  · have e : greatB m = true := by
      unfold greatB
      simp only [Bool.or_eq_true, decide_eq_true_eq] at hb ⊢
      omega
    rw [e]
    repeat' (first | refine w1g ?_ | refine w1l ?_ | refine w1q ?_ | refine w1b ?_ | refine w1p ?_ | ((first | refine w1r ?_ | refine w1k ?_ | refine w1e ?_); (refine sy1 ?_; try exact True.intro)) | refine an2 ?_ | fail)
    exact W_ret ⟨[_], ⟨rfl, rfl⟩, rfl⟩
  simp only [Bool.or_eq_false_iff, decide_eq_false_iff_not] at hb
  repeat' (first | refine w1g ?_ | refine w1l ?_ | refine w1q ?_ | refine w1b ?_ | refine w1p ?_ | ((first | refine w1r ?_ | refine w1k ?_ | refine w1e ?_); (refine sy1 ?_; try exact True.intro)) | refine an2 ?_ | fail)
  refine W_loopU (fun i : Nat => [(3, iv i)]) (fun i => []) (fun i => i ≤ m.ws.length ∧ ∀ j, j < i → decide (40 < (gw m j).rs.length) = false) (fun i => m.ws.length - i) 0 ⟨by omega, fun j hj => by omega⟩ (by rfl) (by rfl) (fun i hi => ?_)
  obtain ⟨hi, hp⟩ := hi
  (refine sy1 ?_; try exact True.intro)
  repeat' (first | refine w1g ?_ | refine w1l ?_ | refine w1q ?_ | refine w1b ?_ | refine w1p ?_ | ((first | refine w1r ?_ | refine w1k ?_ | refine w1e ?_); (refine sy1 ?_; try exact True.intro)) | refine an2 ?_ | fail)
  refine W_condD (by rfl) (fun h5 => ?_) (fun h5 => ?_)
  · have hlt : i < m.ws.length := by omega
    have hgw : m.ws.getD i dW = gw m i := rfl
    have hgl : (gw m i).rs.length = (m.ws.getD i dW).rs.length := rfl
    repeat' (first | refine w1g ?_ | refine w1l ?_ | refine w1q ?_ | refine w1b ?_ | refine w1p ?_ | ((first | refine w1r ?_ | refine w1k ?_ | refine w1e ?_); simp (maxSteps := 400000) (disch := omega) only [push_cast, ↓reduceIte, reduceCtorEq, Nat.reduceAdd, Nat.reduceSub, Nat.reduceEqDiff, Nat.reduceLeDiff, Nat.reduceLT, Nat.reduceBEq, Nat.reduceDiv, Nat.reduceMod, Nat.reducePow, Nat.reduceMul, Int.reduceToNat, Int.reduceLT, Int.reduceLE, hgw]) | refine an2 ?_ | fail)
    refine W_condD (by rfl) (fun h6 => ?_) (fun h6 => ?_)
    · have e : greatB m = true := by
        unfold greatB
        rw [any_yes dW hlt (decide_eq_true (by omega))]
        simp
      rw [e]
      repeat' (first | refine w1g ?_ | refine w1l ?_ | refine w1q ?_ | refine w1b ?_ | refine w1p ?_ | ((first | refine w1r ?_ | refine w1k ?_ | refine w1e ?_); (refine sy1 ?_; try exact True.intro)) | refine an2 ?_ | fail)
      exact W_ret ⟨[_], ⟨rfl, rfl⟩, rfl⟩
    · repeat' (first | refine w1g ?_ | refine w1l ?_ | refine w1q ?_ | refine w1b ?_ | refine w1p ?_ | ((first | refine w1r ?_ | refine w1k ?_ | refine w1e ?_); (refine sy1 ?_; try exact True.intro)) | refine an2 ?_ | fail)
      refine ⟨i + 1, ⟨by omega, up_all hp (decide_eq_false (by omega))⟩, by omega, by rfl, ?_⟩
      (refine syE ?_; try exact True.intro)
  have ha : (m.ws.any fun w => decide (40 < w.rs.length)) = false := any_no dW (fun j hj => hp j (by omega))
  have hg : Gm m := ⟨by omega, by omega, fun w hw => by
    have := List.any_eq_false.1 ha w hw
    simp only [decide_eq_true_eq] at this
    omega⟩
  have e : greatB m = (chkM m == 0 && (decide (12 < m.n) || decide ((30 : Int) < (m.rs.length : Int)) || decide ((5 : Int) < (m.ws.length : Int)))) := by
    unfold greatB
    rw [ha, decide_eq_false (show ¬ 300 < m.rs.length by omega), decide_eq_false (show ¬ 20 < m.ws.length by omega)]
    have e1 : decide ((30 : Int) < (m.rs.length : Int)) = decide (30 < m.rs.length) := by rw [Bool.eq_iff_iff, decide_eq_true_eq, decide_eq_true_eq]; omega
    have e2 : decide ((5 : Int) < (m.ws.length : Int)) = decide (5 < m.ws.length) := by rw [Bool.eq_iff_iff, decide_eq_true_eq, decide_eq_true_eq]; omega
    rw [e1, e2]
    simp
  rw [e]
  repeat' (first | refine w1g ?_ | refine w1l ?_ | refine w1q ?_ | refine w1b ?_ | refine w1p ?_ | ((first | refine w1r ?_ | refine w1k ?_ | refine w1e ?_ | refine CallC.now (fn16 m hg) ?_); (refine sy1 ?_; try exact True.intro)) | refine an2 ?_ | fail)
  exact W_ret ⟨[_], ⟨rfl, rfl⟩, rfl⟩
end Go.Proofs.Ytfbdlmenhoagmaa

namespace Go.Proofs.Ytfbdlmenhoagmaa
open Go Sy
set_option maxRecDepth 100000
set_option maxHeartbeats 4000000
set_option linter.unusedVariables false
set_option linter.unusedSimpArgs false
theorem fn61 (s : Nat) : Sy.Fn Try.prog 61 [uv s] (.clo 118 [] [.fp [uv s] 0]) := by
  refine Fn_of_W mixed Xt61 rfl ?_
  repeat' (first | refine w1g ?_ | refine w1l ?_ | refine w1q ?_ | refine w1b ?_ | refine w1p ?_ | ((first | refine w1r ?_ | refine w1k ?_ | refine w1e ?_); (refine sy1 ?_; try exact True.intro)) | refine an2 ?_ | fail)
  exact W_ret ⟨[_], ⟨rfl, rfl⟩, rfl⟩
theorem shrS (s : Nat) {i : Nat} (hi : i ≤ 64) : (s : Int).fdiv (2 ^ min i IntKind.u64.bits) = ((s / 2 ^ i : Nat) : Int) := by
  have e : min i IntKind.u64.bits = i := Nat.min_eq_left hi
  rw [e, Int.fdiv_eq_ediv_of_nonneg _ (Int.pow_nonneg (by omega))]
  rw [Int.natCast_ediv, Int.natCast_pow]
  rfl
theorem andS (x : Nat) (hx : x < 18446744073709551616) : bits .and .u64 (x : Int) 1 = ((x % 2 : Nat) : Int) := by
  have h := bits_and_u64_nat x 1 hx (by omega)
  rw [Nat.and_one_is_mod] at h
  exact h
theorem div_lt64 {s : Nat} (h : s < 1024) (i : Nat) : s / 2 ^ i < 18446744073709551616 := by
  have := Nat.div_le_self s (2 ^ i)
  omega
theorem pre_mem {l : List Int} {i : Nat} {x : Int} (h : x ∈ pre l i) : x ∈ l := by
  unfold pre at h
  exact (List.mem_filter.1 h).1
structure SetW (m : Mp) (l : List Int) (s : Nat) : Prop where
  b : BitsOf s l
  s : Srt m.ws.length 0 l
theorem fn59 (m : Mp) (f : Nat → Int) (l : List Int) (s : Nat) (h : OkM m) (hs : SetW m l s) : Sy.Fn Try.prog 59 [aAt m f, uv s] (iv (costL m l)) := by
  refine Fn_of_W mixed Xt59 rfl ?_
  have hw := h.nw
  have hlt := bits_lt hs.b (fun x hx => (hs.s.mem x hx).2)
  repeat' (first | refine w1g ?_ | refine w1l ?_ | refine w1q ?_ | refine w1b ?_ | refine w1p ?_ | ((first | refine w1r ?_ | refine w1k ?_ | refine w1e ?_ | refine CallC.now (fn61 s) ?_); (refine sy1 ?_; try exact True.intro)) | refine an2 ?_ | fail)
  refine W_rfn (.inl rfl) (fun lp R hR => Inl_of_W mixed Xt118 rfl (fun vs => ?_))
  (refine sy1 ?_; try exact True.intro)
  repeat' (first | refine w1g ?_ | refine w1l ?_ | refine w1q ?_ | refine w1b ?_ | refine w1p ?_ | ((first | refine w1r ?_ | refine w1k ?_ | refine w1e ?_); (refine sy1 ?_; try exact True.intro)) | refine an2 ?_ | fail)
  refine W_loopU (fun i : Nat => [(3, iv i)]) (fun i => [(2, .cells [iv (costL m (pre l i))])]) (fun i => i ≤ 10) (fun i => 11 - i) 0 (by omega) (by rfl) (by rw [pre_zero hs.s]; rfl) (fun i hi => ?_)
  have hs1 : s < 1024 := by
    have := bits_lt (n := 10) hs.b (fun x hx => by have := (hs.s.mem x hx).2; omega)
    simpa using this
  obtain ⟨q, hq⟩ : ∃ q, q = s / 2 ^ i := ⟨_, rfl⟩
  have e1 := shrS s (i := i) (by omega)
  have e2 := andS (s / 2 ^ i) (div_lt64 hs1 i)
  rw [bits_shr hs.b i] at e2
  rw [← hq] at e1 e2
  have e4 := pre_succ (i := i) hs.s
  (refine sy1 ?_; try exact True.intro)
  repeat' (first | refine w1g ?_ | refine w1l ?_ | refine w1q ?_ | refine w1b ?_ | refine w1p ?_ | ((first | refine w1r ?_ | refine w1k ?_ | refine w1e ?_); simp (maxSteps := 400000) (disch := omega) only [push_cast, ↓reduceIte, reduceCtorEq, Nat.reduceAdd, Nat.reduceSub, Nat.reduceEqDiff, Nat.reduceLeDiff, Nat.reduceLT, Nat.reduceBEq, Nat.reduceDiv, Nat.reduceMod, Nat.reducePow, Nat.reduceMul, Int.reduceToNat, Int.reduceLT, Int.reduceLE, e1]) | refine an2 ?_ | fail)
  refine W_cond (by rfl) (fun hb => ?_) (fun hb => ?_)
  · have hi10 : i < 10 := bits_more hs.b (by rw [← hq]; intro z; rw [z] at hb; simp at hb) (fun x hx => by have := (hs.s.mem x hx).2; omega)
    by_cases hm : (i : Int) ∈ l
    · rw [if_pos hm] at e2 e4
      have e2 : bits .and .u64 (q : Int) 1 = 1 := e2
      have hir := hs.s.mem _ hm
      have ec : costL m (pre l (i + 1)) = costL m (pre l i) + (gw m i).c := by rw [e4, costL_snoc]; rfl
      have hcr := costL_rng h (l := pre l i) (fun x hx => hs.s.mem x (pre_mem hx))
      have hlen : (pre l i).length ≤ 10 := by
        have h1 := hs.s.len (by omega)
        have h2 := List.length_filter_le (fun x => decide (x < (i : Int))) l
        unfold pre
        omega
      have hwc := (workB_ok (h.w i (by omega))).c
      have hgw : m.ws.getD i dW = gw m i := rfl
      generalize costL m (pre l i) = C at *
      repeat' (first | refine w1g ?_ | refine w1l ?_ | refine w1q ?_ | refine w1b ?_ | refine w1p ?_ | ((first | refine w1r ?_ | refine w1k ?_ | refine w1e ?_); simp (maxSteps := 400000) (disch := omega) only [push_cast, ↓reduceIte, reduceCtorEq, Nat.reduceAdd, Nat.reduceSub, Nat.reduceEqDiff, Nat.reduceLeDiff, Nat.reduceLT, Nat.reduceBEq, Nat.reduceDiv, Nat.reduceMod, Nat.reducePow, Nat.reduceMul, Int.reduceToNat, Int.reduceLT, Int.reduceLE, e1, e2]) | refine an2 ?_ | fail)
      refine StopC.yld (fun hpc => ⟨trivial, Yl_of_W (k := 6) mixed hR rfl rfl rfl (fun vs2 => ?_)⟩) (fun hpc => absurd (by simp [pc]) hpc)
      (refine sy1 ?_; try exact True.intro)
      repeat' (first | refine w1g ?_ | refine w1l ?_ | refine w1q ?_ | refine w1b ?_ | refine w1p ?_ | ((first | refine w1r ?_ | refine w1k ?_ | refine w1e ?_); (refine sy1 ?_; try exact True.intro)) | refine an2 ?_ | fail)
      refine ⟨_, rfl, ?_⟩
      (refine sy1 ?_; try exact True.intro)
      repeat' (first | refine w1g ?_ | refine w1l ?_ | refine w1q ?_ | refine w1b ?_ | refine w1p ?_ | ((first | refine w1r ?_ | refine w1k ?_ | refine w1e ?_); simp (maxSteps := 400000) (disch := omega) only [push_cast, ↓reduceIte, reduceCtorEq, Nat.reduceAdd, Nat.reduceSub, Nat.reduceEqDiff, Nat.reduceLeDiff, Nat.reduceLT, Nat.reduceBEq, Nat.reduceDiv, Nat.reduceMod, Nat.reducePow, Nat.reduceMul, Int.reduceToNat, Int.reduceLT, Int.reduceLE, hgw]) | refine an2 ?_ | fail)
      refine ⟨_, _, rfl, rfl, ?_⟩
      (refine sy1 ?_; try exact True.intro)
      repeat' (first | refine w1g ?_ | refine w1l ?_ | refine w1q ?_ | refine w1b ?_ | refine w1p ?_ | ((first | refine w1r ?_ | refine w1k ?_ | refine w1e ?_); (refine sy1 ?_; try exact True.intro)) | refine an2 ?_ | fail)
      refine W_cond (by rfl) (fun h => by cases h) (fun _ => ?_)
      repeat' (first | refine w1g ?_ | refine w1l ?_ | refine w1q ?_ | refine w1b ?_ | refine w1p ?_ | ((first | refine w1r ?_ | refine w1k ?_ | refine w1e ?_); (refine sy1 ?_; try exact True.intro)) | refine an2 ?_ | fail)
      refine ⟨i + 1, by omega, by omega, by rfl, ?_⟩
      rw [ec]
      (refine syE ?_; try exact True.intro)
    · rw [if_neg hm] at e2 e4
      have e2 : bits .and .u64 (q : Int) 1 = 0 := e2
      have z01 : ((0 : Int) == 1) = false := rfl
      repeat' (first | refine w1g ?_ | refine w1l ?_ | refine w1q ?_ | refine w1b ?_ | refine w1p ?_ | ((first | refine w1r ?_ | refine w1k ?_ | refine w1e ?_); simp (maxSteps := 400000) (disch := omega) only [push_cast, ↓reduceIte, reduceCtorEq, Nat.reduceAdd, Nat.reduceSub, Nat.reduceEqDiff, Nat.reduceLeDiff, Nat.reduceLT, Nat.reduceBEq, Nat.reduceDiv, Nat.reduceMod, Nat.reducePow, Nat.reduceMul, Int.reduceToNat, Int.reduceLT, Int.reduceLE, e1, e2, z01]) | refine an2 ?_ | fail)
      refine StopC.yld (fun hpc => absurd hpc (by simp [pc])) (fun hpc => ?_)
      (refine sy1 ?_; try exact True.intro)
      repeat' (first | refine w1g ?_ | refine w1l ?_ | refine w1q ?_ | refine w1b ?_ | refine w1p ?_ | ((first | refine w1r ?_ | refine w1k ?_ | refine w1e ?_); (refine sy1 ?_; try exact True.intro)) | refine an2 ?_ | fail)
      refine W_cond (by rfl) (fun h => by cases h) (fun _ => ?_)
      repeat' (first | refine w1g ?_ | refine w1l ?_ | refine w1q ?_ | refine w1b ?_ | refine w1p ?_ | ((first | refine w1r ?_ | refine w1k ?_ | refine w1e ?_); (refine sy1 ?_; try exact True.intro)) | refine an2 ?_ | fail)
      refine ⟨i + 1, by omega, by omega, by rfl, ?_⟩
      rw [e4, List.append_nil]
      (refine syE ?_; try exact True.intro)
  · have hq0 : s / 2 ^ i = 0 := by
      rw [← hq]
      have := bne_eq_false_iff_eq.1 hb
      omega
    have hall := pre_all (bits_end hs.b (fun x hx => (hs.s.mem x hx).1) hq0)
    rw [hall]
    repeat' (first | refine w1g ?_ | refine w1l ?_ | refine w1q ?_ | refine w1b ?_ | refine w1p ?_ | ((first | refine w1r ?_ | refine w1k ?_ | refine w1e ?_); (refine sy1 ?_; try exact True.intro)) | refine an2 ?_ | fail)
    refine ⟨_, _, rfl, rfl, ⟨_, _, rfl, by rw [hR.st]; simp, ?_⟩⟩
    rw [hR.pe]
    simp (maxSteps := 400000) (disch := omega) only [push_cast, ↓reduceIte, reduceCtorEq, Nat.reduceAdd, Nat.reduceSub, Nat.reduceEqDiff, Nat.reduceLeDiff, Nat.reduceLT, Nat.reduceBEq, Nat.reduceDiv, Nat.reduceMod, Nat.reducePow, Nat.reduceMul, Int.reduceToNat, Int.reduceLT, Int.reduceLE, EndP]
    repeat' (first | refine w1g ?_ | refine w1l ?_ | refine w1q ?_ | refine w1b ?_ | refine w1p ?_ | ((first | refine w1r ?_ | refine w1k ?_ | refine w1e ?_); (refine sy1 ?_; try exact True.intro)) | refine an2 ?_ | fail)
    exact W_ret ⟨[_], ⟨rfl, rfl⟩, rfl⟩
theorem fn122 (m : Mp) (f : Nat → Int) (l : List Int) (s : Nat) (road k : Nat) (h : OkM m) (hs : SetW m l s) (hr : road < m.rs.length) (hk : k < 6) : Sy.Fn Try.prog 122 [aAt m f, uv s, iv road, iv k] (iv (limL m l road k)) := by
  refine Fn_of_W mixed Xt122 rfl ?_
  have hw := h.nw
  have hs1 : s < 1024 := by
    have := bits_lt (n := 10) hs.b (fun x hx => by have := (hs.s.mem x hx).2; omega)
    simpa using this
  have hlim : nth (cR (gr m road)) (6 + k) = iv ((gr m road).lim k) := by
    rcases k with _ | _ | _ | _ | _ | _ | k <;> first | rfl | omega
  have hgr : m.rs.getD road dR = gr m road := rfl
  repeat' (first | refine w1g ?_ | refine w1l ?_ | refine w1q ?_ | refine w1b ?_ | refine w1p ?_ | ((first | refine w1r ?_ | refine w1k ?_ | refine w1e ?_ | refine CallC.now (fn61 s) ?_); simp (maxSteps := 400000) (disch := omega) only [push_cast, ↓reduceIte, reduceCtorEq, Nat.reduceAdd, Nat.reduceSub, Nat.reduceEqDiff, Nat.reduceLeDiff, Nat.reduceLT, Nat.reduceBEq, Nat.reduceDiv, Nat.reduceMod, Nat.reducePow, Nat.reduceMul, Int.reduceToNat, Int.reduceLT, Int.reduceLE, hgr, hlim, Nat.mul_one, Nat.add_assoc]) | refine an2 ?_ | fail)
  refine W_rfn (.inl rfl) (fun lp R hR => Inl_of_W mixed Xt118 rfl (fun vs => ?_))
  (refine sy1 ?_; try exact True.intro)
  repeat' (first | refine w1g ?_ | refine w1l ?_ | refine w1q ?_ | refine w1b ?_ | refine w1p ?_ | ((first | refine w1r ?_ | refine w1k ?_ | refine w1e ?_); (refine sy1 ?_; try exact True.intro)) | refine an2 ?_ | fail)
  refine W_loopU (fun i : Nat => [(3, iv i)]) (fun i => [(13, .cells [iv (limL m (pre l i) road k)])]) (fun i => i ≤ 10) (fun i => 11 - i) 0 (by omega) (by rfl) (by rw [pre_zero hs.s]; rfl) (fun i hi => ?_)
  obtain ⟨q, hq⟩ : ∃ q, q = s / 2 ^ i := ⟨_, rfl⟩
  have e1 := shrS s (i := i) (by omega)
  have e2 := andS (s / 2 ^ i) (div_lt64 hs1 i)
  rw [bits_shr hs.b i] at e2
  rw [← hq] at e1 e2
  have e4 := pre_succ (i := i) hs.s
  (refine sy1 ?_; try exact True.intro)
  repeat' (first | refine w1g ?_ | refine w1l ?_ | refine w1q ?_ | refine w1b ?_ | refine w1p ?_ | ((first | refine w1r ?_ | refine w1k ?_ | refine w1e ?_); simp (maxSteps := 400000) (disch := omega) only [push_cast, ↓reduceIte, reduceCtorEq, Nat.reduceAdd, Nat.reduceSub, Nat.reduceEqDiff, Nat.reduceLeDiff, Nat.reduceLT, Nat.reduceBEq, Nat.reduceDiv, Nat.reduceMod, Nat.reducePow, Nat.reduceMul, Int.reduceToNat, Int.reduceLT, Int.reduceLE, e1]) | refine an2 ?_ | fail)
  refine W_cond (by rfl) (fun hb => ?_) (fun hb => ?_)
  · have hi10 : i < 10 := bits_more hs.b (by rw [← hq]; intro z; rw [z] at hb; simp at hb) (fun x hx => by have := (hs.s.mem x hx).2; omega)
    by_cases hm : (i : Int) ∈ l
    · rw [if_pos hm] at e2 e4
      have e2 : bits .and .u64 (q : Int) 1 = 1 := e2
      have hir := hs.s.mem _ hm
      have ec : limL m (pre l (i + 1)) road k = limS m road k (limL m (pre l i) road k) i := by rw [e4, limL_snoc]
      have es : ∀ n : Int, limS m road k n i = if (gw m i).k = k ∧ (road : Int) ∈ (gw m i).rs then max n (gw m i).l else n := fun _ => rfl
      have hgw : m.ws.getD i dW = gw m i := rfl
      have hwl := h.s i (by omega)
      have c129 := fn129 (gw m i).rs (road : Int) (by omega)
      rw [es] at ec
      generalize limL m (pre l i) road k = C at *
      generalize gw m i = w at *
      repeat' (first | refine w1g ?_ | refine w1l ?_ | refine w1q ?_ | refine w1b ?_ | refine w1p ?_ | ((first | refine w1r ?_ | refine w1k ?_ | refine w1e ?_); simp (maxSteps := 400000) (disch := omega) only [push_cast, ↓reduceIte, reduceCtorEq, Nat.reduceAdd, Nat.reduceSub, Nat.reduceEqDiff, Nat.reduceLeDiff, Nat.reduceLT, Nat.reduceBEq, Nat.reduceDiv, Nat.reduceMod, Nat.reducePow, Nat.reduceMul, Int.reduceToNat, Int.reduceLT, Int.reduceLE, e1, e2]) | refine an2 ?_ | fail)
      refine StopC.yld (fun hpc => ⟨trivial, Yl_of_W (k := 17) mixed hR rfl rfl rfl (fun vs2 => ?_)⟩) (fun hpc => absurd (by simp [pc]) hpc)
      (refine sy1 ?_; try exact True.intro)
      repeat' (first | refine w1g ?_ | refine w1l ?_ | refine w1q ?_ | refine w1b ?_ | refine w1p ?_ | ((first | refine w1r ?_ | refine w1k ?_ | refine w1e ?_); (refine sy1 ?_; try exact True.intro)) | refine an2 ?_ | fail)
      refine ⟨_, rfl, ?_⟩
      (refine sy1 ?_; try exact True.intro)
      repeat' (first | refine w1g ?_ | refine w1l ?_ | refine w1q ?_ | refine w1b ?_ | refine w1p ?_ | ((first | refine w1r ?_ | refine w1k ?_ | refine w1e ?_ | refine CallC.go _ (fun _ => ⟨trivial, c129⟩) rfl ?_); simp (maxSteps := 400000) (disch := omega) only [push_cast, ↓reduceIte, reduceCtorEq, Nat.reduceAdd, Nat.reduceSub, Nat.reduceEqDiff, Nat.reduceLeDiff, Nat.reduceLT, Nat.reduceBEq, Nat.reduceDiv, Nat.reduceMod, Nat.reducePow, Nat.reduceMul, Int.reduceToNat, Int.reduceLT, Int.reduceLE, hgw]) | refine an2 ?_ | fail)
      refine W_cond (by rfl) (fun hz => ?_) (fun hz => ?_)
      · rw [Bool.and_eq_true, beq_iff_eq, decide_eq_true_eq] at hz
        rw [if_pos hz] at ec
        repeat' (first | refine w1g ?_ | refine w1l ?_ | refine w1q ?_ | refine w1b ?_ | refine w1p ?_ | ((first | refine w1r ?_ | refine w1k ?_ | refine w1e ?_); (refine sy1 ?_; try exact True.intro)) | refine an2 ?_ | fail)
        refine ⟨_, _, rfl, rfl, ?_⟩
        (refine sy1 ?_; try exact True.intro)
        repeat' (first | refine w1g ?_ | refine w1l ?_ | refine w1q ?_ | refine w1b ?_ | refine w1p ?_ | ((first | refine w1r ?_ | refine w1k ?_ | refine w1e ?_); (refine sy1 ?_; try exact True.intro)) | refine an2 ?_ | fail)
        refine W_cond (by rfl) (fun h => by cases h) (fun _ => ?_)
        repeat' (first | refine w1g ?_ | refine w1l ?_ | refine w1q ?_ | refine w1b ?_ | refine w1p ?_ | ((first | refine w1r ?_ | refine w1k ?_ | refine w1e ?_); (refine sy1 ?_; try exact True.intro)) | refine an2 ?_ | fail)
        refine ⟨i + 1, by omega, by omega, by rfl, ?_⟩
        rw [ec]
        (refine syE ?_; try exact True.intro)
      · have hz : ¬ (w.k = k ∧ (road : Int) ∈ w.rs) := by
          rintro ⟨z1, z2⟩
          rw [z1, decide_eq_true z2] at hz
          simp at hz
        rw [if_neg hz] at ec
        repeat' (first | refine w1g ?_ | refine w1l ?_ | refine w1q ?_ | refine w1b ?_ | refine w1p ?_ | ((first | refine w1r ?_ | refine w1k ?_ | refine w1e ?_); (refine sy1 ?_; try exact True.intro)) | refine an2 ?_ | fail)
        refine ⟨_, _, rfl, rfl, ?_⟩
        (refine sy1 ?_; try exact True.intro)
        repeat' (first | refine w1g ?_ | refine w1l ?_ | refine w1q ?_ | refine w1b ?_ | refine w1p ?_ | ((first | refine w1r ?_ | refine w1k ?_ | refine w1e ?_); (refine sy1 ?_; try exact True.intro)) | refine an2 ?_ | fail)
        refine W_cond (by rfl) (fun h => by cases h) (fun _ => ?_)
        repeat' (first | refine w1g ?_ | refine w1l ?_ | refine w1q ?_ | refine w1b ?_ | refine w1p ?_ | ((first | refine w1r ?_ | refine w1k ?_ | refine w1e ?_); (refine sy1 ?_; try exact True.intro)) | refine an2 ?_ | fail)
        refine ⟨i + 1, by omega, by omega, by rfl, ?_⟩
        rw [ec]
        (refine syE ?_; try exact True.intro)
    · rw [if_neg hm] at e2 e4
      have e2 : bits .and .u64 (q : Int) 1 = 0 := e2
      have z01 : ((0 : Int) == 1) = false := rfl
      repeat' (first | refine w1g ?_ | refine w1l ?_ | refine w1q ?_ | refine w1b ?_ | refine w1p ?_ | ((first | refine w1r ?_ | refine w1k ?_ | refine w1e ?_); simp (maxSteps := 400000) (disch := omega) only [push_cast, ↓reduceIte, reduceCtorEq, Nat.reduceAdd, Nat.reduceSub, Nat.reduceEqDiff, Nat.reduceLeDiff, Nat.reduceLT, Nat.reduceBEq, Nat.reduceDiv, Nat.reduceMod, Nat.reducePow, Nat.reduceMul, Int.reduceToNat, Int.reduceLT, Int.reduceLE, e1, e2, z01]) | refine an2 ?_ | fail)
      refine StopC.yld (fun hpc => absurd hpc (by simp [pc])) (fun hpc => ?_)
      (refine sy1 ?_; try exact True.intro)
      repeat' (first | refine w1g ?_ | refine w1l ?_ | refine w1q ?_ | refine w1b ?_ | refine w1p ?_ | ((first | refine w1r ?_ | refine w1k ?_ | refine w1e ?_); (refine sy1 ?_; try exact True.intro)) | refine an2 ?_ | fail)
      refine W_cond (by rfl) (fun h => by cases h) (fun _ => ?_)
      repeat' (first | refine w1g ?_ | refine w1l ?_ | refine w1q ?_ | refine w1b ?_ | refine w1p ?_ | ((first | refine w1r ?_ | refine w1k ?_ | refine w1e ?_); (refine sy1 ?_; try exact True.intro)) | refine an2 ?_ | fail)
      refine ⟨i + 1, by omega, by omega, by rfl, ?_⟩
      rw [e4, List.append_nil]
      (refine syE ?_; try exact True.intro)
  · have hq0 : s / 2 ^ i = 0 := by
      rw [← hq]
      have := bne_eq_false_iff_eq.1 hb
      omega
    have hall := pre_all (bits_end hs.b (fun x hx => (hs.s.mem x hx).1) hq0)
    rw [hall]
    repeat' (first | refine w1g ?_ | refine w1l ?_ | refine w1q ?_ | refine w1b ?_ | refine w1p ?_ | ((first | refine w1r ?_ | refine w1k ?_ | refine w1e ?_); (refine sy1 ?_; try exact True.intro)) | refine an2 ?_ | fail)
    refine ⟨_, _, rfl, rfl, ⟨_, _, rfl, by rw [hR.st]; simp, ?_⟩⟩
    rw [hR.pe]
    simp (maxSteps := 400000) (disch := omega) only [push_cast, ↓reduceIte, reduceCtorEq, Nat.reduceAdd, Nat.reduceSub, Nat.reduceEqDiff, Nat.reduceLeDiff, Nat.reduceLT, Nat.reduceBEq, Nat.reduceDiv, Nat.reduceMod, Nat.reducePow, Nat.reduceMul, Int.reduceToNat, Int.reduceLT, Int.reduceLE, EndP]
    repeat' (first | refine w1g ?_ | refine w1l ?_ | refine w1q ?_ | refine w1b ?_ | refine w1p ?_ | ((first | refine w1r ?_ | refine w1k ?_ | refine w1e ?_); (refine sy1 ?_; try exact True.intro)) | refine an2 ?_ | fail)
    exact W_ret ⟨[_], ⟨rfl, rfl⟩, rfl⟩
end Go.Proofs.Ytfbdlmenhoagmaa

namespace Go.Proofs.Ytfbdlmenhoagmaa
open Go Sy
set_option maxRecDepth 100000
set_option maxHeartbeats 4000000
set_option linter.unusedVariables false
set_option linter.unusedSimpArgs false
theorem fn75 (m : Mp) (f : Nat → Int) (s : Nat) (road : Int) : Sy.Fn Try.prog 75 [aAt m f, uv s, iv road] (.clo 121 [] [.fp (cAt m f) 0, .fp [uv s] 0, .fp [iv road] 0]) := by
  refine Fn_of_W mixed Xt75 rfl ?_
  repeat' (first | refine w1g ?_ | refine w1l ?_ | refine w1q ?_ | refine w1b ?_ | refine w1p ?_ | ((first | refine w1r ?_ | refine w1k ?_ | refine w1e ?_); (refine sy1 ?_; try exact True.intro)) | refine an2 ?_ | fail)
  exact W_ret ⟨[_], ⟨rfl, rfl⟩, rfl⟩
theorem fn64 (m : Mp) (f : Nat → Int) (l : List Int) (s : Nat) (road : Nat) (h : OkM m) (hs : SetW m l s) (hr : road < m.rs.length) : Sy.Fn Try.prog 64 [aAt m f, uv s, iv road] (bv (usB m f l road)) := by
  refine Fn_of_W mixed Xt64 rfl ?_
  repeat' (first | refine w1g ?_ | refine w1l ?_ | refine w1q ?_ | refine w1b ?_ | refine w1p ?_ | ((first | refine w1r ?_ | refine w1k ?_ | refine w1e ?_ | refine CallC.now (fn75 m f s road) ?_); (refine sy1 ?_; try exact True.intro)) | refine an2 ?_ | fail)
  refine W_rfn (.inl rfl) (fun lp R hR => Inl_of_W mixed Xt121 rfl (fun vs => ?_))
  (refine sy1 ?_; try exact True.intro)
  repeat' (first | refine w1g ?_ | refine w1l ?_ | refine w1q ?_ | refine w1b ?_ | refine w1p ?_ | ((first | refine w1r ?_ | refine w1k ?_ | refine w1e ?_); (refine sy1 ?_; try exact True.intro)) | refine an2 ?_ | fail)
  refine W_loopU (fun k : Nat => [(10, iv k)]) (fun k => []) (fun k => k ≤ 6 ∧ ∀ j, j < k → f j ≤ limL m l road j) (fun k => 6 - k) 0 ⟨by omega, fun j hj => by omega⟩ (by rfl) (by rfl) (fun k hk => ?_)
  obtain ⟨hk, hall⟩ := hk
  (refine sy1 ?_; try exact True.intro)
  repeat' (first | refine w1g ?_ | refine w1l ?_ | refine w1q ?_ | refine w1b ?_ | refine w1p ?_ | ((first | refine w1r ?_ | refine w1k ?_ | refine w1e ?_); (refine sy1 ?_; try exact True.intro)) | refine an2 ?_ | fail)
  refine W_condD (by rfl) (fun h5 => ?_) (fun h5 => ?_)
  · have hk6 : k < 6 := by omega
    have c122 := fn122 m f l s road k h hs hr hk6
    have us : limL m l road k < f k → usB m f l road = false := fun q => by
      rw [← Bool.not_eq_true]
      intro z
      have := usN_iff.1 z k hk6
      omega
    obtain ⟨n, hnl⟩ : ∃ n, n = limL m l road k := ⟨_, rfl⟩
    rw [← hnl] at c122 us
    by_cases q : n < f k
    · have qb : decide (n < f k) = true := decide_eq_true q
      repeat' (first | refine w1g ?_ | refine w1l ?_ | refine w1q ?_ | refine w1b ?_ | refine w1p ?_ | ((first | refine w1r ?_ | refine w1k ?_ | refine w1e ?_ | refine CallC.now (c122) ?_); simp (maxSteps := 400000) (disch := omega) only [push_cast, ↓reduceIte, reduceCtorEq, Nat.reduceAdd, Nat.reduceSub, Nat.reduceEqDiff, Nat.reduceLeDiff, Nat.reduceLT, Nat.reduceBEq, Nat.reduceDiv, Nat.reduceMod, Nat.reducePow, Nat.reduceMul, Int.reduceToNat, Int.reduceLT, Int.reduceLE, Nat.mul_one, Nat.zero_add, qb]) | refine an2 ?_ | fail)
      refine StopC.yld (fun hpc => ⟨trivial, Yl_of_W (k := 6) mixed hR rfl rfl rfl (fun vs2 => ?_)⟩) (fun hpc => absurd (by simp [pc]) hpc)
      refine W_skip ?_
      refine ⟨_, rfl, ?_⟩
      (refine sy1 ?_; try exact True.intro)
      repeat' (first | refine w1g ?_ | refine w1l ?_ | refine w1q ?_ | refine w1b ?_ | refine w1p ?_ | ((first | refine w1r ?_ | refine w1k ?_ | refine w1e ?_); (refine sy1 ?_; try exact True.intro)) | refine an2 ?_ | fail)
      refine W_ret ?_
      refine ⟨_, _, rfl, rfl, ?_⟩
      (refine sy1 ?_; try exact True.intro)
      repeat' (first | refine w1g ?_ | refine w1l ?_ | refine w1q ?_ | refine w1b ?_ | refine w1p ?_ | ((first | refine w1r ?_ | refine w1k ?_ | refine w1e ?_); (refine sy1 ?_; try exact True.intro)) | refine an2 ?_ | fail)
      refine W_cond (by rfl) (fun _ => ?_) (fun h => by cases h)
      repeat' (first | refine w1g ?_ | refine w1l ?_ | refine w1q ?_ | refine w1b ?_ | refine w1p ?_ | ((first | refine w1r ?_ | refine w1k ?_ | refine w1e ?_); (refine sy1 ?_; try exact True.intro)) | refine an2 ?_ | fail)
      refine W_ret ?_
      refine ⟨_, _, rfl, rfl, ⟨_, _, rfl, by simp [doneL], ?_⟩⟩
      rw [us q]
      simp (maxSteps := 400000) (disch := omega) only [push_cast, ↓reduceIte, reduceCtorEq, Nat.reduceAdd, Nat.reduceSub, Nat.reduceEqDiff, Nat.reduceLeDiff, Nat.reduceLT, Nat.reduceBEq, Nat.reduceDiv, Nat.reduceMod, Nat.reducePow, Nat.reduceMul, Int.reduceToNat, Int.reduceLT, Int.reduceLE, doneL, EndP]
      exact ⟨[_], ⟨⟨by simp, rfl⟩, rfl⟩, rfl⟩
    · have qb : decide (n < f k) = false := decide_eq_false q
      repeat' (first | refine w1g ?_ | refine w1l ?_ | refine w1q ?_ | refine w1b ?_ | refine w1p ?_ | ((first | refine w1r ?_ | refine w1k ?_ | refine w1e ?_ | refine CallC.now (c122) ?_); simp (maxSteps := 400000) (disch := omega) only [push_cast, ↓reduceIte, reduceCtorEq, Nat.reduceAdd, Nat.reduceSub, Nat.reduceEqDiff, Nat.reduceLeDiff, Nat.reduceLT, Nat.reduceBEq, Nat.reduceDiv, Nat.reduceMod, Nat.reducePow, Nat.reduceMul, Int.reduceToNat, Int.reduceLT, Int.reduceLE, Nat.mul_one, Nat.zero_add, qb]) | refine an2 ?_ | fail)
      refine StopC.yld (fun hpc => absurd hpc (by simp [pc])) (fun hpc => ?_)
      (refine sy1 ?_; try exact True.intro)
      repeat' (first | refine w1g ?_ | refine w1l ?_ | refine w1q ?_ | refine w1b ?_ | refine w1p ?_ | ((first | refine w1r ?_ | refine w1k ?_ | refine w1e ?_); (refine sy1 ?_; try exact True.intro)) | refine an2 ?_ | fail)
      refine W_cond (by rfl) (fun h => by cases h) (fun _ => ?_)
      repeat' (first | refine w1g ?_ | refine w1l ?_ | refine w1q ?_ | refine w1b ?_ | refine w1p ?_ | ((first | refine w1r ?_ | refine w1k ?_ | refine w1e ?_); (refine sy1 ?_; try exact True.intro)) | refine an2 ?_ | fail)
      refine ⟨k + 1, ⟨by omega, up_all hall (by rw [← hnl]; omega)⟩, by omega, by rfl, ?_⟩
      (refine syE ?_; try exact True.intro)
  · have e : usB m f l road = true := usN_iff.2 (fun j hj => hall j (by omega))
    rw [e]
    repeat' (first | refine w1g ?_ | refine w1l ?_ | refine w1q ?_ | refine w1b ?_ | refine w1p ?_ | ((first | refine w1r ?_ | refine w1k ?_ | refine w1e ?_); (refine sy1 ?_; try exact True.intro)) | refine an2 ?_ | fail)
    refine ⟨_, _, rfl, rfl, ⟨_, _, rfl, by rw [hR.st]; simp, ?_⟩⟩
    rw [hR.pe]
    simp (maxSteps := 400000) (disch := omega) only [push_cast, ↓reduceIte, reduceCtorEq, Nat.reduceAdd, Nat.reduceSub, Nat.reduceEqDiff, Nat.reduceLeDiff, Nat.reduceLT, Nat.reduceBEq, Nat.reduceDiv, Nat.reduceMod, Nat.reducePow, Nat.reduceMul, Int.reduceToNat, Int.reduceLT, Int.reduceLE, EndP]
    repeat' (first | refine w1g ?_ | refine w1l ?_ | refine w1q ?_ | refine w1b ?_ | refine w1p ?_ | ((first | refine w1r ?_ | refine w1k ?_ | refine w1e ?_); (refine sy1 ?_; try exact True.intro)) | refine an2 ?_ | fail)
    exact W_ret ⟨[_], ⟨⟨by simp, rfl⟩, rfl⟩, rfl⟩
theorem fn58 (m : Mp) (f : Nat → Int) (s : Nat) : Sy.Fn Try.prog 58 [aAt m f, uv s] (.clo 116 [] [.fp (cAt m f) 0, .fp [uv s] 0]) := by
  refine Fn_of_W mixed Xt58 rfl ?_
  repeat' (first | refine w1g ?_ | refine w1l ?_ | refine w1q ?_ | refine w1b ?_ | refine w1p ?_ | ((first | refine w1r ?_ | refine w1k ?_ | refine w1e ?_); (refine sy1 ?_; try exact True.intro)) | refine an2 ?_ | fail)
  exact W_ret ⟨[_], ⟨rfl, rfl⟩, rfl⟩
theorem fn116 (m : Mp) (f : Nat → Int) (l : List Int) (s : Nat) (road : Nat) (h : OkM m) (hs : SetW m l s) (hr : road < m.rs.length) : Sy.Fn Try.prog 116 [iv road, .fp (cAt m f) 0, .fp [uv s] 0] (iv (edB m (usB m f l) road).c) := by
  refine Fn_of_W mixed Xt116 rfl ?_
  have hgr : m.rs.getD road dR = gr m road := rfl
  have e : (edB m (usB m f l) road).c = if usB m f l road = true then (gr m road).c else -1 := rfl
  rw [e]
  repeat' (first | refine w1g ?_ | refine w1l ?_ | refine w1q ?_ | refine w1b ?_ | refine w1p ?_ | ((first | refine w1r ?_ | refine w1k ?_ | refine w1e ?_ | refine CallC.now (fn64 m f l s road h hs hr) ?_); (refine sy1 ?_; try exact True.intro)) | refine an2 ?_ | fail)
  cases usB m f l road
  · refine W_cond (by rfl) (fun _ => ?_) (fun h => by cases h)
    repeat' (first | refine w1g ?_ | refine w1l ?_ | refine w1q ?_ | refine w1b ?_ | refine w1p ?_ | ((first | refine w1r ?_ | refine w1k ?_ | refine w1e ?_); (refine sy1 ?_; try exact True.intro)) | refine an2 ?_ | fail)
    exact W_ret ⟨[_], ⟨rfl, rfl⟩, rfl⟩
  · refine W_cond (by rfl) (fun h => by cases h) (fun _ => ?_)
    repeat' (first | refine w1g ?_ | refine w1l ?_ | refine w1q ?_ | refine w1b ?_ | refine w1p ?_ | ((first | refine w1r ?_ | refine w1k ?_ | refine w1e ?_); simp (maxSteps := 400000) (disch := omega) only [push_cast, ↓reduceIte, reduceCtorEq, Nat.reduceAdd, Nat.reduceSub, Nat.reduceEqDiff, Nat.reduceLeDiff, Nat.reduceLT, Nat.reduceBEq, Nat.reduceDiv, Nat.reduceMod, Nat.reducePow, Nat.reduceMul, Int.reduceToNat, Int.reduceLT, Int.reduceLE, hgr]) | refine an2 ?_ | fail)
    exact W_ret ⟨[_], ⟨rfl, rfl⟩, rfl⟩
end Go.Proofs.Ytfbdlmenhoagmaa

namespace Go.Proofs.Ytfbdlmenhoagmaa
open Go Sy
set_option maxRecDepth 100000
set_option maxHeartbeats 4000000
set_option linter.unusedVariables false
set_option linter.unusedSimpArgs false
def tbl (n : Nat) (g : Nat → Int) : List Int := (List.range n).map g
theorem tbl_len (n : Nat) (g : Nat → Int) : (tbl n g).length = n := by simp [tbl]
theorem tbl_at {n j : Nat} (g : Nat → Int) (h : j < n) : (tbl n g).getD j 0 = g j := by simp [tbl, List.getD, h]
theorem tbl_congr {n : Nat} {g h : Nat → Int} (hh : ∀ i, i < n → g i = h i) : tbl n g = tbl n h := List.map_congr_left (fun i hi => hh i (List.mem_range.1 hi))
theorem tbl_set {n j : Nat} {g h : Nat → Int} {v : Int} (hj : h j = v) (hh : ∀ i, i < n → i ≠ j → g i = h i) : (tbl n g).set j v = tbl n h := by
  apply List.ext_getElem (by rw [List.length_set, tbl_len, tbl_len])
  intro i h1 h2
  rw [tbl_len] at h2
  rw [List.getElem_set]
  split
  · rename_i q; subst q; rw [← hj]; simp [tbl]
  · rename_i q
    simp only [tbl, List.getElem_map, List.getElem_range]
    exact hh i h2 (fun e => q e.symm)
theorem tbl_rep (n : Nat) (v : Int) : tbl n (fun _ => v) = List.replicate n v := by
  unfold tbl
  rw [List.eq_replicate_iff]
  refine ⟨by simp, fun b hb => ?_⟩
  obtain ⟨i, _, rfl⟩ := List.mem_map.1 hb
  rfl
def upT (g : Nat → Int) (j i : Nat) : Int := if i < j then g i else 0
theorem upT_zero (g : Nat → Int) (n : Nat) : tbl n (upT g 0) = List.replicate n 0 := by
  rw [← tbl_rep]
  exact tbl_congr (fun i _ => by unfold upT; rw [if_neg (by omega)])
theorem upT_set (g : Nat → Int) {j n : Nat} : (tbl n (upT g j)).set j (g j) = tbl n (upT g (j + 1)) := tbl_set (by unfold upT; rw [if_pos (by omega)]) (fun i _ hi => by
  unfold upT
  by_cases r : i < j
  · rw [if_pos r, if_pos (by omega)]
  · rw [if_neg r, if_neg (by omega)])
theorem upT_all (g : Nat → Int) (n : Nat) : tbl n (upT g n) = tbl n g := tbl_congr (fun i hi => by unfold upT; rw [if_pos hi])
def edC (m : Mp) (bk : Bool) (c : Nat → Int) (i : Nat) : Edg := if bk = true then ⟨(gr m i).t.toNat, (gr m i).f.toNat, c i⟩ else ⟨(gr m i).f.toNat, (gr m i).t.toNat, c i⟩
def edgC (m : Mp) (bk : Bool) (c : Nat → Int) : List Edg := (List.range m.rs.length).map (edC m bk c)
theorem edgC_ok {m : Mp} (h : OkM m) (bk : Bool) {c : Nat → Int} (hc : ∀ i, i < m.rs.length → 0 ≤ c i → 1 ≤ c i) : (∀ e ∈ edgC m bk c, e.x < m.n.toNat ∧ e.y < m.n.toNat) ∧ ∀ e ∈ edgC m bk c, 0 ≤ e.c → 1 ≤ e.c := by
  constructor
  · intro e he
    obtain ⟨i, hi, rfl⟩ := List.mem_map.1 he
    have hr := roadB_ok (h.r i (List.mem_range.1 hi))
    have := hr.f
    have := hr.t
    unfold edC
    split
    · constructor
      · show (gr m i).t.toNat < _; omega
      · show (gr m i).f.toNat < _; omega
    · constructor
      · show (gr m i).f.toNat < _; omega
      · show (gr m i).t.toNat < _; omega
  · intro e he h0
    obtain ⟨i, hi, rfl⟩ := List.mem_map.1 he
    have hi := List.mem_range.1 hi
    have e : (edC m bk c i).c = c i := by unfold edC; split <;> rfl
    rw [e] at h0 ⊢
    exact hc i hi h0
theorem take_edC {m : Mp} {bk : Bool} {c : Nat → Int} {i : Nat} (h : i < m.rs.length) : (edgC m bk c).take (i + 1) = (edgC m bk c).take i ++ [edC m bk c i] := by
  rw [List.take_succ_eq_append_getElem (by simp [edgC]; exact h)]
  simp [edgC]
theorem pas_snoc (o : List Int) (es : List Edg) (e : Edg) : pas o (es ++ [e]) = stp (pas o es) e := by
  unfold pas
  rw [List.foldl_append]; rfl
def dstC (m : Mp) (bk : Bool) (c : Nat → Int) (a : Int) : List Int := dst (edgC m bk c) m.n.toNat a.toNat
theorem w57 (m : Mp) (f : Nat → Int) (a : Int) (bk : Bool) (g : Nat) (fi ca : List AV) (c : Nat → Int) (h : OkM m) (ha : 0 ≤ a ∧ a < m.n) (hc : ∀ i, i < m.rs.length → 0 ≤ c i → 1 ≤ c i) (hcb : ∀ i, i < m.rs.length → -1099511627776 ≤ c i ∧ c i ≤ 1099511627776)
    (hg : ∀ i, i < m.rs.length → Sy.Fn Try.prog g (fi ++ [iv (i : Nat)] ++ ca) (iv (c i))) : W Try.prog 102 Xn57_0 (init [aAt m f, iv a, bv bk, .clo g fi ca]) (FinO [.t 8] 2 1 0 cI (dstC m bk c a)) := by
  have hn := h.n
  have hnr := h.nr
  obtain ⟨n, hnn⟩ : ∃ n : Nat, m.n = n := ⟨m.n.toNat, by omega⟩
  repeat' (first | refine w1g ?_ | refine w1l ?_ | refine w1q ?_ | refine w1b ?_ | refine w1p ?_ | ((first | refine w1r ?_ | refine w1k ?_ | refine w1e ?_); simp (maxSteps := 400000) (disch := omega) only [push_cast, ↓reduceIte, reduceCtorEq, Nat.reduceAdd, Nat.reduceSub, Nat.reduceEqDiff, Nat.reduceLeDiff, Nat.reduceLT, Nat.reduceBEq, Nat.reduceDiv, Nat.reduceMod, Nat.reducePow, Nat.reduceMul, Int.reduceToNat, Int.reduceLT, Int.reduceLE, hnn]) | refine an2 ?_ | fail)
  refine ⟨rfl, ⟨by omega, by omega, by omega⟩, Int, 0, cI, 0, rfl, rfl, by omega, rfl, ?_⟩
  simp (maxSteps := 400000) (disch := omega) only [push_cast, ↓reduceIte, reduceCtorEq, Nat.reduceAdd, Nat.reduceSub, Nat.reduceEqDiff, Nat.reduceLeDiff, Nat.reduceLT, Nat.reduceBEq, Nat.reduceDiv, Nat.reduceMod, Nat.reducePow, Nat.reduceMul, Int.reduceToNat, Int.reduceLT, Int.reduceLE, Int.toNat_natCast]
  repeat' (first | refine w1g ?_ | refine w1l ?_ | refine w1q ?_ | refine w1b ?_ | refine w1p ?_ | ((first | refine w1r ?_ | refine w1k ?_ | refine w1e ?_); simp (maxSteps := 400000) (disch := omega) only [push_cast, ↓reduceIte, reduceCtorEq, Nat.reduceAdd, Nat.reduceSub, Nat.reduceEqDiff, Nat.reduceLeDiff, Nat.reduceLT, Nat.reduceBEq, Nat.reduceDiv, Nat.reduceMod, Nat.reducePow, Nat.reduceMul, Int.reduceToNat, Int.reduceLT, Int.reduceLE, List.length_replicate]) | refine an2 ?_ | fail)
  refine W_loopU (fun j : Nat => [(25, iv j)]) (fun j => [(5, .row 0 2 1 0 cI (tbl n (upT (fun _ => far) j)))]) (fun j => j ≤ n) (fun j => n - j) 0 (by omega) (by rfl) (by rw [upT_zero]; rfl) (fun j hj => ?_)
  have tl := tbl_len n (upT (fun _ => far) j)
  (refine sy1 ?_; try exact True.intro)
  repeat' (first | refine w1g ?_ | refine w1l ?_ | refine w1q ?_ | refine w1b ?_ | refine w1p ?_ | ((first | refine w1r ?_ | refine w1k ?_ | refine w1e ?_); (refine sy1 ?_; try exact True.intro)) | refine an2 ?_ | fail)
  refine W_condD (by rfl) (fun h5 => ?_) (fun h5 => ?_)
  · have e3 := upT_set (fun _ => far) (j := j) (n := n)
    repeat' (first | refine w1g ?_ | refine w1l ?_ | refine w1q ?_ | refine w1b ?_ | refine w1p ?_ | ((first | refine w1r ?_ | refine w1k ?_ | refine w1e ?_); simp (maxSteps := 400000) (disch := omega) only [push_cast, ↓reduceIte, reduceCtorEq, Nat.reduceAdd, Nat.reduceSub, Nat.reduceEqDiff, Nat.reduceLeDiff, Nat.reduceLT, Nat.reduceBEq, Nat.reduceDiv, Nat.reduceMod, Nat.reducePow, Nat.reduceMul, Int.reduceToNat, Int.reduceLT, Int.reduceLE, tl]) | refine an2 ?_ | fail)
    refine ⟨rfl, ⟨Nat.le_of_ble_eq_true rfl, rfl⟩, by omega, far, rfl, rfl, ?_⟩
    rw [e3]
    (refine sy1 ?_; try exact True.intro)
    repeat' (first | refine w1g ?_ | refine w1l ?_ | refine w1q ?_ | refine w1b ?_ | refine w1p ?_ | ((first | refine w1r ?_ | refine w1k ?_ | refine w1e ?_); (refine sy1 ?_; try exact True.intro)) | refine an2 ?_ | fail)
    refine ⟨j + 1, by omega, by omega, by rfl, ?_⟩
    (refine syE ?_; try exact True.intro)
  have hjn : j = n := by omega
  subst hjn
  have ea : (a.toNat : Int) = a := by omega
  have ei : (tbl j (upT (fun _ => far) j)).set a.toNat 0 = ini j a.toNat := by rw [upT_all, tbl_rep]; rfl
  repeat' (first | refine w1g ?_ | refine w1l ?_ | refine w1q ?_ | refine w1b ?_ | refine w1p ?_ | ((first | refine w1r ?_ | refine w1k ?_ | refine w1e ?_); simp (maxSteps := 400000) (disch := omega) only [push_cast, ↓reduceIte, reduceCtorEq, Nat.reduceAdd, Nat.reduceSub, Nat.reduceEqDiff, Nat.reduceLeDiff, Nat.reduceLT, Nat.reduceBEq, Nat.reduceDiv, Nat.reduceMod, Nat.reducePow, Nat.reduceMul, Int.reduceToNat, Int.reduceLT, Int.reduceLE, tl]) | refine an2 ?_ | fail)
  refine ⟨rfl, ⟨Nat.le_of_ble_eq_true rfl, rfl⟩, by omega, 0, rfl, rfl, ?_⟩
  rw [ei]
  (refine sy1 ?_; try exact True.intro)
  repeat' (first | refine w1g ?_ | refine w1l ?_ | refine w1q ?_ | refine w1b ?_ | refine w1p ?_ | ((first | refine w1r ?_ | refine w1k ?_ | refine w1e ?_); (refine sy1 ?_; try exact True.intro)) | refine an2 ?_ | fail)
  refine ⟨rfl, ⟨by omega, by omega, by omega⟩, Int, 0, cI, 0, rfl, rfl, by omega, rfl, ?_⟩
  simp (maxSteps := 400000) (disch := omega) only [push_cast, ↓reduceIte, reduceCtorEq, Nat.reduceAdd, Nat.reduceSub, Nat.reduceEqDiff, Nat.reduceLeDiff, Nat.reduceLT, Nat.reduceBEq, Nat.reduceDiv, Nat.reduceMod, Nat.reducePow, Nat.reduceMul, Int.reduceToNat, Int.reduceLT, Int.reduceLE, Int.toNat_natCast]
  repeat' (first | refine w1g ?_ | refine w1l ?_ | refine w1q ?_ | refine w1b ?_ | refine w1p ?_ | ((first | refine w1r ?_ | refine w1k ?_ | refine w1e ?_); simp (maxSteps := 400000) (disch := omega) only [push_cast, ↓reduceIte, reduceCtorEq, Nat.reduceAdd, Nat.reduceSub, Nat.reduceEqDiff, Nat.reduceLeDiff, Nat.reduceLT, Nat.reduceBEq, Nat.reduceDiv, Nat.reduceMod, Nat.reducePow, Nat.reduceMul, Int.reduceToNat, Int.reduceLT, Int.reduceLE, List.length_replicate]) | refine an2 ?_ | fail)
  refine W_loopU (fun i : Nat => [(42, iv i)]) (fun i => [(19, .row 0 2 1 0 cI (tbl m.rs.length (upT c i)))]) (fun i => i ≤ m.rs.length) (fun i => m.rs.length - i) 0 (by omega) (by rfl) (by rw [upT_zero]; rfl) (fun i hi => ?_)
  have tc := tbl_len m.rs.length (upT c i)
  (refine sy1 ?_; try exact True.intro)
  repeat' (first | refine w1g ?_ | refine w1l ?_ | refine w1q ?_ | refine w1b ?_ | refine w1p ?_ | ((first | refine w1r ?_ | refine w1k ?_ | refine w1e ?_); (refine sy1 ?_; try exact True.intro)) | refine an2 ?_ | fail)
  refine W_condD (by rfl) (fun h6 => ?_) (fun h6 => ?_)
  · have hlt : i < m.rs.length := by omega
    have e3 := upT_set c (j := i) (n := m.rs.length)
    have cg := hg i hlt
    repeat' (first | refine w1g ?_ | refine w1l ?_ | refine w1q ?_ | refine w1b ?_ | refine w1p ?_ | ((first | refine w1r ?_ | refine w1k ?_ | refine w1e ?_ | refine CallC.now (cg) ?_); simp (maxSteps := 400000) (disch := omega) only [push_cast, ↓reduceIte, reduceCtorEq, Nat.reduceAdd, Nat.reduceSub, Nat.reduceEqDiff, Nat.reduceLeDiff, Nat.reduceLT, Nat.reduceBEq, Nat.reduceDiv, Nat.reduceMod, Nat.reducePow, Nat.reduceMul, Int.reduceToNat, Int.reduceLT, Int.reduceLE, tc]) | refine an2 ?_ | fail)
    refine ⟨rfl, ⟨Nat.le_of_ble_eq_true rfl, rfl⟩, by omega, c i, rfl, rfl, ?_⟩
    rw [e3]
    (refine sy1 ?_; try exact True.intro)
    repeat' (first | refine w1g ?_ | refine w1l ?_ | refine w1q ?_ | refine w1b ?_ | refine w1p ?_ | ((first | refine w1r ?_ | refine w1k ?_ | refine w1e ?_); (refine sy1 ?_; try exact True.intro)) | refine an2 ?_ | fail)
    refine ⟨i + 1, by omega, by omega, by rfl, ?_⟩
    (refine syE ?_; try exact True.intro)
  have hin : i = m.rs.length := by omega
  rw [hin, upT_all]
  clear tc tl ei h5 hj h6 hi
  obtain ⟨es, hes⟩ : ∃ es, es = edgC m bk c := ⟨_, rfl⟩
  obtain ⟨k1, k2⟩ := edgC_ok h bk hc
  rw [← hes, hnn, Int.toNat_natCast] at k1
  rw [← hes] at k2
  have hsj : a.toNat < j := by omega
  have hres : dstC m bk c a = dst es j a.toNat := by unfold dstC; rw [← hes, hnn, Int.toNat_natCast]
  rw [hres]
  repeat' (first | refine w1g ?_ | refine w1l ?_ | refine w1q ?_ | refine w1b ?_ | refine w1p ?_ | ((first | refine w1r ?_ | refine w1k ?_ | refine w1e ?_); (refine sy1 ?_; try exact True.intro)) | refine an2 ?_ | fail)
  refine W_loopU (fun u : List Int × Bool => [(13, bv u.2)]) (fun u => [(5, .row 0 2 1 0 cI u.1)]) (fun u => Dst es a.toNat j u.1 ∧ (u.2 = false → ∀ e ∈ es, stp u.1 e = u.1)) (fun u => 2 * (tot u.1).toNat + (if u.2 = true then 1 else 0)) (ini j a.toNat, true) ⟨ini_dst hsj, fun q => by cases q⟩ (by rfl) (by rfl) (fun u hu => ?_)
  obtain ⟨o, ch⟩ := u
  obtain ⟨hd, hch⟩ := hu
  dsimp only at hd hch ⊢
  have lo := hd.len
  have gI : ∀ (l : List Int) i, l.getD i 0 = gi l i := fun _ _ => rfl
  (refine sy1 ?_; try exact True.intro)
  repeat' (first | refine w1g ?_ | refine w1l ?_ | refine w1q ?_ | refine w1b ?_ | refine w1p ?_ | ((first | refine w1r ?_ | refine w1k ?_ | refine w1e ?_); (refine sy1 ?_; try exact True.intro)) | refine an2 ?_ | fail)
  refine W_cond (by rfl) (fun hb => ?_) (fun hb => ?_)
  · subst hb
    repeat' (first | refine w1g ?_ | refine w1l ?_ | refine w1q ?_ | refine w1b ?_ | refine w1p ?_ | ((first | refine w1r ?_ | refine w1k ?_ | refine w1e ?_); (refine sy1 ?_; try exact True.intro)) | refine an2 ?_ | fail)
    refine W_loopU (fun v : Nat × Bool => [(13, bv v.2), (57, iv v.1)]) (fun v => [(5, .row 0 2 1 0 cI (pas o (es.take v.1)))]) (fun v => v.1 ≤ m.rs.length ∧ (v.2 = true → tot (pas o (es.take v.1)) < tot o) ∧ (v.2 = false → ∀ e ∈ es.take v.1, stp o e = o)) (fun v => m.rs.length - v.1) (0, false) ⟨Nat.zero_le _, (fun q => absurd q (by decide)), fun _ e he => by rw [List.take_zero] at he; cases he⟩ (by rfl) (by rfl) (fun v hv => ?_)
    obtain ⟨i, cv⟩ := v
    obtain ⟨hi, hv1, hv2⟩ := hv
    dsimp only at hi hv1 hv2 ⊢
    (refine sy1 ?_; try exact True.intro)
    repeat' (first | refine w1g ?_ | refine w1l ?_ | refine w1q ?_ | refine w1b ?_ | refine w1p ?_ | ((first | refine w1r ?_ | refine w1k ?_ | refine w1e ?_); (refine sy1 ?_; try exact True.intro)) | refine an2 ?_ | fail)
    refine W_condD (by rfl) (fun h6 => ?_) (fun h6 => ?_)
    · have hlt : i < m.rs.length := by omega
      have hgr : m.rs.getD i dR = gr m i := rfl
      have e3 : es.take (i + 1) = es.take i ++ [edC m bk c i] := by rw [hes]; exact take_edC hlt
      have e4 : pas o (es.take (i + 1)) = stp (pas o (es.take i)) (edC m bk c i) := by rw [e3, pas_snoc]
      have hci := tbl_at c hlt
      have hcb := hcb i hlt
      repeat' (first | refine w1g ?_ | refine w1l ?_ | refine w1q ?_ | refine w1b ?_ | refine w1p ?_ | ((first | refine w1r ?_ | refine w1k ?_ | refine w1e ?_); simp (maxSteps := 400000) (disch := omega) only [push_cast, ↓reduceIte, reduceCtorEq, Nat.reduceAdd, Nat.reduceSub, Nat.reduceEqDiff, Nat.reduceLeDiff, Nat.reduceLT, Nat.reduceBEq, Nat.reduceDiv, Nat.reduceMod, Nat.reducePow, Nat.reduceMul, Int.reduceToNat, Int.reduceLT, Int.reduceLE, hgr, hci, tbl_len]) | refine an2 ?_ | fail)
      have hdu := pas_dst k1 (es.take i) o (fun e he => List.mem_of_mem_take he) hd
      have hel : edC m bk c i ∈ es := by rw [hes]; exact List.mem_map.2 ⟨i, List.mem_range.2 hlt, rfl⟩
      obtain ⟨X, hX⟩ : ∃ X, X = if bk = true then (gr m i).t else (gr m i).f := ⟨_, rfl⟩
      obtain ⟨Y, hY⟩ : ∃ Y, Y = if bk = true then (gr m i).f else (gr m i).t := ⟨_, rfl⟩
      have hr := roadB_ok (h.r i hlt)
      have hXr : 0 ≤ X ∧ X < j := by have := hr.f; have := hr.t; rw [hX]; split <;> omega
      have hYr : 0 ≤ Y ∧ Y < j := by have := hr.f; have := hr.t; rw [hY]; split <;> omega
      have hex : (edC m bk c i).x = X.toNat := by unfold edC; rw [hX]; split <;> rfl
      have hey : (edC m bk c i).y = Y.toNat := by unfold edC; rw [hY]; split <;> rfl
      have hec : (edC m bk c i).c = c i := by unfold edC; split <;> rfl
      have htk : ∀ e ∈ es.take (i + 1), e ∈ es.take i ∨ e = edC m bk c i := fun e he => by
        rw [e3] at he
        rcases List.mem_append.1 he with he | he
        · exact .inl he
        · exact .inr (List.mem_singleton.1 he)
      have hsame : cv = false → pas o (es.take i) = o := fun q => pas_same _ _ (hv2 q)
      generalize edC m bk c i = e at *
      have hst : ∀ z, stp z e = if 0 ≤ c i ∧ gi z X.toNat < far ∧ gi z X.toNat + c i < gi z Y.toNat then z.set Y.toNat (gi z X.toNat + c i) else z := fun z => by unfold stp; rw [hec, hex, hey]
      have hux := hdu.le (y := X.toNat) (by omega)
      have huy := hdu.le (y := Y.toNat) (by omega)
      have hux2 : gi (pas o (es.take i)) X.toNat ≤ 1125899906842624 := hux.2
      have huy2 : gi (pas o (es.take i)) Y.toNat ≤ 1125899906842624 := huy.2
      have hlu := hdu.len
      have htot := stp_tot (pas o (es.take i)) e (by rw [hey]; omega)
      have hto := pas_tot (es.take i) o (fun e he => by rw [lo]; exact (k1 e (List.mem_of_mem_take he)).2)
      generalize pas o (es.take i) = u at *
      refine W_condD (by rfl) (fun h7 => ?_) (fun h7 => ?_)
      · have hz : ∀ z, stp z e = z := fun z => by rw [hst, if_neg (by omega)]
        repeat' (first | refine w1g ?_ | refine w1l ?_ | refine w1q ?_ | refine w1b ?_ | refine w1p ?_ | ((first | refine w1r ?_ | refine w1k ?_ | refine w1e ?_); (refine sy1 ?_; try exact True.intro)) | refine an2 ?_ | fail)
        refine ⟨(i + 1, cv), ⟨by dsimp only; omega, fun q => by dsimp only at q ⊢; rw [e4, hz]; exact hv1 q, fun q e' he' => ?_⟩, by dsimp only; omega, by rfl, ?_⟩
        · rcases htk e' he' with he' | rfl
          · exact hv2 q e' he'
          · exact hz o
        dsimp only
        rw [e4, hz]
        (refine syE ?_; try exact True.intro)
      repeat' (first | refine w1g ?_ | refine w1l ?_ | refine w1q ?_ | refine w1b ?_ | refine w1p ?_ | ((first | refine w1r ?_ | refine w1k ?_ | refine w1e ?_); (refine sy1 ?_; try exact True.intro)) | refine an2 ?_ | fail)
      refine W_meet [(16, iv X), (17, iv Y)] [] ?_ ?_
      · refine W_cond (by rfl) (fun hb => ?_) (fun hb => ?_)
        · rw [hX, hY, hb, if_pos rfl, if_pos rfl]
          repeat' (first | refine w1g ?_ | refine w1l ?_ | refine w1q ?_ | refine w1b ?_ | refine w1p ?_ | ((first | refine w1r ?_ | refine w1k ?_ | refine w1e ?_); (refine sy1 ?_; try exact True.intro)) | refine an2 ?_ | fail)
          first | exact ⟨rfl, by rfl⟩ | rfl
        · rw [hX, hY, hb, if_neg (by decide), if_neg (by decide)]
          repeat' (first | refine w1g ?_ | refine w1l ?_ | refine w1q ?_ | refine w1b ?_ | refine w1p ?_ | ((first | refine w1r ?_ | refine w1k ?_ | refine w1e ?_); (refine sy1 ?_; try exact True.intro)) | refine an2 ?_ | fail)
          first | exact ⟨rfl, by rfl⟩ | rfl
      (refine sy1 ?_; try exact True.intro)
      repeat' (first | refine w1g ?_ | refine w1l ?_ | refine w1q ?_ | refine w1b ?_ | refine w1p ?_ | ((first | refine w1r ?_ | refine w1k ?_ | refine w1e ?_); simp (maxSteps := 400000) (disch := omega) only [push_cast, ↓reduceIte, reduceCtorEq, Nat.reduceAdd, Nat.reduceSub, Nat.reduceEqDiff, Nat.reduceLeDiff, Nat.reduceLT, Nat.reduceBEq, Nat.reduceDiv, Nat.reduceMod, Nat.reducePow, Nat.reduceMul, Int.reduceToNat, Int.reduceLT, Int.reduceLE, gI, hci, tbl_len, hlu]) | refine an2 ?_ | fail)
      refine W_cond (by rfl) (fun h8 => ?_) (fun h8 => ?_)
      · rw [Bool.and_eq_true, decide_eq_true_eq, decide_eq_true_eq] at h8
        have hs1 : stp u e = u.set Y.toNat (gi u X.toNat + c i) := by rw [hst, if_pos ⟨by omega, h8.1, h8.2⟩]
        have ht1 : tot (stp u e) < tot u := by
          rcases Int.lt_or_eq_of_le htot.1 with q | q
          · exact q
          · have q2 := htot.2 q
            rw [hs1] at q2
            have q3 : gi (u.set Y.toNat (gi u X.toNat + c i)) Y.toNat = gi u Y.toNat := by rw [q2]
            rw [gi_set (by omega), if_pos rfl] at q3
            omega
        repeat' (first | refine w1g ?_ | refine w1l ?_ | refine w1q ?_ | refine w1b ?_ | refine w1p ?_ | ((first | refine w1r ?_ | refine w1k ?_ | refine w1e ?_); simp (maxSteps := 400000) (disch := omega) only [push_cast, ↓reduceIte, reduceCtorEq, Nat.reduceAdd, Nat.reduceSub, Nat.reduceEqDiff, Nat.reduceLeDiff, Nat.reduceLT, Nat.reduceBEq, Nat.reduceDiv, Nat.reduceMod, Nat.reducePow, Nat.reduceMul, Int.reduceToNat, Int.reduceLT, Int.reduceLE, tbl_len, hlu]) | refine an2 ?_ | fail)
        refine ⟨rfl, ⟨Nat.le_of_ble_eq_true rfl, rfl⟩, by omega, gi u X.toNat + c i, rfl, rfl, ?_⟩
        rw [← hs1, ← e4]
        (refine sy1 ?_; try exact True.intro)
        repeat' (first | refine w1g ?_ | refine w1l ?_ | refine w1q ?_ | refine w1b ?_ | refine w1p ?_ | ((first | refine w1r ?_ | refine w1k ?_ | refine w1e ?_); (refine sy1 ?_; try exact True.intro)) | refine an2 ?_ | fail)
        refine ⟨(i + 1, true), ⟨by dsimp only; omega, fun _ => by dsimp only; rw [e4]; omega, fun q => absurd (show true = false from q) (by decide)⟩, by dsimp only; omega, by rfl, ?_⟩
        (refine syE ?_; try exact True.intro)
      · have hz : stp u e = u := by
          rw [hst, if_neg]
          rintro ⟨q1, q2, q3⟩
          have q2 : gi u X.toNat < 1125899906842624 := q2
          rw [decide_eq_true q2, decide_eq_true q3] at h8
          cases h8
        repeat' (first | refine w1g ?_ | refine w1l ?_ | refine w1q ?_ | refine w1b ?_ | refine w1p ?_ | ((first | refine w1r ?_ | refine w1k ?_ | refine w1e ?_); (refine sy1 ?_; try exact True.intro)) | refine an2 ?_ | fail)
        refine ⟨(i + 1, cv), ⟨by dsimp only; omega, fun q => by dsimp only at q ⊢; rw [e4, hz]; exact hv1 q, fun q e' he' => ?_⟩, by dsimp only; omega, by rfl, ?_⟩
        · rcases htk e' he' with he' | rfl
          · exact hv2 q e' he'
          · rw [hsame q] at hz
            exact hz
        dsimp only
        rw [e4, hz]
        (refine syE ?_; try exact True.intro)
    · have hin2 : i = m.rs.length := by omega
      have hall : es.take i = es := by rw [hin2, hes]; exact List.take_of_length_le (by simp [edgC])
      rw [hall] at hv1 hv2 ⊢
      have hdp := pas_dst k1 es o (fun e he => he) hd
      have hnn1 := tot_nn (pas o es) (fun q hq => (hdp.le (by rw [hdp.len] at hq; exact hq)).1)
      repeat' (first | refine w1g ?_ | refine w1l ?_ | refine w1q ?_ | refine w1b ?_ | refine w1p ?_ | ((first | refine w1r ?_ | refine w1k ?_ | refine w1e ?_); (refine sy1 ?_; try exact True.intro)) | refine an2 ?_ | fail)
      refine ⟨(pas o es, cv), ⟨hdp, fun q => ?_⟩, ?_, by rfl, ?_⟩
      · dsimp only at q ⊢
        have := hv2 q
        rw [pas_same es o this]
        exact this
      · dsimp only
        cases cv with
        | true =>
          have := hv1 rfl
          simp only [if_true]
          omega
        | false =>
          rw [pas_same es o (hv2 rfl)]
          simp
      (refine syE ?_; try exact True.intro)
  · have hfix := fix_stp (fun e he => by rw [lo]; exact (k1 e he).2) (hch hb)
    have hfin : o = dst es j a.toNat := dst_ext k1 hd hfix (dst_dst k1 hsj) (dst_fix k1 k2 hsj)
    rw [← hfin]
    repeat' (first | refine w1g ?_ | refine w1l ?_ | refine w1q ?_ | refine w1b ?_ | refine w1p ?_ | ((first | refine w1r ?_ | refine w1k ?_ | refine w1e ?_); (refine sy1 ?_; try exact True.intro)) | refine an2 ?_ | fail)
    exact W_ret ⟨_, _, ⟨rfl, rfl⟩, rfl⟩
theorem fn57 (m : Mp) (f : Nat → Int) (a : Int) (bk : Bool) (g : Nat) (fi ca : List AV) (c : Nat → Int) (h : OkM m) (ha : 0 ≤ a ∧ a < m.n) (hc : ∀ i, i < m.rs.length → 0 ≤ c i → 1 ≤ c i) (hcb : ∀ i, i < m.rs.length → -1099511627776 ≤ c i ∧ c i ≤ 1099511627776)
    (hg : ∀ i, i < m.rs.length → Sy.Fn Try.prog g (fi ++ [iv (i : Nat)] ++ ca) (iv (c i))) : Sy.Fn Try.prog 57 [aAt m f, iv a, bv bk, .clo g fi ca] (aI (dstC m bk c a)) := by
  exact Fn_of_W mixed Xt57 rfl (W_mono' (w57 m f a bk g fi ca c h ha hc hcb hg) fin_of_finO)
end Go.Proofs.Ytfbdlmenhoagmaa

namespace Go.Proofs.Ytfbdlmenhoagmaa
set_option linter.unusedVariables false
def msk (l : List Int) : Nat := l.foldl (fun s x => s ||| 2 ^ x.toNat) 0
theorem msk_snoc (l : List Int) (i : Nat) : msk (l ++ [(i : Int)]) = msk l ||| 2 ^ i := by
  unfold msk; rw [List.foldl_append]; rfl
theorem msk_aux : ∀ (l p : List Int) (s : Nat), BitsOf s p → (∀ x ∈ l, 0 ≤ x) → BitsOf (l.foldl (fun s x => s ||| 2 ^ x.toNat) s) (p ++ l)
  | [], p, s, h, _ => by simpa using h
  | x :: l, p, s, h, hx => by
    have h1 := bits_snoc h x.toNat
    have e : ((x.toNat : Nat) : Int) = x := by have := hx x List.mem_cons_self; omega
    rw [e] at h1
    have := msk_aux l _ _ h1 (fun y hy => hx y (List.mem_cons_of_mem _ hy))
    rwa [List.append_assoc] at this
theorem msk_bits {l : List Int} (h : ∀ x ∈ l, 0 ≤ x) : BitsOf (msk l) l := msk_aux l [] 0 bits_nil h
theorem msk_lt {n : Int} {l : List Int} (h : Srt n 0 l) (hn : n ≤ 10) : msk l < 1024 := by
  have := bits_lt (n := 10) (msk_bits fun x hx => (h.mem x hx).1) (fun x hx => by have := (h.mem x hx).2; omega)
  simpa using this
def bS : Option (List Int × Int) → Nat
  | none => 0
  | some p => msk p.1
def bC : Option (List Int × Int) → Int
  | none => 0
  | some p => p.2
def bF : Option (List Int × Int) → Bool
  | none => false
  | some _ => true
theorem lstep_no {f : List Int → Int} {ok : List Int → Bool} {b : Option (List Int × Int)} {x : List Int} (h : ok x = false ∨ (bF b = true ∧ bC b ≤ f x)) : lstep f ok b x = b := by
  unfold lstep
  by_cases q : ok x = true
  · rw [if_pos q]
    rcases h with h | ⟨h1, h2⟩
    · rw [q] at h; cases h
    · cases b with
      | none => cases h1
      | some p =>
        obtain ⟨y, n⟩ := p
        dsimp only
        rw [if_neg (by show ¬ f x < n; have : bC (some (y, n)) = n := rfl; omega)]
  · rw [if_neg q]
theorem lstep_yes {f : List Int → Int} {ok : List Int → Bool} {b : Option (List Int × Int)} {x : List Int} (h : ok x = true) (h2 : bF b = false ∨ f x < bC b) : lstep f ok b x = some (x, f x) := by
  unfold lstep
  rw [if_pos h]
  cases b with
  | none => rfl
  | some p =>
    obtain ⟨y, n⟩ := p
    rcases h2 with h2 | h2
    · cases h2
    · dsimp only
      rw [if_pos (by have : bC (some (y, n)) = n := rfl; omega)]
end Go.Proofs.Ytfbdlmenhoagmaa

namespace Go.Proofs.Ytfbdlmenhoagmaa
open Go Sy
set_option maxRecDepth 100000
set_option maxHeartbeats 4000000
set_option linter.unusedVariables false
set_option linter.unusedSimpArgs false
theorem fn55 (n : Int) : Sy.Fn Try.prog 55 [iv n] (.clo 114 [] [.fp [iv n] 0]) := by
  refine Fn_of_W mixed Xt55 rfl ?_
  repeat' (first | refine w1g ?_ | refine w1l ?_ | refine w1q ?_ | refine w1b ?_ | refine w1p ?_ | ((first | refine w1r ?_ | refine w1k ?_ | refine w1e ?_); (refine sy1 ?_; try exact True.intro)) | refine an2 ?_ | fail)
  exact W_ret ⟨[_], ⟨rfl, rfl⟩, rfl⟩
theorem shl_one {j : Nat} (h : j ≤ 9) : IntKind.u64.wrap (1 * 2 ^ min j IntKind.u64.bits) = ((2 ^ j : Nat) : Int) := by
  have : j = 0 ∨ j = 1 ∨ j = 2 ∨ j = 3 ∨ j = 4 ∨ j = 5 ∨ j = 6 ∨ j = 7 ∨ j = 8 ∨ j = 9 := by omega
  rcases this with rfl | rfl | rfl | rfl | rfl | rfl | rfl | rfl | rfl | rfl <;> decide
theorem or_msk {x : List Int} {j : Nat} (h : msk x < 1024) (hj : j ≤ 9) : bits .or .u64 (msk x : Int) (IntKind.u64.wrap (1 * 2 ^ min j IntKind.u64.bits)) = (msk (x ++ [(j : Int)]) : Int) := by
  rw [shl_one hj, msk_snoc]
  have : 2 ^ j ≤ 2 ^ 9 := Nat.pow_le_pow_right (by omega) hj
  exact bits_or_u64_nat _ _ (by omega) (by omega)
theorem walk_inl {ι : Type} (n : Nat) (hn : n ≤ 10) (B : ι → Mem) (step : ι → List Int → ι) (N0 kw l : Nat) (hBas : ∀ b, Bas N0 (B b))
    (hW : ∀ b, lm (B b) kw = some (.cells [.cq 115 [] [.fp [yv l] 0, .fp [iv n] 0, .own kw 0]]))
    (HY : ∀ b x, Srt n 0 x → ∀ tm R nx, Opq N0 R nx → Yl Try.prog l [uv (msk x)] ⟨tm, B b ++ R, nx⟩ (MidB N0 nx tm R (fun r B' => r = true ∧ B' = B (step b x)))) :
    ∀ (d i : Nat) (x : List Int), i + d = n → Srt n 0 x → (∀ y ∈ x, y < (i : Int)) → ∀ b tm R nx, Opq N0 R nx →
      Inl Try.prog 115 [uv (msk x), iv i, .fp [yv l] 0, .fp [iv n] 0, .own kw 0] ⟨tm, B b ++ R, nx⟩ (MidR N0 nx tm R (fun r B' => r = bv true ∧ B' = B ((x :: brn d x i).foldl step b))) := by
  intro d
  induction d using Nat.strongRecOn with
  | _ d ih =>
  intro i x hi hx hlt b tm R nx hR
  refine Inl_mid mixed Xt115 rfl hR (hBas b) (fun R' nx' hR' => ?_)
  have hWR : ∀ b, lm (B b ++ R') kw = some (.cells [.cq 115 [] [.fp [yv l] 0, .fp [iv n] 0, .own kw 0]]) := fun b => by rw [lm_app, hW]
  (refine sy1 ?_; try exact True.intro)
  repeat' (first | refine w1g ?_ | refine w1l ?_ | refine w1q ?_ | refine w1b ?_ | refine w1p ?_ | ((first | refine w1r ?_ | refine w1k ?_ | refine w1e ?_); simp (maxSteps := 400000) (disch := omega) only [push_cast, ↓reduceIte, reduceCtorEq, Nat.reduceAdd, Nat.reduceSub, Nat.reduceEqDiff, Nat.reduceLeDiff, Nat.reduceLT, Nat.reduceBEq, Nat.reduceDiv, Nat.reduceMod, Nat.reducePow, Nat.reduceMul, Int.reduceToNat, Int.reduceLT, Int.reduceLE, hWR]) | refine an2 ?_ | fail)
  refine StopC.yld (fun hpc => ⟨trivial, Yl_le (HY b x hx _ R' _ (hR'.le (by omega))) (fun r s' hs => ?_)⟩) (fun hpc => absurd trivial hpc)
  obtain ⟨B', _, ⟨rfl, rfl⟩, hl⟩ := hs
  refine ⟨_, ?_, hl⟩
  (refine sy1 ?_; try exact True.intro)
  repeat' (first | refine w1g ?_ | refine w1l ?_ | refine w1q ?_ | refine w1b ?_ | refine w1p ?_ | ((first | refine w1r ?_ | refine w1k ?_ | refine w1e ?_); simp (maxSteps := 400000) (disch := omega) only [push_cast, ↓reduceIte, reduceCtorEq, Nat.reduceAdd, Nat.reduceSub, Nat.reduceEqDiff, Nat.reduceLeDiff, Nat.reduceLT, Nat.reduceBEq, Nat.reduceDiv, Nat.reduceMod, Nat.reducePow, Nat.reduceMul, Int.reduceToNat, Int.reduceLT, Int.reduceLE, hWR]) | refine an2 ?_ | fail)
  refine W_cond (by rfl) (fun h => by cases h) (fun _ => ?_)
  repeat' (first | refine w1g ?_ | refine w1l ?_ | refine w1q ?_ | refine w1b ?_ | refine w1p ?_ | ((first | refine w1r ?_ | refine w1k ?_ | refine w1e ?_); (refine sy1 ?_; try exact True.intro)) | refine an2 ?_ | fail)
  refine W_loopM (fun u : Nat × ι => [(8, iv u.1)]) (fun u => B u.2 ++ R') (fun u => i ≤ u.1 ∧ u.1 ≤ n ∧ (brn (n - u.1) x u.1).foldl step u.2 = (x :: brn d x i).foldl step b) (fun u => n - u.1) nx' (fun u _ => hR'.mem (hBas u.2)) (i, step b x) ⟨Nat.le_refl _, by omega, by rw [show n - i = d by omega]; rfl⟩ (by rfl) (by rfl) (fun u hu => ?_)
  obtain ⟨j, c⟩ := u
  obtain ⟨h1, h2, h3⟩ := hu
  dsimp only at h1 h2 h3 ⊢
  (refine sy1 ?_; try exact True.intro)
  repeat' (first | refine w1g ?_ | refine w1l ?_ | refine w1q ?_ | refine w1b ?_ | refine w1p ?_ | ((first | refine w1r ?_ | refine w1k ?_ | refine w1e ?_); (refine sy1 ?_; try exact True.intro)) | refine an2 ?_ | fail)
  refine W_condD (by rfl) (fun h5 => ?_) (fun h5 => ?_)
  · have e5 := or_msk (j := j) (msk_lt hx (by omega)) (by omega)
    have hx1 : Srt (n : Int) 0 (x ++ [(j : Int)]) := hx.snoc (by omega) (by omega) (fun y hy => by have := hlt y hy; omega)
    have hx2 : ∀ y ∈ x ++ [(j : Int)], y < ((j + 1 : Nat) : Int) := fun y hy => by
      rcases List.mem_append.1 hy with q | q
      · have := hlt y q; omega
      · rw [List.mem_singleton] at q; omega
    have e6 : ((j + 1 : Nat) : Int) = (j : Int) + 1 := by omega
    obtain ⟨d', hd'⟩ : ∃ d', n - j = d' + 1 := ⟨n - j - 1, by omega⟩
    have hI := ih d' (by omega) (j + 1) (x ++ [(j : Int)]) (by omega) hx1 hx2 c
    rw [e6] at hI
    repeat' (first | refine w1g ?_ | refine w1l ?_ | refine w1q ?_ | refine w1b ?_ | refine w1p ?_ | ((first | refine W_regS 7 (by decide) (by decide) ?_ | refine w1r ?_ | refine w1k ?_ | refine w1e ?_); simp (maxSteps := 400000) (disch := omega) only [push_cast, ↓reduceIte, reduceCtorEq, Nat.reduceAdd, Nat.reduceSub, Nat.reduceEqDiff, Nat.reduceLeDiff, Nat.reduceLT, Nat.reduceBEq, Nat.reduceDiv, Nat.reduceMod, Nat.reducePow, Nat.reduceMul, Int.reduceToNat, Int.reduceLT, Int.reduceLE, hWR, e5]) | refine an2 ?_ | fail)
    refine CallC.inl (Inl_le' (hI _ R' _ (hR'.le (by omega))) (fun r s2 hs => ?_))
    obtain ⟨B', _, ⟨rfl, rfl⟩, hl2⟩ := hs
    refine ⟨_, ?_, hl2⟩
    (refine sy1 ?_; try exact True.intro)
    repeat' (first | refine w1g ?_ | refine w1l ?_ | refine w1q ?_ | refine w1b ?_ | refine w1p ?_ | ((first | refine w1r ?_ | refine w1k ?_ | refine w1e ?_); simp (maxSteps := 400000) (disch := omega) only [push_cast, ↓reduceIte, reduceCtorEq, Nat.reduceAdd, Nat.reduceSub, Nat.reduceEqDiff, Nat.reduceLeDiff, Nat.reduceLT, Nat.reduceBEq, Nat.reduceDiv, Nat.reduceMod, Nat.reducePow, Nat.reduceMul, Int.reduceToNat, Int.reduceLT, Int.reduceLE, hWR]) | refine an2 ?_ | fail)
    refine W_cond (by rfl) (fun h => by cases h) (fun _ => ?_)
    repeat' (first | refine w1g ?_ | refine w1l ?_ | refine w1q ?_ | refine w1b ?_ | refine w1p ?_ | ((first | refine w1r ?_ | refine w1k ?_ | refine w1e ?_); (refine sy1 ?_; try exact True.intro)) | refine an2 ?_ | fail)
    refine ⟨(j + 1, (((x ++ [(j : Int)]) :: brn d' (x ++ [(j : Int)]) (j + 1)).foldl step c)), ⟨by dsimp only; omega, by dsimp only; omega, ?_⟩, by dsimp only; omega, by rfl, rfl⟩
    dsimp only
    rw [← h3, hd', show n - (j + 1) = d' by omega]
    simp only [brn, List.foldl_append, List.foldl_cons, List.cons_append]
  · have e7 : n - j = 0 := by omega
    rw [e7] at h3
    have h3 : c = (x :: brn d x i).foldl step b := h3
    repeat' (first | refine w1g ?_ | refine w1l ?_ | refine w1q ?_ | refine w1b ?_ | refine w1p ?_ | ((first | refine w1r ?_ | refine w1k ?_ | refine w1e ?_); (refine sy1 ?_; try exact True.intro)) | refine an2 ?_ | fail)
    refine W_ret ?_
    exact ⟨[_], _, ⟨rfl, rfl⟩, rfl, hBas _, rfl, by rw [h3]⟩
def tmL (n g : Nat) (fi ca : List AV) : List (Nat × AV) := [(3, .fp [.clo g fi ca] 0), (4, .own 1 0), (5, .own 2 0), (6, .own 3 0), (10, .clo 114 [] [.fp [iv n] 0])]
def memL (n g : Nat) (fi ca : List AV) (vs : Array Value) (lp : Nat) (R : Loop) (b : Option (List Int × Int)) : Mem := [(6, .oth (.fr vs (tmL n g fi ca))), (5, .oth (.lp lp R (tmL n g fi ca))), (1, .cells [uv (bS b)]), (2, .cells [iv (bC b)]), (3, .cells [bv (bF b)]), (8, .cells [.cq 115 [] [.fp [yv lp] 0, .fp [iv n] 0, .own 8 0]])]
theorem fn54 (n : Nat) (hn : n ≤ 10) (g : Nat) (fi ca : List AV) (f : List Int → Int) (ok : List Int → Bool) (hf : ∀ x, Srt n 0 x → -1099511627776000 ≤ f x ∧ f x ≤ 11258999068426240)
    (hg : ∀ x, Srt n 0 x → Sy.Fn Try.prog g (fi ++ [uv (msk x)] ++ ca) (.tup [iv (f x), bv (ok x)])) : Sy.Fn Try.prog 54 [.clo 114 [] [.fp [iv n] 0], .clo g fi ca] (.tup [uv (bS (leastL f ok (setsM n))), iv (bC (leastL f ok (setsM n))), bv (bF (leastL f ok (setsM n)))]) := by
  refine Fn_of_W mixed Xt54 rfl ?_
  repeat' (first | refine w1g ?_ | refine w1l ?_ | refine w1q ?_ | refine w1b ?_ | refine w1p ?_ | ((first | refine w1r ?_ | refine w1k ?_ | refine w1e ?_); (refine sy1 ?_; try exact True.intro)) | refine an2 ?_ | fail)
  refine W_rfn (.inl rfl) (fun lp R hR => Inl_of_W mixed Xt114 rfl (fun vs => ?_))
  (refine sy1 ?_; try exact True.intro)
  repeat' (first | refine w1g ?_ | refine w1l ?_ | refine w1q ?_ | refine w1b ?_ | refine w1p ?_ | ((first | refine w1r ?_ | refine w1k ?_ | refine w1e ?_); (refine sy1 ?_; try exact True.intro)) | refine an2 ?_ | fail)
  have HY : ∀ b x, Srt n 0 x → ∀ tm R' nx, Opq 12 R' nx → Yl Try.prog lp [uv (msk x)] ⟨tm, memL n g fi ca vs lp R b ++ R', nx⟩ (MidB 12 nx tm R' (fun r B' => r = true ∧ B' = memL n g fi ca vs lp R (lstep f ok b x))) := fun b x hx tm R' nx hO => by
    refine Yl_mid mixed (k := 5) (tml := tmL n g fi ca) hR rfl rfl rfl hO (bas_of rfl) (fun R2 nx2 hO2 => ?_)
    have cg := hg x hx
    unfold memL tmL
    simp (maxSteps := 400000) (disch := omega) only [push_cast, ↓reduceIte, reduceCtorEq, Nat.reduceAdd, Nat.reduceSub, Nat.reduceEqDiff, Nat.reduceLeDiff, Nat.reduceLT, Nat.reduceBEq, Nat.reduceDiv, Nat.reduceMod, Nat.reducePow, Nat.reduceMul, Int.reduceToNat, Int.reduceLT, Int.reduceLE, List.cons_append, List.nil_append]
    repeat' (first | refine w1g ?_ | refine w1l ?_ | refine w1q ?_ | refine w1b ?_ | refine w1p ?_ | ((first | refine w1r ?_ | refine w1k ?_ | refine w1e ?_); (refine sy1 ?_; try exact True.intro)) | refine an2 ?_ | fail)
    refine ⟨[_, _, _, _, _, _], _, rfl, rfl, ?_⟩
    (refine sy1 ?_; try exact True.intro)
    repeat' (first | refine w1g ?_ | refine w1l ?_ | refine w1q ?_ | refine w1b ?_ | refine w1p ?_ | ((first | refine w1r ?_ | refine w1k ?_ | refine w1e ?_ | refine CallC.now (cg) ?_); (refine sy1 ?_; try exact True.intro)) | refine an2 ?_ | fail)
    refine W_cond (by rfl) (fun hb => ?_) (fun hb => ?_)
    · have e : lstep f ok b x = some (x, f x) := by
        simp only [Bool.and_eq_true, Bool.or_eq_true, Bool.not_eq_true', decide_eq_true_eq] at hb
        exact lstep_yes hb.1 hb.2
      rw [e]
      repeat' (first | refine w1g ?_ | refine w1l ?_ | refine w1q ?_ | refine w1b ?_ | refine w1p ?_ | ((first | refine w1r ?_ | refine w1k ?_ | refine w1e ?_); (refine sy1 ?_; try exact True.intro)) | refine an2 ?_ | fail)
      refine ⟨[_, _, _, _, _, _], _, rfl, bas_of rfl, rfl, rfl, rfl⟩
    · have e : lstep f ok b x = b := by
        refine lstep_no ?_
        cases h1 : ok x
        · exact .inl rfl
        · right
          rw [h1] at hb
          simp only [Bool.true_and, Bool.or_eq_false_iff, Bool.not_eq_false', decide_eq_false_iff_not] at hb
          exact ⟨hb.1, by omega⟩
      rw [e]
      repeat' (first | refine w1g ?_ | refine w1l ?_ | refine w1q ?_ | refine w1b ?_ | refine w1p ?_ | ((first | refine w1r ?_ | refine w1k ?_ | refine w1e ?_); (refine sy1 ?_; try exact True.intro)) | refine an2 ?_ | fail)
      refine ⟨[_, _, _, _, _, _], _, rfl, bas_of rfl, rfl, rfl, rfl⟩
  refine CallC.inl (Inl_le' (walk_inl n hn (memL n g fi ca vs lp R) (lstep f ok) 12 8 lp (fun b => bas_of rfl) (fun b => rfl) HY n 0 [] (by omega) trivial (fun y hy => by cases hy) none _ [] 12 (opq_nil 12)) (fun r s' hs => ?_))
  obtain ⟨B', _, ⟨rfl, rfl⟩, hl2⟩ := hs
  refine ⟨_, ?_, hl2⟩
  have el : (([] : List Int) :: brn n [] 0).foldl (lstep f ok) none = leastL f ok (setsM n) := rfl
  rw [el, List.append_nil]
  generalize leastL f ok (setsM n) = X
  unfold memL tmL
  (refine sy1 ?_; try exact True.intro)
  refine ⟨_, _, rfl, rfl, ⟨_, _, rfl, by rw [hR.st]; simp, ?_⟩⟩
  rw [hR.pe]
  simp (maxSteps := 400000) (disch := omega) only [push_cast, ↓reduceIte, reduceCtorEq, Nat.reduceAdd, Nat.reduceSub, Nat.reduceEqDiff, Nat.reduceLeDiff, Nat.reduceLT, Nat.reduceBEq, Nat.reduceDiv, Nat.reduceMod, Nat.reducePow, Nat.reduceMul, Int.reduceToNat, Int.reduceLT, Int.reduceLE, EndP]
  repeat' (first | refine w1g ?_ | refine w1l ?_ | refine w1q ?_ | refine w1b ?_ | refine w1p ?_ | ((first | refine w1r ?_ | refine w1k ?_ | refine w1e ?_); (refine sy1 ?_; try exact True.intro)) | refine an2 ?_ | fail)
  exact W_ret ⟨[_, _, _], ⟨⟨by simp, rfl⟩, ⟨by simp, rfl⟩, ⟨by simp, rfl⟩, rfl⟩, rfl⟩
end Go.Proofs.Ytfbdlmenhoagmaa

namespace Go.Proofs.Ytfbdlmenhoagmaa
open Go Sy
set_option maxRecDepth 100000
set_option maxHeartbeats 4000000
set_option linter.unusedVariables false
set_option linter.unusedSimpArgs false
theorem setW_msk {m : Mp} {l : List Int} (h : Srt m.ws.length 0 l) : SetW m l (msk l) := ⟨msk_bits fun x hx => (h.mem x hx).1, h⟩
theorem fn117 (l : List Int) (n : Nat) (hn : n ≤ 10) (hs : Srt n 0 l) : Sy.Fn Try.prog 117 [.v (.slice none 0 0), .clo 118 [] [.fp [uv (msk l)] 0]] (aI l) := by
  refine Fn_of_W mixed Xt117 rfl ?_
  obtain ⟨s, hsm⟩ : ∃ s, s = msk l := ⟨_, rfl⟩
  have hb : BitsOf s l := by rw [hsm]; exact msk_bits fun x hx => (hs.mem x hx).1
  have hs1 : s < 1024 := by rw [hsm]; exact msk_lt hs (by omega)
  rw [← hsm]
  repeat' (first | refine w1g ?_ | refine w1l ?_ | refine w1q ?_ | refine w1b ?_ | refine w1p ?_ | ((first | refine w1r ?_ | refine w1k ?_ | refine w1e ?_); (refine sy1 ?_; try exact True.intro)) | refine an2 ?_ | fail)
  refine W_rfn (.inl rfl) (fun lp R hR => Inl_of_W mixed Xt118 rfl (fun vs => ?_))
  (refine sy1 ?_; try exact True.intro)
  repeat' (first | refine w1g ?_ | refine w1l ?_ | refine w1q ?_ | refine w1b ?_ | refine w1p ?_ | ((first | refine w1r ?_ | refine w1k ?_ | refine w1e ?_); (refine sy1 ?_; try exact True.intro)) | refine an2 ?_ | fail)
  refine W_le (le_adoptC 0 0 3 1 (0 : Int) cI (by omega) _ rfl rfl (by simp)) ?_
  (refine sy1 ?_; try exact True.intro)
  refine W_loopU (fun i : Nat => [(3, iv i)]) (fun i => [(0, .cells [.row 6 (pre l i).length]), (6, .row (pre l i).length 3 1 0 cI (pre l i))]) (fun i => i ≤ 10) (fun i => 11 - i) 0 (by omega) (by rfl) (by rw [pre_zero hs]; rfl) (fun i hi => ?_)
  obtain ⟨q, hq⟩ : ∃ q, q = s / 2 ^ i := ⟨_, rfl⟩
  have e1 := shrS s (i := i) (by omega)
  have e2 := andS (s / 2 ^ i) (div_lt64 hs1 i)
  rw [bits_shr hb i] at e2
  rw [← hq] at e1 e2
  have e4 := pre_succ (i := i) hs
  have hlen : (pre l i).length ≤ 10 := by
    have h1 := hs.len (by omega)
    have h2 := List.length_filter_le (fun x => decide (x < (i : Int))) l
    unfold pre
    omega
  (refine sy1 ?_; try exact True.intro)
  repeat' (first | refine w1g ?_ | refine w1l ?_ | refine w1q ?_ | refine w1b ?_ | refine w1p ?_ | ((first | refine w1r ?_ | refine w1k ?_ | refine w1e ?_); simp (maxSteps := 400000) (disch := omega) only [push_cast, ↓reduceIte, reduceCtorEq, Nat.reduceAdd, Nat.reduceSub, Nat.reduceEqDiff, Nat.reduceLeDiff, Nat.reduceLT, Nat.reduceBEq, Nat.reduceDiv, Nat.reduceMod, Nat.reducePow, Nat.reduceMul, Int.reduceToNat, Int.reduceLT, Int.reduceLE, e1]) | refine an2 ?_ | fail)
  refine W_cond (by rfl) (fun hb2 => ?_) (fun hb2 => ?_)
  · have hi10 : i < 10 := bits_more hb (by rw [← hq]; intro z; rw [z] at hb2; simp at hb2) (fun x hx => by have := (hs.mem x hx).2; omega)
    by_cases hm : (i : Int) ∈ l
    · rw [if_pos hm] at e2 e4
      have e2 : bits .and .u64 (q : Int) 1 = 1 := e2
      repeat' (first | refine w1g ?_ | refine w1l ?_ | refine w1q ?_ | refine w1b ?_ | refine w1p ?_ | ((first | refine w1r ?_ | refine w1k ?_ | refine w1e ?_); simp (maxSteps := 400000) (disch := omega) only [push_cast, ↓reduceIte, reduceCtorEq, Nat.reduceAdd, Nat.reduceSub, Nat.reduceEqDiff, Nat.reduceLeDiff, Nat.reduceLT, Nat.reduceBEq, Nat.reduceDiv, Nat.reduceMod, Nat.reducePow, Nat.reduceMul, Int.reduceToNat, Int.reduceLT, Int.reduceLE, e1, e2]) | refine an2 ?_ | fail)
      refine StopC.yld (fun hpc => ⟨trivial, Yl_of_W (k := 3) mixed hR rfl rfl rfl (fun vs2 => ?_)⟩) (fun hpc => absurd (by simp [pc]) hpc)
      (refine sy1 ?_; try exact True.intro)
      repeat' (first | refine w1g ?_ | refine w1l ?_ | refine w1q ?_ | refine w1b ?_ | refine w1p ?_ | ((first | refine w1r ?_ | refine w1k ?_ | refine w1e ?_); (refine sy1 ?_; try exact True.intro)) | refine an2 ?_ | fail)
      refine ⟨_, rfl, ?_⟩
      (refine sy1 ?_; try exact True.intro)
      repeat' (first | refine w1g ?_ | refine w1l ?_ | refine w1q ?_ | refine w1b ?_ | refine w1p ?_ | ((first | refine w1r ?_ | refine w1k ?_ | refine w1e ?_); (refine sy1 ?_; try exact True.intro)) | refine an2 ?_ | fail)
      refine ⟨rfl, trivial, Int, 0, cI, [(i : Int)], rfl, by omega, fun x _ => ⟨rfl, rfl⟩, rfl, ?_⟩
      (refine sy1 ?_; try exact True.intro)
      refine ⟨rfl, ⟨Nat.le_of_ble_eq_true rfl, rfl⟩, trivial, [(i : Int)], rfl, by first | omega | (simp; omega), by first | omega | (simp; omega), ?_⟩
      (refine sy1 ?_; try exact True.intro)
      refine ⟨_, _, rfl, rfl, ?_⟩
      (refine sy1 ?_; try exact True.intro)
      refine W_cond (by rfl) (fun h => by cases h) (fun _ => ?_)
      repeat' (first | refine w1g ?_ | refine w1l ?_ | refine w1q ?_ | refine w1b ?_ | refine w1p ?_ | ((first | refine w1r ?_ | refine w1k ?_ | refine w1e ?_); (refine sy1 ?_; try exact True.intro)) | refine an2 ?_ | fail)
      refine ⟨i + 1, by omega, by omega, by rfl, ?_⟩
      rw [e4, List.length_append]
      (refine syE ?_; try exact True.intro)
    · rw [if_neg hm] at e2 e4
      have e2 : bits .and .u64 (q : Int) 1 = 0 := e2
      have z01 : ((0 : Int) == 1) = false := rfl
      repeat' (first | refine w1g ?_ | refine w1l ?_ | refine w1q ?_ | refine w1b ?_ | refine w1p ?_ | ((first | refine w1r ?_ | refine w1k ?_ | refine w1e ?_); simp (maxSteps := 400000) (disch := omega) only [push_cast, ↓reduceIte, reduceCtorEq, Nat.reduceAdd, Nat.reduceSub, Nat.reduceEqDiff, Nat.reduceLeDiff, Nat.reduceLT, Nat.reduceBEq, Nat.reduceDiv, Nat.reduceMod, Nat.reducePow, Nat.reduceMul, Int.reduceToNat, Int.reduceLT, Int.reduceLE, e1, e2, z01]) | refine an2 ?_ | fail)
      refine StopC.yld (fun hpc => absurd hpc (by simp [pc])) (fun hpc => ?_)
      (refine sy1 ?_; try exact True.intro)
      repeat' (first | refine w1g ?_ | refine w1l ?_ | refine w1q ?_ | refine w1b ?_ | refine w1p ?_ | ((first | refine w1r ?_ | refine w1k ?_ | refine w1e ?_); (refine sy1 ?_; try exact True.intro)) | refine an2 ?_ | fail)
      refine W_cond (by rfl) (fun h => by cases h) (fun _ => ?_)
      repeat' (first | refine w1g ?_ | refine w1l ?_ | refine w1q ?_ | refine w1b ?_ | refine w1p ?_ | ((first | refine w1r ?_ | refine w1k ?_ | refine w1e ?_); (refine sy1 ?_; try exact True.intro)) | refine an2 ?_ | fail)
      refine ⟨i + 1, by omega, by omega, by rfl, ?_⟩
      rw [e4, List.append_nil]
      (refine syE ?_; try exact True.intro)
  · have hq0 : s / 2 ^ i = 0 := by
      rw [← hq]
      have := bne_eq_false_iff_eq.1 hb2
      omega
    have hall := pre_all (bits_end hb (fun x hx => (hs.mem x hx).1) hq0)
    rw [hall]
    repeat' (first | refine w1g ?_ | refine w1l ?_ | refine w1q ?_ | refine w1b ?_ | refine w1p ?_ | ((first | refine w1r ?_ | refine w1k ?_ | refine w1e ?_); (refine sy1 ?_; try exact True.intro)) | refine an2 ?_ | fail)
    refine ⟨_, _, rfl, rfl, ⟨_, _, rfl, by rw [hR.st]; simp, ?_⟩⟩
    rw [hR.pe]
    simp (maxSteps := 400000) (disch := omega) only [push_cast, ↓reduceIte, reduceCtorEq, Nat.reduceAdd, Nat.reduceSub, Nat.reduceEqDiff, Nat.reduceLeDiff, Nat.reduceLT, Nat.reduceBEq, Nat.reduceDiv, Nat.reduceMod, Nat.reducePow, Nat.reduceMul, Int.reduceToNat, Int.reduceLT, Int.reduceLE, EndP]
    repeat' (first | refine w1g ?_ | refine w1l ?_ | refine w1q ?_ | refine w1b ?_ | refine w1p ?_ | ((first | refine w1r ?_ | refine w1k ?_ | refine w1e ?_); (refine sy1 ?_; try exact True.intro)) | refine an2 ?_ | fail)
    refine W_ret ⟨[_], ⟨rfl, rfl⟩, ?_⟩
    simp (maxSteps := 400000) (disch := omega) only [push_cast, ↓reduceIte, reduceCtorEq, Nat.reduceAdd, Nat.reduceSub, Nat.reduceEqDiff, Nat.reduceLeDiff, Nat.reduceLT, Nat.reduceBEq, Nat.reduceDiv, Nat.reduceMod, Nat.reducePow, Nat.reduceMul, Int.reduceToNat, Int.reduceLT, Int.reduceLE, pack]
theorem fn60 (l : List Int) (n : Nat) (hn : n ≤ 10) (hs : Srt n 0 l) : Sy.Fn Try.prog 60 [.clo 118 [] [.fp [uv (msk l)] 0]] (aI l) := by
  refine Fn_of_W mixed Xt60 rfl ?_
  repeat' (first | refine w1g ?_ | refine w1l ?_ | refine w1q ?_ | refine w1b ?_ | refine w1p ?_ | ((first | refine w1r ?_ | refine w1k ?_ | refine w1e ?_ | refine CallC.now (fn117 l n hn hs) ?_); (refine sy1 ?_; try exact True.intro)) | refine an2 ?_ | fail)
  exact W_ret ⟨[_], ⟨rfl, rfl⟩, rfl⟩
def cU (m : Mp) (f : Nat → Int) (s : List Int) (i : Nat) : Int := (edB m (usB m f s) i).c
theorem cU_rng {m : Mp} (h : OkM m) (f : Nat → Int) (s : List Int) {i : Nat} (hi : i < m.rs.length) : (0 ≤ cU m f s i → 1 ≤ cU m f s i) ∧ -1 ≤ cU m f s i ∧ cU m f s i ≤ 1073741824 := by
  have hr := (roadB_ok (h.r i hi)).c
  unfold cU edB
  dsimp only
  split <;> omega
def dL (m : Mp) (f : Nat → Int) (s : List Int) (to : Int) : List Int := dstC m true (cU m f s) to
theorem dL_fn (m : Mp) (f : Nat → Int) (s : List Int) (to : Int) (bk : Bool) (h : OkM m) (hs : Srt m.ws.length 0 s) (ht : 0 ≤ to ∧ to < m.n) : Sy.Fn Try.prog 57 [aAt m f, iv to, bv bk, .clo 116 [] [.fp (cAt m f) 0, .fp [uv (msk s)] 0]] (aI (dstC m bk (cU m f s) to)) :=
  fn57 m f to bk 116 [] _ (cU m f s) h ht (fun i hi => (cU_rng h f s hi).1) (fun i hi => by have := (cU_rng h f s hi).2; omega) (fun i hi => fn116 m f s (msk s) i h (setW_msk hs) hi)
theorem dL_dst {m : Mp} (h : OkM m) (f : Nat → Int) (s : List Int) (bk : Bool) {to : Int} (ht : 0 ≤ to ∧ to < m.n) : Dst (edgC m bk (cU m f s)) to.toNat m.n.toNat (dstC m bk (cU m f s) to) ∧ Fix (edgC m bk (cU m f s)) (dstC m bk (cU m f s) to) := by
  obtain ⟨k1, k2⟩ := edgC_ok h bk (c := cU m f s) (fun i hi => (cU_rng h f s hi).1)
  exact ⟨dst_dst k1 (by omega), dst_fix k1 k2 (by omega)⟩
theorem dL_rng {m : Mp} (h : OkM m) (f : Nat → Int) (s : List Int) (bk : Bool) {to : Int} (ht : 0 ≤ to ∧ to < m.n) {y : Nat} (hy : y < m.n.toNat) : 0 ≤ gi (dstC m bk (cU m f s) to) y ∧ gi (dstC m bk (cU m f s) to) y ≤ 1125899906842624 := (dL_dst h f s bk ht).1.le hy
theorem dL_len {m : Mp} (h : OkM m) (f : Nat → Int) (s : List Int) (bk : Bool) {to : Int} (ht : 0 ≤ to ∧ to < m.n) : (dstC m bk (cU m f s) to).length = m.n.toNat := (dL_dst h f s bk ht).1.len
def cfS (m : Mp) (f : Nat → Int) (fr to : Int) (s : List Int) : Int := gi (dL m f s to) fr.toNat + costL m s
def okS (m : Mp) (f : Nat → Int) (fr to : Int) (s : List Int) : Bool := decide (gi (dL m f s to) fr.toNat < 1125899906842624)
theorem costL_set {m : Mp} (h : OkM m) {s : List Int} (hs : Srt m.ws.length 0 s) : 0 ≤ costL m s ∧ costL m s ≤ 10737418240 := by
  have h1 := costL_rng h (l := s) (fun x hx => hs.mem x hx)
  have h2 := hs.len (by omega)
  have := h.nw
  have h3 : (s.length : Int) * 1073741824 ≤ 10 * 1073741824 := by omega
  omega
theorem fn56 (m : Mp) (f : Nat → Int) (fr to : Int) (s : List Int) (h : OkM m) (hs : Srt m.ws.length 0 s) (ht : 0 ≤ to ∧ to < m.n) (hf : 0 ≤ fr ∧ fr < m.n) : Sy.Fn Try.prog 56 [uv (msk s), .fp (cAt m f) 0, .fp [iv to] 0, .fp [iv fr] 0] (.tup [iv (cfS m f fr to s), bv (okS m f fr to s)]) := by
  refine Fn_of_W mixed Xt56 rfl ?_
  have c57 := dL_fn m f s to true h hs ht
  have c59 := fn59 m f s (msk s) h (setW_msk hs)
  have hr := dL_rng h f s true ht (y := fr.toNat) (by omega)
  have hl := dL_len h f s true ht
  have hc := costL_set h hs
  unfold cfS okS
  have e : dL m f s to = dstC m true (cU m f s) to := rfl
  rw [e]
  generalize dstC m true (cU m f s) to = D at *
  have gI : ∀ (l : List Int) i, l.getD i 0 = gi l i := fun _ _ => rfl
  repeat' (first | refine w1g ?_ | refine w1l ?_ | refine w1q ?_ | refine w1b ?_ | refine w1p ?_ | ((first | refine w1r ?_ | refine w1k ?_ | refine w1e ?_ | refine CallC.now (fn58 m f (msk s)) ?_ | refine CallC.now (c57) ?_ | refine CallC.now (c59) ?_); simp (maxSteps := 400000) (disch := omega) only [push_cast, ↓reduceIte, reduceCtorEq, Nat.reduceAdd, Nat.reduceSub, Nat.reduceEqDiff, Nat.reduceLeDiff, Nat.reduceLT, Nat.reduceBEq, Nat.reduceDiv, Nat.reduceMod, Nat.reducePow, Nat.reduceMul, Int.reduceToNat, Int.reduceLT, Int.reduceLE, gI]) | refine an2 ?_ | fail)
  exact W_ret ⟨[_, _], ⟨rfl, rfl, rfl⟩, rfl⟩
end Go.Proofs.Ytfbdlmenhoagmaa

namespace Go.Proofs.Ytfbdlmenhoagmaa
open Go Sy
set_option linter.unusedVariables false
def fstN (p : Nat → Bool) : Nat → Nat → Nat
  | 0, i => i
  | k + 1, i => if p i = true then i else fstN p k (i + 1)
theorem fst_eq {p : Nat → Bool} : ∀ (k i j : Nat), i ≤ j → j < i + k → p j = true → (∀ x, i ≤ x → x < j → p x = false) → fstN p k i = j
  | 0, i, j, h1, h2, _, _ => by omega
  | k + 1, i, j, h1, h2, h3, h4 => by
    simp only [fstN]
    by_cases q : p i = true
    · rw [if_pos q]
      apply Classical.byContradiction
      intro z
      rw [h4 i (Nat.le_refl _) (by omega)] at q
      cases q
    · rw [if_neg q]
      have : i ≠ j := fun e => q (e ▸ h3)
      exact fst_eq k (i + 1) j (by omega) (by omega) h3 (fun x hx hy => h4 x (by omega) hy)
theorem fst_ex {p : Nat → Bool} : ∀ (k i j : Nat), i ≤ j → j < i + k → p j = true → ∃ d, i ≤ d ∧ d < i + k ∧ p d = true ∧ (∀ x, i ≤ x → x < d → p x = false)
  | 0, i, j, h1, h2, _ => by omega
  | k + 1, i, j, h1, h2, h3 => by
    by_cases q : p i = true
    · exact ⟨i, Nat.le_refl _, by omega, q, fun x hx hy => by omega⟩
    · have : i ≠ j := fun e => q (e ▸ h3)
      obtain ⟨d, h4, h5, h6, h7⟩ := fst_ex k (i + 1) j (by omega) (by omega) h3
      refine ⟨d, by omega, by omega, h6, fun x hx hy => ?_⟩
      by_cases e : x = i
      · rw [e]; simpa using q
      · exact h7 x (by omega) hy
def pB (left : List Int) (a : Int) (r : Rd) : Bool := r.f == a && gi left a.toNat == r.c + gi left r.t.toNat
def hitB (m : Mp) (f : Nat → Int) (s left : List Int) (a : Int) (i : Nat) : Bool := usB m f s i && pB left a (gr m i)
def nxt (m : Mp) (f : Nat → Int) (s left : List Int) (a : Int) : Nat := fstN (hitB m f s left a) m.rs.length 0
def wayC (m : Mp) (f : Nat → Int) (s left : List Int) (to : Int) : Nat → Int → List Int
  | 0, _ => []
  | k + 1, a => if a = to then [] else (nxt m f s left a : Int) :: wayC m f s left to k (gr m (nxt m f s left a)).t
def minL (m : Mp) (l : List Int) : Int := l.foldl (fun n x => n + (gr m x.toNat).m) 0
theorem minL_snoc (m : Mp) (l : List Int) (x : Int) : minL m (l ++ [x]) = minL m l + (gr m x.toNat).m := by
  unfold minL; rw [List.foldl_append]; rfl
structure AtW (m : Mp) (f : Nat → Int) (s left : List Int) (to a : Int) : Prop where
  r : 0 ≤ a ∧ a < m.n
  l : 0 ≤ gi left a.toNat ∧ gi left a.toNat < 1125899906842624
theorem hit_ex {m : Mp} {f : Nat → Int} {s : List Int} {to a : Int} (h : OkM m) (ht : 0 ≤ to ∧ to < m.n) (ha : AtW m f s (dL m f s to) to a) (hne : a ≠ to) : ∃ i, i < m.rs.length ∧ hitB m f s (dL m f s to) a i = true := by
  obtain ⟨h1, h2⟩ := dL_dst h f s true ht
  obtain ⟨k1, k2⟩ := edgC_ok h true (c := cU m f s) (fun i hi => (cU_rng h f s hi).1)
  have hl := ha.l
  have hr := ha.r
  rcases last_road k1 h1 h2 (y := a.toNat) (by omega) hl.2 with q | ⟨e, he, h3, h4, h5⟩
  · omega
  · obtain ⟨i, hi, rfl⟩ := List.mem_map.1 he
    have hi := List.mem_range.1 hi
    have ok := roadB_ok (h.r i hi)
    refine ⟨i, hi, ?_⟩
    have e1 : (edC m true (cU m f s) i).y = (gr m i).f.toNat := rfl
    have e2 : (edC m true (cU m f s) i).x = (gr m i).t.toNat := rfl
    have e3 : (edC m true (cU m f s) i).c = cU m f s i := rfl
    rw [e1] at h3
    rw [e2, e3] at h5
    rw [e3] at h4
    have hu : usB m f s i = true := by
      apply Classical.byContradiction
      intro z
      have : cU m f s i = -1 := by unfold cU edB; simp [z]
      omega
    have hc : cU m f s i = (gr m i).c := by unfold cU edB; simp [hu]
    have hf := ok.f
    unfold hitB pB
    rw [hu, Bool.true_and, Bool.and_eq_true, beq_iff_eq, beq_iff_eq]
    refine ⟨by omega, ?_⟩
    rw [hc] at h5
    show gi (dstC m true (cU m f s) to) a.toNat = _ + gi (dstC m true (cU m f s) to) _
    omega
theorem hit_step {m : Mp} {f : Nat → Int} {s : List Int} {to a : Int} (h : OkM m) (ht : 0 ≤ to ∧ to < m.n) (ha : AtW m f s (dL m f s to) to a) {i : Nat} (hi : i < m.rs.length) (hh : hitB m f s (dL m f s to) a i = true) :
    usB m f s i = true ∧ (gr m i).f = a ∧ gi (dL m f s to) a.toNat = (gr m i).c + gi (dL m f s to) (gr m i).t.toNat ∧ AtW m f s (dL m f s to) to (gr m i).t ∧ rk (dL m f s to) m.n.toNat (gr m i).t.toNat < rk (dL m f s to) m.n.toNat a.toNat := by
  have ok := roadB_ok (h.r i hi)
  unfold hitB pB at hh
  rw [Bool.and_eq_true, Bool.and_eq_true, beq_iff_eq, beq_iff_eq] at hh
  obtain ⟨h1, h2, h3⟩ := hh
  have hl := ha.l
  have hc := ok.c
  have htr := ok.t
  have hb := dL_rng h f s true ht (y := (gr m i).t.toNat) (by omega)
  have hb : 0 ≤ gi (dL m f s to) (gr m i).t.toNat ∧ gi (dL m f s to) (gr m i).t.toNat ≤ 1125899906842624 := hb
  refine ⟨h1, h2, h3, ⟨htr, by omega⟩, rk_lt (by omega) (by omega)⟩
theorem nxt_spec {m : Mp} {f : Nat → Int} {s : List Int} {to a : Int} (h : OkM m) (ht : 0 ≤ to ∧ to < m.n) (ha : AtW m f s (dL m f s to) to a) (hne : a ≠ to) :
    nxt m f s (dL m f s to) a < m.rs.length ∧ hitB m f s (dL m f s to) a (nxt m f s (dL m f s to) a) = true ∧ ∀ j, j < nxt m f s (dL m f s to) a → hitB m f s (dL m f s to) a j = false := by
  obtain ⟨i, hi, hh⟩ := hit_ex h ht ha hne
  obtain ⟨d, h1, h2, h3, h4⟩ := fst_ex m.rs.length 0 i (by omega) (by omega) hh
  have e : nxt m f s (dL m f s to) a = d := fst_eq m.rs.length 0 d (by omega) (by omega) h3 h4
  rw [e]
  exact ⟨by omega, h3, fun j hj => h4 j (by omega) hj⟩
def bestS (m : Mp) (f : Nat → Int) (fr to : Int) : Option (List Int × Int) := leastL (cfS m f fr to) (okS m f fr to) (setsM m.ws.length)
def wayS (m : Mp) (f : Nat → Int) (fr to : Int) (s : List Int) : List Int := wayC m f s (dL m f s to) to m.n.toNat fr
def bE : Option (List Int × Int) → Int
  | none => 15
  | some _ => 0
def chV (m : Mp) (f : Nat → Int) (fr to : Int) : Option (List Int × Int) := if opE m f = 0 then (if plB m.n fr = true ∧ plB m.n to = true then bestS m f fr to else none) else none
def chE (m : Mp) (f : Nat → Int) (fr to : Int) : Int := if opE m f = 0 then (if plB m.n fr = true ∧ plB m.n to = true then bE (bestS m f fr to) else 3) else opE m f
theorem leastL_mem {g : List Int → Int} {ok : List Int → Bool} : ∀ (l : List (List Int)) (b : Option (List Int × Int)) {s : List Int} {n : Int}, l.foldl (lstep g ok) b = some (s, n) → b = some (s, n) ∨ (s ∈ l ∧ ok s = true ∧ n = g s)
  | [], b, s, n, h => .inl h
  | x :: l, b, s, n, h => by
    rcases leastL_mem l (lstep g ok b x) h with q | ⟨q1, q2, q3⟩
    · unfold lstep at q
      by_cases c : ok x = true
      · rw [if_pos c] at q
        rcases b with _ | ⟨y, k⟩
        · cases q; exact .inr ⟨List.mem_cons_self, c, rfl⟩
        · dsimp only at q
          split at q
          · cases q; exact .inr ⟨List.mem_cons_self, c, rfl⟩
          · exact .inl q
      · rw [if_neg c] at q
        exact .inl q
    · exact .inr ⟨List.mem_cons_of_mem _ q1, q2, q3⟩
theorem best_some {m : Mp} {f : Nat → Int} {fr to : Int} {s : List Int} {n : Int} (h : bestS m f fr to = some (s, n)) : s ∈ setsM m.ws.length ∧ Srt m.ws.length 0 s ∧ okS m f fr to s = true ∧ n = cfS m f fr to s := by
  rcases leastL_mem _ _ h with q | ⟨q1, q2, q3⟩
  · cases q
  · exact ⟨q1, sets_srt s q1, q2, q3⟩
end Go.Proofs.Ytfbdlmenhoagmaa

namespace Go.Proofs.Ytfbdlmenhoagmaa
open Go Sy
set_option maxRecDepth 100000
set_option maxHeartbeats 4000000
set_option linter.unusedVariables false
set_option linter.unusedSimpArgs false
theorem fn63 (left : List Int) (a : Int) (r : Rd) (ha : 0 ≤ a ∧ a < left.length) (ht : 0 ≤ r.t ∧ r.t < left.length) (hc : 1 ≤ r.c ∧ r.c ≤ 1073741824) (hl : 0 ≤ gi left r.t.toNat ∧ gi left r.t.toNat ≤ 1125899906842624) : Sy.Fn Try.prog 63 [.agg (cR r), .fp [iv a] 0, .fp [aI left] 0] (bv (pB left a r)) := by
  refine Fn_of_W mixed Xt63 rfl ?_
  have gI : ∀ (l : List Int) i, l.getD i 0 = gi l i := fun _ _ => rfl
  unfold pB
  cases hb : r.f == a
  · repeat' (first | refine w1g ?_ | refine w1l ?_ | refine w1q ?_ | refine w1b ?_ | refine w1p ?_ | ((first | refine w1r ?_ | refine w1k ?_ | refine w1e ?_); simp (maxSteps := 400000) (disch := omega) only [push_cast, ↓reduceIte, reduceCtorEq, Nat.reduceAdd, Nat.reduceSub, Nat.reduceEqDiff, Nat.reduceLeDiff, Nat.reduceLT, Nat.reduceBEq, Nat.reduceDiv, Nat.reduceMod, Nat.reducePow, Nat.reduceMul, Int.reduceToNat, Int.reduceLT, Int.reduceLE, gI, hb]) | refine an2 ?_ | fail)
    exact W_ret ⟨[_], ⟨rfl, rfl⟩, rfl⟩
  · repeat' (first | refine w1g ?_ | refine w1l ?_ | refine w1q ?_ | refine w1b ?_ | refine w1p ?_ | ((first | refine w1r ?_ | refine w1k ?_ | refine w1e ?_); simp (maxSteps := 400000) (disch := omega) only [push_cast, ↓reduceIte, reduceCtorEq, Nat.reduceAdd, Nat.reduceSub, Nat.reduceEqDiff, Nat.reduceLeDiff, Nat.reduceLT, Nat.reduceBEq, Nat.reduceDiv, Nat.reduceMod, Nat.reducePow, Nat.reduceMul, Int.reduceToNat, Int.reduceLT, Int.reduceLE, gI, hb]) | refine an2 ?_ | fail)
    exact W_ret ⟨[_], ⟨rfl, rfl⟩, rfl⟩
theorem fn65 (left : List Int) (a : Int) (r : Rd) (ha : 0 ≤ a ∧ a < left.length) (ht : 0 ≤ r.t ∧ r.t < left.length) (hc : 1 ≤ r.c ∧ r.c ≤ 1073741824) (hl : 0 ≤ gi left r.t.toNat ∧ gi left r.t.toNat ≤ 1125899906842624) : Sy.Fn Try.prog 65 [.agg (cR r), .fp [iv a] 0, .fp [aI left] 0] (bv (pB left a r)) := by
  refine Fn_of_W mixed Xt65 rfl ?_
  have gI : ∀ (l : List Int) i, l.getD i 0 = gi l i := fun _ _ => rfl
  unfold pB
  cases hb : r.f == a
  · repeat' (first | refine w1g ?_ | refine w1l ?_ | refine w1q ?_ | refine w1b ?_ | refine w1p ?_ | ((first | refine w1r ?_ | refine w1k ?_ | refine w1e ?_); simp (maxSteps := 400000) (disch := omega) only [push_cast, ↓reduceIte, reduceCtorEq, Nat.reduceAdd, Nat.reduceSub, Nat.reduceEqDiff, Nat.reduceLeDiff, Nat.reduceLT, Nat.reduceBEq, Nat.reduceDiv, Nat.reduceMod, Nat.reducePow, Nat.reduceMul, Int.reduceToNat, Int.reduceLT, Int.reduceLE, gI, hb]) | refine an2 ?_ | fail)
    exact W_ret ⟨[_], ⟨rfl, rfl⟩, rfl⟩
  · repeat' (first | refine w1g ?_ | refine w1l ?_ | refine w1q ?_ | refine w1b ?_ | refine w1p ?_ | ((first | refine w1r ?_ | refine w1k ?_ | refine w1e ?_); simp (maxSteps := 400000) (disch := omega) only [push_cast, ↓reduceIte, reduceCtorEq, Nat.reduceAdd, Nat.reduceSub, Nat.reduceEqDiff, Nat.reduceLeDiff, Nat.reduceLT, Nat.reduceBEq, Nat.reduceDiv, Nat.reduceMod, Nat.reducePow, Nat.reduceMul, Int.reduceToNat, Int.reduceLT, Int.reduceLE, gI, hb]) | refine an2 ?_ | fail)
    exact W_ret ⟨[_], ⟨rfl, rfl⟩, rfl⟩
def cRt (rs ws : List Int) (c mi : Int) : List AV := [aI rs, aI ws, iv c, iv mi]
def zRt : List AV := [.v (.slice none 0 0), .v (.slice none 0 0), iv 0, iv 0]
def rtC (m : Mp) (f : Nat → Int) (fr to : Int) : Option (List Int × Int) → List AV
  | none => zRt
  | some p => cRt (wayS m f fr to p.1) p.1 p.2 (minL m (wayS m f fr to p.1))
theorem fn15 (m : Mp) (f : Nat → Int) (fr to : Int) (hm : Gm m) : Sy.Fn Try.prog 15 [aM m, .agg (c6 f), iv fr, iv to] (.tup [.agg (rtC m f fr to (chV m f fr to)), iv (chE m f fr to)]) := by
  refine Fn_of_W mixed Xt15 rfl ?_
  have c52 := fn52 m f hm
  by_cases h0 : opE m f = 0
  rotate_left
  · have e1 : chV m f fr to = none := by unfold chV; rw [if_neg h0]
    have e2 : chE m f fr to = opE m f := by unfold chE; rw [if_neg h0]
    rw [e1, e2]
    have hv : opV m f = cAt m f ∨ opV m f = zAt := by
      unfold opV
      split
      · exact .inl rfl
      · exact .inr rfl
    generalize opE m f = e at *
    rcases hv with hv | hv
    all_goals
      rw [hv] at c52
      try unfold zAt at c52
      repeat' (first | refine w1g ?_ | refine w1l ?_ | refine w1q ?_ | refine w1b ?_ | refine w1p ?_ | ((first | refine w1r ?_ | refine w1k ?_ | refine w1e ?_ | refine CallC.now (c52) ?_); (refine sy1 ?_; try exact True.intro)) | refine an2 ?_ | fail)
      refine W_cond (by rfl) (fun h => ?_) (fun h => ?_)
      · repeat' (first | refine w1g ?_ | refine w1l ?_ | refine w1q ?_ | refine w1b ?_ | refine w1p ?_ | ((first | refine w1r ?_ | refine w1k ?_ | refine w1e ?_); (refine sy1 ?_; try exact True.intro)) | refine an2 ?_ | fail)
        exact W_ret ⟨[_, _], ⟨⟨by simp, rfl⟩, rfl, rfl⟩, rfl⟩
      · exact absurd (by simpa using h) h0
  have hchk : chkM m = 0 ∧ szE f = 0 := by
    unfold opE at h0
    by_cases q : chkM m = 0
    · rw [if_pos q] at h0; exact ⟨q, h0⟩
    · rw [if_neg q] at h0; exact absurd h0 q
  have hv : opV m f = cAt m f := by unfold opV; rw [if_pos hchk.1]
  have hok := chkM_ok hchk.1
  rw [hv, h0] at c52
  have c53 := fn53 m [fr, to] (by simp)
  have hpl : plsB m [fr, to] = (plB m.n fr && plB m.n to) := by simp [plsB]
  rw [hpl] at c53
  by_cases hp : plB m.n fr = true ∧ plB m.n to = true
  rotate_left
  · have e1 : chV m f fr to = none := by unfold chV; rw [if_pos h0, if_neg hp]
    have e2 : chE m f fr to = 3 := by unfold chE; rw [if_pos h0, if_neg hp]
    have e3 : (plB m.n fr && plB m.n to) = false := by rw [← Bool.not_eq_true, Bool.and_eq_true]; exact hp
    rw [e3] at c53
    rw [e1, e2]
    repeat' (first | refine w1g ?_ | refine w1l ?_ | refine w1q ?_ | refine w1b ?_ | refine w1p ?_ | ((first | refine w1r ?_ | refine w1k ?_ | refine w1e ?_ | refine CallC.now (c52) ?_); (refine sy1 ?_; try exact True.intro)) | refine an2 ?_ | fail)
    refine W_cond (by rfl) (fun h => by cases h) (fun h => ?_)
    repeat' (first | refine w1g ?_ | refine w1l ?_ | refine w1q ?_ | refine w1b ?_ | refine w1p ?_ | ((first | refine w1r ?_ | refine w1k ?_ | refine w1e ?_ | refine CallC.now (c53) ?_); (refine sy1 ?_; try exact True.intro)) | refine an2 ?_ | fail)
    refine ⟨rfl, trivial, Int, 0, cI, [fr, to], rfl, by omega, fun x _ => ⟨rfl, rfl⟩, rfl, ?_⟩
    (refine sy1 ?_; try exact True.intro)
    repeat' (first | refine w1g ?_ | refine w1l ?_ | refine w1q ?_ | refine w1b ?_ | refine w1p ?_ | ((first | refine w1r ?_ | refine w1k ?_ | refine w1e ?_ | refine CallC.go _ (fun _ => ⟨trivial, c53⟩) rfl ?_); (refine sy1 ?_; try exact True.intro)) | refine an2 ?_ | fail)
    refine W_cond (by rfl) (fun h => ?_) (fun h => by cases h)
    repeat' (first | refine w1g ?_ | refine w1l ?_ | refine w1q ?_ | refine w1b ?_ | refine w1p ?_ | ((first | refine w1r ?_ | refine w1k ?_ | refine w1e ?_); (refine sy1 ?_; try exact True.intro)) | refine an2 ?_ | fail)
    exact W_ret ⟨[_, _], ⟨⟨by simp, rfl⟩, rfl, rfl⟩, rfl⟩
  have hp1 : (0 ≤ fr ∧ fr < m.n) ∧ (0 ≤ to ∧ to < m.n) := by
    have := hp.1; have := hp.2
    unfold plB at *
    simp only [Bool.and_eq_true, decide_eq_true_eq] at *
    omega
  have e3 : (plB m.n fr && plB m.n to) = true := by rw [hp.1, hp.2]; rfl
  rw [e3] at c53
  have c54 := fn54 m.ws.length hok.nw 56 [] [.fp (cAt m f) 0, .fp [iv to] 0, .fp [iv fr] 0] (cfS m f fr to) (okS m f fr to) (fun x hx => by
    have h1 := costL_set hok hx
    have h2 := dL_rng hok f x true hp1.2 (y := fr.toNat) (by omega)
    have h2 : 0 ≤ gi (dL m f x to) fr.toNat ∧ gi (dL m f x to) fr.toNat ≤ 1125899906842624 := h2
    unfold cfS
    omega) (fun x hx => fn56 m f fr to x hok hx hp1.2 hp1.1)
  have e1 : chV m f fr to = bestS m f fr to := by unfold chV; rw [if_pos h0, if_pos hp]
  have e2 : chE m f fr to = bE (bestS m f fr to) := by unfold chE; rw [if_pos h0, if_pos hp]
  rw [e1, e2]
  have hbs : leastL (cfS m f fr to) (okS m f fr to) (setsM m.ws.length) = bestS m f fr to := rfl
  rw [hbs] at c54
  repeat' (first | refine w1g ?_ | refine w1l ?_ | refine w1q ?_ | refine w1b ?_ | refine w1p ?_ | ((first | refine w1r ?_ | refine w1k ?_ | refine w1e ?_ | refine CallC.now (c52) ?_); (refine sy1 ?_; try exact True.intro)) | refine an2 ?_ | fail)
  refine W_cond (by rfl) (fun h => by cases h) (fun h => ?_)
  repeat' (first | refine w1g ?_ | refine w1l ?_ | refine w1q ?_ | refine w1b ?_ | refine w1p ?_ | ((first | refine w1r ?_ | refine w1k ?_ | refine w1e ?_ | refine CallC.now (c53) ?_); (refine sy1 ?_; try exact True.intro)) | refine an2 ?_ | fail)
  refine ⟨rfl, trivial, Int, 0, cI, [fr, to], rfl, by omega, fun x _ => ⟨rfl, rfl⟩, rfl, ?_⟩
  (refine sy1 ?_; try exact True.intro)
  repeat' (first | refine w1g ?_ | refine w1l ?_ | refine w1q ?_ | refine w1b ?_ | refine w1p ?_ | ((first | refine w1r ?_ | refine w1k ?_ | refine w1e ?_ | refine CallC.go _ (fun _ => ⟨trivial, c53⟩) rfl ?_); (refine sy1 ?_; try exact True.intro)) | refine an2 ?_ | fail)
  refine W_cond (by rfl) (fun h => by cases h) (fun h => ?_)
  repeat' (first | refine w1g ?_ | refine w1l ?_ | refine w1q ?_ | refine w1b ?_ | refine w1p ?_ | ((first | refine w1r ?_ | refine w1k ?_ | refine w1e ?_ | refine CallC.now (fn55 _) ?_ | refine CallC.go _ (fun _ => ⟨trivial, c54⟩) rfl ?_); (refine sy1 ?_; try exact True.intro)) | refine an2 ?_ | fail)
  rcases hb : bestS m f fr to with _ | ⟨s, n⟩
  · refine W_cond (by rfl) (fun h => ?_) (fun h => by cases h)
    repeat' (first | refine w1g ?_ | refine w1l ?_ | refine w1q ?_ | refine w1b ?_ | refine w1p ?_ | ((first | refine w1r ?_ | refine w1k ?_ | refine w1e ?_); (refine sy1 ?_; try exact True.intro)) | refine an2 ?_ | fail)
    exact W_ret ⟨[_, _], ⟨⟨by simp, rfl⟩, rfl, rfl⟩, rfl⟩
  obtain ⟨b1, b2, b3, b4⟩ := best_some hb
  have c60 := fn60 s m.ws.length hok.nw b2
  have c57 := dL_fn m f s to true hok b2 hp1.2
  have hl := dL_len hok f s true hp1.2
  have hlr : ∀ y, y < m.n.toNat → 0 ≤ gi (dstC m true (cU m f s) to) y ∧ gi (dstC m true (cU m f s) to) y ≤ 1125899906842624 := fun y hy => dL_rng hok f s true hp1.2 hy
  have hd : dL m f s to = dstC m true (cU m f s) to := rfl
  rw [← hd] at c57 hl hlr
  have hA0 : AtW m f s (dL m f s to) to fr := ⟨hp1.1, (by have := hlr fr.toNat (by omega); omega), (by unfold okS at b3; rw [decide_eq_true_eq] at b3; exact b3)⟩
  refine W_cond (by rfl) (fun h => by cases h) (fun h => ?_)
  repeat' (first | refine w1g ?_ | refine w1l ?_ | refine w1q ?_ | refine w1b ?_ | refine w1p ?_ | ((first | refine w1r ?_ | refine w1k ?_ | refine w1e ?_ | refine CallC.now (fn61 _) ?_ | refine CallC.now (c60) ?_); (refine sy1 ?_; try exact True.intro)) | refine an2 ?_ | fail)
  repeat' (first | refine w1g ?_ | refine w1l ?_ | refine w1q ?_ | refine w1b ?_ | refine w1p ?_ | ((first | refine w1r ?_ | refine w1k ?_ | refine w1e ?_ | refine CallC.now (fn58 m f (msk s)) ?_ | refine CallC.now (c57) ?_); (refine sy1 ?_; try exact True.intro)) | refine an2 ?_ | fail)
  have hN := hok.n
  obtain ⟨left, hleft⟩ : ∃ left, left = dL m f s to := ⟨_, rfl⟩
  have hbC : bC (some (s, n)) = n := rfl
  have hbS : bS (some (s, n)) = msk s := rfl
  have hres : rtC m f fr to (some (s, n)) = cRt (wayS m f fr to s) s n (minL m (wayS m f fr to s)) := rfl
  have hway : wayS m f fr to s = wayC m f s left to m.n.toNat fr := by rw [hleft]; rfl
  have hres2 : bE (some (s, n)) = 0 := rfl
  rw [hres, hres2, hway]
  rw [hbC, hbS]
  rw [← hleft] at hl hlr hA0 ⊢
  refine W_le (le_adoptC 45 0 3 1 (0 : Int) cI (by omega) _ rfl rfl (by simp)) ?_
  (refine sy1 ?_; try exact True.intro)
  refine W_loopU (fun u : Nat × Int × List Int => []) (fun u => [(2, .cells [iv u.2.1]), (45, .cells [.row 55 u.2.2.length, aI s, iv n, iv (minL m u.2.2)]), (55, .row u.2.2.length 3 1 0 cI u.2.2)]) (fun u => AtW m f s left to u.2.1 ∧ rk left m.n.toNat u.2.1.toNat ≤ u.1 ∧ u.2.2 ++ wayC m f s left to u.1 u.2.1 = wayC m f s left to m.n.toNat fr ∧ u.2.2.length + u.1 ≤ 64 ∧ 0 ≤ minL m u.2.2 ∧ minL m u.2.2 ≤ 1440 * u.2.2.length) (fun u => u.1) (m.n.toNat, fr, []) ⟨hA0, rk_le _ _ _, List.nil_append _, by simp; omega, by simp [minL], by simp [minL]⟩ (by rfl) (by rfl) (fun u hu => ?_)
  obtain ⟨k, a, acc⟩ := u
  obtain ⟨q1, q2, q3, q4, q5, q6⟩ := hu
  dsimp only at q1 q2 q3 q4 q5 q6 ⊢
  (refine sy1 ?_; try exact True.intro)
  repeat' (first | refine w1g ?_ | refine w1l ?_ | refine w1q ?_ | refine w1b ?_ | refine w1p ?_ | ((first | refine w1r ?_ | refine w1k ?_ | refine w1e ?_); (refine sy1 ?_; try exact True.intro)) | refine an2 ?_ | fail)
  refine W_cond (by rfl) (fun hb => ?_) (fun hb => ?_)
  · have hne : a ≠ to := by rw [bne_iff_ne] at hb; exact hb
    rw [hleft] at q1 q2
    obtain ⟨x1, x2, x3⟩ := nxt_spec hok hp1.2 q1 hne
    obtain ⟨y1, y2, y3, y4, y5⟩ := hit_step hok hp1.2 q1 x1 x2
    rw [← hleft] at q1 q2 x1 x2 x3 y1 y2 y3 y4 y5
    have ha := q1.r
    have hcl : ∀ r ∈ m.rs, Sy.Fn Try.prog 63 ([] ++ [.agg (cR r)] ++ [.fp [iv a] 0, .fp [aI left] 0]) (bv (pB left a r)) := fun r hr => by
      obtain ⟨i, hi, rfl⟩ := List.mem_iff_getElem.1 hr
      have hri := roadB_ok (hok.r i hi)
      have e : gr m i = m.rs[i] := by simp [gr, List.getD, hi]
      rw [e] at hri
      have := hri.t
      exact fn63 left a _ (by rw [hl]; omega) (by rw [hl]; omega) hri.c (hlr _ (by omega))
    have hnr := hok.nr
    have c62 := fn62 m.rs (by omega) 63 [] [.fp [iv a] 0, .fp [aI left] 0] (pB left a) hcl
    obtain ⟨x, hx⟩ : ∃ x, x = nxt m f s left a := ⟨_, rfl⟩
    rw [← hx] at x1 x2 x3 y1 y2 y3 y4 y5
    have hpx : pB left a (gr m x) = true := by unfold hitB at x2; rw [Bool.and_eq_true] at x2; exact x2.2
    obtain ⟨i0, z1, z2, z3, z4⟩ := fst_ex (p := fun i => pB left a (gr m i)) m.rs.length 0 x (by omega) (by omega) hpx
    have hi0 : idxF (pB left a) m.rs 0 = (i0 : Int) := by
      rw [idxF_at (pB left a) dR m.rs i0 0 (by omega) (fun j hj => z4 j (by omega) hj) z3]; omega
    rw [hi0] at c62
    have hno : ∀ j, pB left a (gr m j) = false → hitB m f s left a j = false := fun j hj => by unfold hitB; rw [hj, Bool.and_false]
    repeat' (first | refine w1g ?_ | refine w1l ?_ | refine w1q ?_ | refine w1b ?_ | refine w1p ?_ | ((first | refine w1r ?_ | refine w1k ?_ | refine w1e ?_ | refine CallC.go _ (fun _ => ⟨trivial, c62⟩) rfl ?_); (refine sy1 ?_; try exact True.intro)) | refine an2 ?_ | fail)
    refine W_loopU (fun i : Nat => [(18, iv i)]) (fun i => []) (fun i => i < m.rs.length ∧ pB left a (gr m i) = true ∧ ∀ j, j < i → hitB m f s left a j = false) (fun i => m.rs.length - i) i0 ⟨by omega, z3, fun j hj => hno j (z4 j (by omega) hj)⟩ (by rfl) (by rfl) (fun i hi => ?_)
    obtain ⟨w1, w2, w3⟩ := hi
    have c64 := fn64 m f s (msk s) i hok (setW_msk b2) w1
    (refine sy1 ?_; try exact True.intro)
    repeat' (first | refine w1g ?_ | refine w1l ?_ | refine w1q ?_ | refine w1b ?_ | refine w1p ?_ | ((first | refine w1r ?_ | refine w1k ?_ | refine w1e ?_ | refine CallC.go _ (fun _ => ⟨trivial, c64⟩) rfl ?_); (refine sy1 ?_; try exact True.intro)) | refine an2 ?_ | fail)
    refine W_cond (by rfl) (fun hu => ?_) (fun hu => ?_)
    · have hu : usB m f s i = false := by simpa using hu
      have hix : i < x := by
        rcases Nat.lt_trichotomy i x with q | q | q
        · exact q
        · rw [← q, hu] at y1; cases y1
        · rw [w3 x q] at x2; cases x2
      obtain ⟨i1, v1, v2, v3, v4⟩ := fst_ex (p := fun i => pB left a (gr m i)) (m.rs.length - (i + 1)) (i + 1) x (by omega) (by omega) hpx
      have hgd : ∀ j, (m.rs.drop (i + 1)).getD j dR = gr m (i + 1 + j) := fun j => by simp [gr, List.getD]
      have c62 := fn62 (m.rs.drop (i + 1)) (by rw [List.length_drop]; omega) 65 [] [.fp [iv a] 0, .fp [aI left] 0] (pB left a) (fun r hr => by
        have hr := List.mem_of_mem_drop hr
        obtain ⟨i, hi, rfl⟩ := List.mem_iff_getElem.1 hr
        have hri := roadB_ok (hok.r i hi)
        have e : gr m i = m.rs[i] := by simp [gr, List.getD, hi]
        rw [e] at hri
        have := hri.t
        exact fn65 left a _ (by rw [hl]; omega) (by rw [hl]; omega) hri.c (hlr _ (by omega)))
      have hi1 : idxF (pB left a) (m.rs.drop (i + 1)) 0 = ((i1 - (i + 1) : Nat) : Int) := by
        rw [idxF_at (pB left a) dR (m.rs.drop (i + 1)) (i1 - (i + 1)) 0 (by rw [List.length_drop]; omega) (fun j hj => by rw [hgd]; exact v4 (i + 1 + j) (by omega) (by omega)) (by rw [hgd, show i + 1 + (i1 - (i + 1)) = i1 by omega]; exact v3)]; omega
      rw [hi1] at c62
      repeat' (first | refine w1g ?_ | refine w1l ?_ | refine w1q ?_ | refine w1b ?_ | refine w1p ?_ | ((first | refine w1r ?_ | refine w1k ?_ | refine w1e ?_ | refine CallC.go _ (fun _ => ⟨trivial, c62⟩) rfl ?_); (refine sy1 ?_; try exact True.intro)) | refine an2 ?_ | fail)
      refine ⟨i1, ⟨by omega, v3, fun j hj => ?_⟩, by omega, by rfl, ?_⟩
      · rcases Nat.lt_trichotomy j i with q | q | q
        · exact w3 j q
        · rw [q]; unfold hitB; rw [hu]; rfl
        · exact hno j (v4 j (by omega) hj)
      · have e : (i : Int) + (1 + ((i1 : Int) - ((i : Int) + 1))) = i1 := by omega
        simp (maxSteps := 400000) (disch := omega) only [push_cast, ↓reduceIte, reduceCtorEq, Nat.reduceAdd, Nat.reduceSub, Nat.reduceEqDiff, Nat.reduceLeDiff, Nat.reduceLT, Nat.reduceBEq, Nat.reduceDiv, Nat.reduceMod, Nat.reducePow, Nat.reduceMul, Int.reduceToNat, Int.reduceLT, Int.reduceLE, S.mk.injEq, List.cons.injEq, Prod.mk.injEq, AV.v.injEq, Value.int.injEq, Value.bool.injEq, Blk.cells.injEq, e]
    · have hu : usB m f s i = true := by simpa using hu
      have hhit : hitB m f s left a i = true := by unfold hitB; rw [hu, w2]; rfl
      have hix : i = x := by
        rcases Nat.lt_trichotomy i x with q | q | q
        · rw [x3 i q] at hhit; cases hhit
        · exact q
        · rw [w3 x q] at x2; cases x2
      subst hix
      have hgr : m.rs.getD i dR = gr m i := rfl
      have hm1 := (roadB_ok (hok.r i w1)).m
      have hms : minL m (acc ++ [(i : Int)]) = minL m acc + (gr m i).m := by rw [minL_snoc]; rfl
      obtain ⟨k', hk'⟩ : ∃ k', k = k' + 1 := ⟨k - 1, by omega⟩
      have hw1 : wayC m f s left to k a = (i : Int) :: wayC m f s left to k' (gr m i).t := by
        rw [hk']
        simp only [wayC]
        rw [if_neg hne, ← hx]
      repeat' (first | refine w1g ?_ | refine w1l ?_ | refine w1q ?_ | refine w1b ?_ | refine w1p ?_ | ((first | refine w1r ?_ | refine w1k ?_ | refine w1e ?_); (refine sy1 ?_; try exact True.intro)) | refine an2 ?_ | fail)
      refine ⟨rfl, trivial, Int, 0, cI, [(i : Int)], rfl, by omega, fun x _ => ⟨rfl, rfl⟩, rfl, ?_⟩
      (refine sy1 ?_; try exact True.intro)
      refine ⟨rfl, ⟨Nat.le_of_ble_eq_true rfl, rfl⟩, trivial, [(i : Int)], rfl, by first | omega | (simp; omega), by first | omega | (simp; omega), ?_⟩
      (refine sy1 ?_; try exact True.intro)
      repeat' (first | refine w1g ?_ | refine w1l ?_ | refine w1q ?_ | refine w1b ?_ | refine w1p ?_ | ((first | refine w1r ?_ | refine w1k ?_ | refine w1e ?_); simp (maxSteps := 400000) (disch := omega) only [push_cast, ↓reduceIte, reduceCtorEq, Nat.reduceAdd, Nat.reduceSub, Nat.reduceEqDiff, Nat.reduceLeDiff, Nat.reduceLT, Nat.reduceBEq, Nat.reduceDiv, Nat.reduceMod, Nat.reducePow, Nat.reduceMul, Int.reduceToNat, Int.reduceLT, Int.reduceLE, hgr]) | refine an2 ?_ | fail)
      refine ⟨(k', (gr m i).t, acc ++ [(i : Int)]), ⟨y4, by dsimp only; omega, ?_, ?_, ?_, ?_⟩, by dsimp only; omega, by rfl, ?_⟩
      · dsimp only
        rw [← q3, hw1, List.append_assoc]; rfl
      · dsimp only; rw [List.length_append]; simp only [List.length_singleton]; omega
      · dsimp only; rw [hms]; omega
      · dsimp only; rw [hms, List.length_append]; simp only [List.length_singleton]; omega
      · dsimp only
        rw [hms, List.length_append]
        (refine syE ?_; try exact True.intro)
  · have hat : a = to := by simpa using hb
    have hw1 : wayC m f s left to k a = [] := by
      cases k with
      | zero => rfl
      | succ k => simp only [wayC]; rw [if_pos hat]
    rw [hw1, List.append_nil] at q3
    rw [← q3]
    repeat' (first | refine w1g ?_ | refine w1l ?_ | refine w1q ?_ | refine w1b ?_ | refine w1p ?_ | ((first | refine w1r ?_ | refine w1k ?_ | refine w1e ?_); (refine sy1 ?_; try exact True.intro)) | refine an2 ?_ | fail)
    refine W_ret ⟨[_, _], ⟨⟨by simp, rfl⟩, rfl, rfl⟩, ?_⟩
    simp (maxSteps := 400000) (disch := omega) only [push_cast, ↓reduceIte, reduceCtorEq, Nat.reduceAdd, Nat.reduceSub, Nat.reduceEqDiff, Nat.reduceLeDiff, Nat.reduceLT, Nat.reduceBEq, Nat.reduceDiv, Nat.reduceMod, Nat.reducePow, Nat.reduceMul, Int.reduceToNat, Int.reduceLT, Int.reduceLE, pack]
    rfl
end Go.Proofs.Ytfbdlmenhoagmaa

namespace Go.Proofs.Ytfbdlmenhoagmaa
open Go Sy
set_option maxRecDepth 100000
set_option maxHeartbeats 4000000
set_option linter.unusedVariables false
set_option linter.unusedSimpArgs false
def lvT (r : Rd) (t : Int) : Int := (if t % 1440 < r.o then t + (r.o - t % 1440) else if r.z - r.m < t % 1440 then t + (1440 - t % 1440 + r.o) else t) + r.m
theorem lvT_rng {n : Int} {r : Rd} (h : OkR n r) (t : Int) (ht : 0 ≤ t) : t + 1 ≤ lvT r t ∧ lvT r t ≤ t + 4320 := by
  have := h.o; have := h.m
  unfold lvT
  have := Int.emod_nonneg t (show (1440 : Int) ≠ 0 by decide)
  have := Int.emod_lt_of_pos t (show (0 : Int) < 1440 by decide)
  split
  · omega
  · split <;> omega
theorem fn93 (n : Int) (r : Rd) (t : Int) (h : OkR n r) (ht : 0 ≤ t ∧ t ≤ 4398046511104) : Sy.Fn Try.prog 93 [.agg (cR r), iv t] (iv (lvT r t)) := by
  refine Fn_of_W mixed Xt93 rfl ?_
  have ho := h.o; have hm := h.m
  have e0 : t.tmod 1440 = t % 1440 := Int.tmod_eq_emod_of_nonneg ht.1
  have h1 := Int.emod_nonneg t (show (1440 : Int) ≠ 0 by decide)
  have h2 := Int.emod_lt_of_pos t (show (0 : Int) < 1440 by decide)
  unfold lvT
  generalize t % 1440 = w at *
  repeat' (first | refine w1g ?_ | refine w1l ?_ | refine w1q ?_ | refine w1b ?_ | refine w1p ?_ | ((first | refine w1r ?_ | refine w1k ?_ | refine w1e ?_); simp (maxSteps := 400000) (disch := omega) only [push_cast, ↓reduceIte, reduceCtorEq, Nat.reduceAdd, Nat.reduceSub, Nat.reduceEqDiff, Nat.reduceLeDiff, Nat.reduceLT, Nat.reduceBEq, Nat.reduceDiv, Nat.reduceMod, Nat.reducePow, Nat.reduceMul, Int.reduceToNat, Int.reduceLT, Int.reduceLE, e0]) | refine an2 ?_ | fail)
  refine W_condD (by rfl) (fun q => ?_) (fun q => ?_)
  · rw [if_pos q]
    repeat' (first | refine w1g ?_ | refine w1l ?_ | refine w1q ?_ | refine w1b ?_ | refine w1p ?_ | ((first | refine w1r ?_ | refine w1k ?_ | refine w1e ?_); (refine sy1 ?_; try exact True.intro)) | refine an2 ?_ | fail)
    exact W_ret ⟨[_], ⟨rfl, rfl⟩, rfl⟩
  · rw [if_neg q]
    repeat' (first | refine w1g ?_ | refine w1l ?_ | refine w1q ?_ | refine w1b ?_ | refine w1p ?_ | ((first | refine w1r ?_ | refine w1k ?_ | refine w1e ?_); (refine sy1 ?_; try exact True.intro)) | refine an2 ?_ | fail)
    refine W_condD (by rfl) (fun q => ?_) (fun q => ?_)
    · rw [if_pos q]
      repeat' (first | refine w1g ?_ | refine w1l ?_ | refine w1q ?_ | refine w1b ?_ | refine w1p ?_ | ((first | refine w1r ?_ | refine w1k ?_ | refine w1e ?_); (refine sy1 ?_; try exact True.intro)) | refine an2 ?_ | fail)
      exact W_ret ⟨[_], ⟨rfl, rfl⟩, rfl⟩
    · rw [if_neg q]
      repeat' (first | refine w1g ?_ | refine w1l ?_ | refine w1q ?_ | refine w1b ?_ | refine w1p ?_ | ((first | refine w1r ?_ | refine w1k ?_ | refine w1e ?_); (refine sy1 ?_; try exact True.intro)) | refine an2 ?_ | fail)
      exact W_ret ⟨[_], ⟨rfl, rfl⟩, rfl⟩
def arT (m : Mp) (l : List Int) (t : Int) : Int := l.foldl (fun t x => lvT (gr m x.toNat) t) t
def cnB (m : Mp) (l : List Int) (i : Nat) : Bool := decide (i = 0) || (gr m (gi l i).toNat).f == (gr m (gi l (i - 1)).toNat).t
def cnA (m : Mp) (l : List Int) : Bool := (List.range l.length).all (cnB m l)
def arE (m : Mp) (l : List Int) (t : Int) : Int := if chkM m = 0 then (if rdE m l = 0 then (if inR t 0 1099511627776 = true then (if cnA m l = true then 0 else 16) else 3) else rdE m l) else chkM m
def arV (m : Mp) (l : List Int) (t : Int) : Int := if arE m l t = 0 then arT m l t else 0
theorem arT_snoc (m : Mp) (l : List Int) (x t : Int) : arT m (l ++ [x]) t = lvT (gr m x.toNat) (arT m l t) := by
  unfold arT; rw [List.foldl_append]; rfl
theorem take_snoc {l : List Int} {i : Nat} (h : i < l.length) : l.take (i + 1) = l.take i ++ [gi l i] := by
  rw [List.take_succ_eq_append_getElem h]
  simp [gi, List.getD, h]
theorem rdE_ok {m : Mp} {l : List Int} (h : rdE m l = 0) : l.length ≤ 256 ∧ ∀ i, i < l.length → 0 ≤ gi l i ∧ gi l i < m.rs.length := by
  unfold rdE at h
  by_cases q : 256 < l.length
  · rw [if_pos q] at h; omega
  · rw [if_neg q] at h
    by_cases q2 : (l.any fun x => !plB m.rs.length x) = true
    · rw [if_pos q2] at h; omega
    · refine ⟨by omega, fun i hi => ?_⟩
      rw [List.any_eq_true] at q2
      have h1 : gi l i ∈ l := getD_mem 0 l i hi
      have h2 : ¬ (!plB m.rs.length (gi l i)) = true := fun z => q2 ⟨_, h1, z⟩
      unfold plB at h2
      simp only [Bool.not_eq_true', Bool.not_eq_false, Bool.and_eq_true, decide_eq_true_eq] at h2
      exact h2
theorem cnA_yes {m : Mp} {l : List Int} (h : ∀ i, i < l.length → cnB m l i = true) : cnA m l = true := by
  unfold cnA; rw [List.all_eq_true]; intro i hi; exact h i (List.mem_range.1 hi)
theorem cnA_no {m : Mp} {l : List Int} {i : Nat} (hi : i < l.length) (h : cnB m l i = false) : cnA m l = false := by
  unfold cnA
  rw [← Bool.not_eq_true, List.all_eq_true]
  intro q
  have := q i (List.mem_range.2 hi)
  rw [h] at this; cases this
theorem arT_rng {m : Mp} (h : OkM m) : ∀ (l : List Int) (t : Int), 0 ≤ t → (∀ x ∈ l, 0 ≤ x ∧ x < m.rs.length) → t ≤ arT m l t ∧ arT m l t ≤ t + 4320 * l.length
  | [], t, ht, _ => by simp [arT]
  | x :: l, t, ht, hx => by
    have h1 := hx x List.mem_cons_self
    have h2 := lvT_rng (roadB_ok (h.r x.toNat (by omega))) t ht
    have h3 := arT_rng h l (lvT (gr m x.toNat) t) (by omega) (fun y hy => hx y (List.mem_cons_of_mem _ hy))
    have e : arT m (x :: l) t = arT m l (lvT (gr m x.toNat) t) := rfl
    rw [e]
    simp only [List.length_cons]
    omega
theorem fn34 (m : Mp) (l : List Int) (t : Int) (hm : Gm m) (hl : l.length ≤ 1000000) : Sy.Fn Try.prog 34 [aM m, aI l, iv t] (.tup [iv (arV m l t), iv (arE m l t)]) := by
  refine Fn_of_W mixed Xt34 rfl ?_
  have c27 := fn27 m hm
  have c68 := fn68 m l hl
  by_cases h0 : chkM m = 0
  rotate_left
  · have e1 : arE m l t = chkM m := by unfold arE; rw [if_neg h0]
    have e2 : arV m l t = 0 := by unfold arV; rw [e1, if_neg h0]
    rw [e1, e2]
    generalize chkM m = e at *
    repeat' (first | refine w1g ?_ | refine w1l ?_ | refine w1q ?_ | refine w1b ?_ | refine w1p ?_ | ((first | refine w1r ?_ | refine w1k ?_ | refine w1e ?_ | refine CallC.now (c27) ?_); (refine sy1 ?_; try exact True.intro)) | refine an2 ?_ | fail)
    refine W_cond (by rfl) (fun h => ?_) (fun h => ?_)
    · repeat' (first | refine w1g ?_ | refine w1l ?_ | refine w1q ?_ | refine w1b ?_ | refine w1p ?_ | ((first | refine w1r ?_ | refine w1k ?_ | refine w1e ?_); (refine sy1 ?_; try exact True.intro)) | refine an2 ?_ | fail)
      exact W_ret ⟨[_, _], ⟨rfl, rfl, rfl⟩, rfl⟩
    · exact absurd (by simpa using h) h0
  have hok := chkM_ok h0
  rw [h0] at c27
  repeat' (first | refine w1g ?_ | refine w1l ?_ | refine w1q ?_ | refine w1b ?_ | refine w1p ?_ | ((first | refine w1r ?_ | refine w1k ?_ | refine w1e ?_ | refine CallC.now (c27) ?_); (refine sy1 ?_; try exact True.intro)) | refine an2 ?_ | fail)
  refine W_cond (by rfl) (fun h => by cases h) (fun _ => ?_)
  by_cases h1 : rdE m l = 0
  rotate_left
  · have e1 : arE m l t = rdE m l := by unfold arE; rw [if_pos h0, if_neg h1]
    have e2 : arV m l t = 0 := by unfold arV; rw [e1, if_neg h1]
    rw [e1, e2]
    generalize rdE m l = e at *
    repeat' (first | refine w1g ?_ | refine w1l ?_ | refine w1q ?_ | refine w1b ?_ | refine w1p ?_ | ((first | refine w1r ?_ | refine w1k ?_ | refine w1e ?_ | refine CallC.now (c68) ?_); (refine sy1 ?_; try exact True.intro)) | refine an2 ?_ | fail)
    refine W_cond (by rfl) (fun h => ?_) (fun h => ?_)
    · repeat' (first | refine w1g ?_ | refine w1l ?_ | refine w1q ?_ | refine w1b ?_ | refine w1p ?_ | ((first | refine w1r ?_ | refine w1k ?_ | refine w1e ?_); (refine sy1 ?_; try exact True.intro)) | refine an2 ?_ | fail)
      exact W_ret ⟨[_, _], ⟨rfl, rfl, rfl⟩, rfl⟩
    · exact absurd (by simpa using h) h1
  obtain ⟨hl2, hlr⟩ := rdE_ok h1
  rw [h1] at c68
  repeat' (first | refine w1g ?_ | refine w1l ?_ | refine w1q ?_ | refine w1b ?_ | refine w1p ?_ | ((first | refine w1r ?_ | refine w1k ?_ | refine w1e ?_ | refine CallC.now (c68) ?_); (refine sy1 ?_; try exact True.intro)) | refine an2 ?_ | fail)
  refine W_cond (by rfl) (fun h => by cases h) (fun _ => ?_)
  have e1 : arE m l t = if inR t 0 1099511627776 = true then (if cnA m l = true then 0 else 16) else 3 := by unfold arE; rw [if_pos h0, if_pos h1]
  repeat' (first | refine w1g ?_ | refine w1l ?_ | refine w1q ?_ | refine w1b ?_ | refine w1p ?_ | ((first | refine w1r ?_ | refine w1k ?_ | refine w1e ?_ | refine CallC.now (fn85 _ _ _) ?_); (refine sy1 ?_; try exact True.intro)) | refine an2 ?_ | fail)
  refine W_cond (by rfl) (fun h => ?_) (fun h => ?_)
  · have h : inR t 0 1099511627776 = false := by simpa using h
    rw [h] at e1
    have e2 : arV m l t = 0 := by unfold arV; rw [e1]; rfl
    rw [e1, e2]
    repeat' (first | refine w1g ?_ | refine w1l ?_ | refine w1q ?_ | refine w1b ?_ | refine w1p ?_ | ((first | refine w1r ?_ | refine w1k ?_ | refine w1e ?_); (refine sy1 ?_; try exact True.intro)) | refine an2 ?_ | fail)
    exact W_ret ⟨[_, _], ⟨rfl, rfl, rfl⟩, rfl⟩
  have h : inR t 0 1099511627776 = true := by simpa using h
  rw [if_pos h] at e1
  have ht := inR_iff.1 h
  repeat' (first | refine w1g ?_ | refine w1l ?_ | refine w1q ?_ | refine w1b ?_ | refine w1p ?_ | ((first | refine w1r ?_ | refine w1k ?_ | refine w1e ?_); (refine sy1 ?_; try exact True.intro)) | refine an2 ?_ | fail)
  refine W_loopU (fun i : Nat => [(10, iv (arT m (l.take i) t)), (30, iv i)]) (fun i => []) (fun i => i ≤ l.length ∧ ∀ j, j < i → cnB m l j = true) (fun i => l.length - i) 0 ⟨by omega, fun j hj => by omega⟩ (by rfl) (by rfl) (fun i hi => ?_)
  obtain ⟨hi, hall⟩ := hi
  (refine sy1 ?_; try exact True.intro)
  repeat' (first | refine w1g ?_ | refine w1l ?_ | refine w1q ?_ | refine w1b ?_ | refine w1p ?_ | ((first | refine w1r ?_ | refine w1k ?_ | refine w1e ?_); (refine sy1 ?_; try exact True.intro)) | refine an2 ?_ | fail)
  refine W_condD (by rfl) (fun h5 => ?_) (fun h5 => ?_)
  · have hlt : i < l.length := by omega
    have gI : ∀ (l : List Int) i, l.getD i 0 = gi l i := fun _ _ => rfl
    have gR : ∀ i, m.rs.getD i dR = gr m i := fun _ => rfl
    have b1 := hlr i hlt
    have b2 := hlr (i - 1) (by omega)
    have e3 : ((i : Int) - 1).toNat = i - 1 := by omega
    have ecn : cnB m l i = (decide (i = 0) || (gr m (gi l i).toNat).f == (gr m (gi l (i - 1)).toNat).t) := rfl
    have hat := arT_rng hok (l.take i) t (by omega) (fun x hx => by
      obtain ⟨j, hj, rfl⟩ := List.mem_iff_getElem.1 (List.mem_of_mem_take hx)
      have := hlr j hj
      simpa [gi, List.getD, hj] using this)
    have htl : (l.take i).length = i := by rw [List.length_take]; omega
    rw [htl] at hat
    have hsn : arT m (l.take (i + 1)) t = lvT (gr m (gi l i).toNat) (arT m (l.take i) t) := by rw [take_snoc hlt, arT_snoc]
    have c93 := fn93 m.n (gr m (gi l i).toNat) (arT m (l.take i) t) (roadB_ok (hok.r _ (by omega))) (by omega)
    generalize arT m (l.take i) t = T at *
    repeat' (first | refine w1g ?_ | refine w1l ?_ | refine w1q ?_ | refine w1b ?_ | refine w1p ?_ | ((first | refine w1r ?_ | refine w1k ?_ | refine w1e ?_); simp (maxSteps := 400000) (disch := omega) only [push_cast, ↓reduceIte, reduceCtorEq, Nat.reduceAdd, Nat.reduceSub, Nat.reduceEqDiff, Nat.reduceLeDiff, Nat.reduceLT, Nat.reduceBEq, Nat.reduceDiv, Nat.reduceMod, Nat.reducePow, Nat.reduceMul, Int.reduceToNat, Int.reduceLT, Int.reduceLE, gI, gR, e3]) | refine an2 ?_ | fail)
    refine W_cond (by rfl) (fun hb => ?_) (fun hb => ?_)
    · have hz : cnB m l i = false := by
        rw [ecn, Bool.or_eq_false_iff, decide_eq_false_iff_not, beq_eq_false_iff_ne]
        rw [Bool.and_eq_true, decide_eq_true_eq, bne_iff_ne] at hb
        exact ⟨by omega, hb.2⟩
      rw [cnA_no hlt hz] at e1
      have e2 : arV m l t = 0 := by unfold arV; rw [e1]; rfl
      rw [e1, e2]
      repeat' (first | refine w1g ?_ | refine w1l ?_ | refine w1q ?_ | refine w1b ?_ | refine w1p ?_ | ((first | refine w1r ?_ | refine w1k ?_ | refine w1e ?_); (refine sy1 ?_; try exact True.intro)) | refine an2 ?_ | fail)
      exact W_ret ⟨[_, _], ⟨rfl, rfl, rfl⟩, rfl⟩
    · have hz : cnB m l i = true := by
        rw [ecn, Bool.or_eq_true, decide_eq_true_eq, beq_iff_eq]
        rw [Bool.and_eq_false_iff, decide_eq_false_iff_not, bne_eq_false_iff_eq] at hb
        rcases hb with hb | hb
        · left; omega
        · exact .inr hb
      repeat' (first | refine w1g ?_ | refine w1l ?_ | refine w1q ?_ | refine w1b ?_ | refine w1p ?_ | ((first | refine w1r ?_ | refine w1k ?_ | refine w1e ?_ | refine CallC.now (c93) ?_); simp (maxSteps := 400000) (disch := omega) only [push_cast, ↓reduceIte, reduceCtorEq, Nat.reduceAdd, Nat.reduceSub, Nat.reduceEqDiff, Nat.reduceLeDiff, Nat.reduceLT, Nat.reduceBEq, Nat.reduceDiv, Nat.reduceMod, Nat.reducePow, Nat.reduceMul, Int.reduceToNat, Int.reduceLT, Int.reduceLE, gI, gR]) | refine an2 ?_ | fail)
      refine ⟨i + 1, ⟨by omega, up_all hall hz⟩, by omega, by rfl, ?_⟩
      rw [hsn]
      (refine syE ?_; try exact True.intro)
  · have hil : i = l.length := by omega
    subst hil
    rw [cnA_yes hall] at e1
    have e2 : arV m l t = arT m l t := by unfold arV; rw [e1]; rfl
    rw [e1, e2, List.take_length]
    repeat' (first | refine w1g ?_ | refine w1l ?_ | refine w1q ?_ | refine w1b ?_ | refine w1p ?_ | ((first | refine w1r ?_ | refine w1k ?_ | refine w1e ?_); (refine sy1 ?_; try exact True.intro)) | refine an2 ?_ | fail)
    exact W_ret ⟨[_, _], ⟨rfl, rfl, rfl⟩, rfl⟩
end Go.Proofs.Ytfbdlmenhoagmaa

namespace Go.Proofs.Ytfbdlmenhoagmaa
open Go Sy
set_option maxRecDepth 100000
set_option maxHeartbeats 4000000
set_option linter.unusedVariables false
set_option linter.unusedSimpArgs false
def exR (a b c : Int) (s : Bool) : Rd := if s = true then ⟨a, b, c, 60, 480, 600, 5000, 5000, 5000, 5000, 5000, 5000⟩ else ⟨a, b, c, 0, 0, 0, 0, 0, 0, 0, 0, 0⟩
def exL (i : Nat) : List Rd := [exR 0 1 10 (decide (0 < i)), exR 1 2 10 (decide (1 < i)), exR 0 2 15 (decide (2 < i))]
def exM : Mp := ⟨3, [⟨0, 1, 10, 60, 480, 600, 5000, 5000, 5000, 5000, 5000, 5000⟩, ⟨1, 2, 10, 60, 480, 600, 5000, 3000, 5000, 5000, 5000, 5000⟩, ⟨0, 2, 15, 60, 480, 600, 5000, 2000, 5000, 5000, 5000, 5000⟩], [⟨[1], 1, 4000, 4⟩, ⟨[2], 1, 4000, 12⟩]⟩
def exV (a b c : Int) (j : Nat) : Rd := ⟨a, b, c, if 1 ≤ j then 60 else 0, if 2 ≤ j then 480 else 0, if 3 ≤ j then 600 else 0, if 4 ≤ j then 5000 else 0, if 4 ≤ j then 5000 else 0, if 4 ≤ j then 5000 else 0, if 4 ≤ j then 5000 else 0, if 4 ≤ j then 5000 else 0, if 4 ≤ j then 5000 else 0⟩
def exW (i j : Nat) : Rd := match i with
  | 0 => exV 0 1 10 j
  | 1 => exV 1 2 10 j
  | _ => exV 0 2 15 j
def exK (i j : Nat) : List Rd := (exL i).set i (exW i j)
theorem exK_len (i j : Nat) : (exK i j).length = 3 := by simp [exK]; rfl
theorem exK_set (i j k : Nat) : (exK i j).set i (exW i k) = exK i k := by simp [exK]
theorem exK_0 (i : Nat) (h : i = 0 ∨ i = 1 ∨ i = 2) : exL i = exK i 0 := by rcases h with rfl | rfl | rfl <;> rfl
theorem exK_4 (i : Nat) (h : i = 0 ∨ i = 1 ∨ i = 2) : exK i 4 = exL (i + 1) := by rcases h with rfl | rfl | rfl <;> rfl
def slt (b : Bool) (x : AV) : AV := if b = true then x else .bad
theorem slt_t (x : AV) : slt true x = x := rfl
theorem le_stK {s s' : S} (ks : List Nat) (nx : Nat) (h : ∀ j, nx ≤ j → lm s.mem j = none) (he : (⟨keepL s.tm ks, s.mem, nx⟩ : S) = s') : le s s' := he ▸ le_keepL ks nx h
def exQ (b c : Bool) : List Rd := [⟨0, 1, 10, 60, 480, 600, 5000, 5000, 5000, 5000, 5000, 5000⟩, ⟨1, 2, 10, 60, 480, 600, 5000, if b = true then 3000 else 5000, 5000, 5000, 5000, 5000⟩, ⟨0, 2, 15, 60, 480, 600, 5000, if c = true then 2000 else 5000, 5000, 5000, 5000, 5000⟩]
theorem exQ_len (b c : Bool) : (exQ b c).length = 3 := rfl
def exS (D : Nat → Bool) : S := ⟨[(0, .own 0 0), (2, .own 9 0), (35, slt (D 0) (.own 9 1)), (36, slt (D 1) (.row 7 0)), (37, slt (D 2) (.own 9 1)), (38, slt (D 3) (.row 7 0)), (39, slt (D 4) (.roff 7 0 12 1 0)), (40, slt (D 5) (.roff 7 0 12 1 6)), (41, slt (D 6) (.roff 7 0 12 1 7)), (42, slt (D 8) (.roff 7 0 12 2 0)), (43, slt (D 9) (.roff 7 0 12 2 6)), (44, slt (D 10) (.roff 7 0 12 2 7))],
  [(0, .cells [iv 0, .v (.slice none 0 0), .v (.slice none 0 0)]), (2, .cells [iv 5000, iv 5000, iv 5000, iv 5000, iv 5000, iv 5000]), (7, .row 0 67 12 dR cR (exQ (D 7) (D 11))), (9, .cells [iv 3, .row 7 0, .v (.slice none 0 0)])], 30⟩
theorem fn51 : Sy.Fn Try.prog 51 [] (aM exM) := by
  refine Fn_of_W mixed Xt51 rfl ?_
  repeat' (first | refine w1g ?_ | refine w1l ?_ | refine w1q ?_ | refine w1b ?_ | refine w1p ?_ | ((first | refine w1r ?_ | refine w1k ?_ | refine w1e ?_); (refine sy1 ?_; try exact True.intro)) | refine an2 ?_ | fail)
  refine ⟨rfl, trivial, Rd, dR, cR, exL 0, rfl, by omega, fun x _ => ⟨rfl, rfl⟩, rfl, ?_⟩
  (refine sy1 ?_; try exact True.intro)
  repeat' (first | refine w1g ?_ | refine w1l ?_ | refine w1q ?_ | refine w1b ?_ | refine w1p ?_ | ((first | refine w1r ?_ | refine w1k ?_ | refine w1e ?_); (refine sy1 ?_; try exact True.intro)) | refine an2 ?_ | fail)
  refine W_loopU (fun i : Nat => [(3, iv i)]) (fun i => [(7, .row 0 67 12 dR cR (exL i))]) (fun i => i ≤ 3) (fun i => 3 - i) 0 (by omega) (by rfl) (by rfl) (fun i hi => ?_)
  have hl : (exL i).length = 3 := rfl
  (refine sy1 ?_; try exact True.intro)
  repeat' (first | refine w1g ?_ | refine w1l ?_ | refine w1q ?_ | refine w1b ?_ | refine w1p ?_ | ((first | refine w1r ?_ | refine w1k ?_ | refine w1e ?_); (refine sy1 ?_; try exact True.intro)) | refine an2 ?_ | fail)
  refine W_condD (by rfl) (fun h5 => ?_) (fun h5 => ?_)
  · have h3 : i = 0 ∨ i = 1 ∨ i = 2 := by omega
    rw [exK_0 i h3]
    repeat' (first | refine w1g ?_ | refine w1l ?_ | refine w1q ?_ | refine w1b ?_ | refine w1p ?_ | ((first | refine w1r ?_ | refine w1k ?_ | refine w1e ?_); simp (maxSteps := 400000) (disch := omega) only [push_cast, ↓reduceIte, reduceCtorEq, Nat.reduceAdd, Nat.reduceSub, Nat.reduceEqDiff, Nat.reduceLeDiff, Nat.reduceLT, Nat.reduceBEq, Nat.reduceDiv, Nat.reduceMod, Nat.reducePow, Nat.reduceMul, Int.reduceToNat, Int.reduceLT, Int.reduceLE, exK_len]) | refine an2 ?_ | fail)
    refine ⟨rfl, ⟨Nat.le_of_ble_eq_true rfl, rfl⟩, by omega, exW i 1, by rcases h3 with rfl | rfl | rfl <;> rfl, rfl, ?_⟩
    rw [exK_set]
    simp (maxSteps := 400000) (disch := omega) only [push_cast, ↓reduceIte, reduceCtorEq, Nat.reduceAdd, Nat.reduceSub, Nat.reduceEqDiff, Nat.reduceLeDiff, Nat.reduceLT, Nat.reduceBEq, Nat.reduceDiv, Nat.reduceMod, Nat.reducePow, Nat.reduceMul, Int.reduceToNat, Int.reduceLT, Int.reduceLE, exK_len]
    refine ⟨by omega, ?_⟩
    refine ⟨rfl, ⟨Nat.le_of_ble_eq_true rfl, rfl⟩, by omega, exW i 2, by rcases h3 with rfl | rfl | rfl <;> rfl, rfl, ?_⟩
    rw [exK_set]
    simp (maxSteps := 400000) (disch := omega) only [push_cast, ↓reduceIte, reduceCtorEq, Nat.reduceAdd, Nat.reduceSub, Nat.reduceEqDiff, Nat.reduceLeDiff, Nat.reduceLT, Nat.reduceBEq, Nat.reduceDiv, Nat.reduceMod, Nat.reducePow, Nat.reduceMul, Int.reduceToNat, Int.reduceLT, Int.reduceLE, exK_len]
    refine ⟨by omega, ?_⟩
    refine ⟨rfl, ⟨Nat.le_of_ble_eq_true rfl, rfl⟩, by omega, exW i 3, by rcases h3 with rfl | rfl | rfl <;> rfl, rfl, ?_⟩
    rw [exK_set]
    simp (maxSteps := 400000) (disch := omega) only [push_cast, ↓reduceIte, reduceCtorEq, Nat.reduceAdd, Nat.reduceSub, Nat.reduceEqDiff, Nat.reduceLeDiff, Nat.reduceLT, Nat.reduceBEq, Nat.reduceDiv, Nat.reduceMod, Nat.reducePow, Nat.reduceMul, Int.reduceToNat, Int.reduceLT, Int.reduceLE, exK_len]
    refine ⟨by omega, ?_⟩
    refine ⟨rfl, ⟨Nat.le_of_ble_eq_true rfl, rfl⟩, by omega, exW i 4, by rcases h3 with rfl | rfl | rfl <;> rfl, rfl, ?_⟩
    rw [exK_set, exK_4 i h3]
    simp (maxSteps := 400000) (disch := omega) only [push_cast, ↓reduceIte, reduceCtorEq, Nat.reduceAdd, Nat.reduceSub, Nat.reduceEqDiff, Nat.reduceLeDiff, Nat.reduceLT, Nat.reduceBEq, Nat.reduceDiv, Nat.reduceMod, Nat.reducePow, Nat.reduceMul, Int.reduceToNat, Int.reduceLT, Int.reduceLE, exK_len]
    repeat' (first | refine w1g ?_ | refine w1l ?_ | refine w1q ?_ | refine w1b ?_ | refine w1p ?_ | ((first | refine w1r ?_ | refine w1k ?_ | refine w1e ?_); (refine sy1 ?_; try exact True.intro)) | refine an2 ?_ | fail)
    refine ⟨i + 1, by omega, by omega, by rfl, ?_⟩
    (refine syE ?_; try exact True.intro)
  · obtain rfl : i = 3 := by omega
    have hl : (exL 3).length = 3 := rfl
    refine W_exit ?_
    (refine sy1 ?_; try exact True.intro)
    repeat (first | refine WK_go ?_ | refine W_seqL ?_ | refine W_seq ?_)
    refine W_regI exS (le_stK [0, 2, 35, 36, 37, 38, 39, 40, 41, 42, 43, 44] 30 (fun j hj => by simp only [lm]; repeat rw [if_neg (by omega)]) (by rfl)) (fun D i ro m hro hms hD ha => ?_) (fun D hD => ?_)
    · have nn : ∀ (b c : Bool) (j : Nat), 30 ≤ j → lm [(0, .cells [iv 0, .v (.slice none 0 0), .v (.slice none 0 0)]), (2, .cells [iv 5000, iv 5000, iv 5000, iv 5000, iv 5000, iv 5000]), (7, .row 0 67 12 dR cR (exQ b c)), (9, .cells [iv 3, .row 7 0, .v (.slice none 0 0)])] j = none := fun b c j hj => by
        simp only [lm]; repeat rw [if_neg (by omega)]
      rcases i with _ | _ | _ | _ | _ | _ | _ | _ | _ | _ | _ | _ | i
      all_goals simp only [List.getElem?_cons_zero, List.getElem?_cons_succ, List.getElem?_nil, Option.some.injEq, reduceCtorEq] at hro hms
      all_goals subst hro
      all_goals subst hms
      · unfold exS
        simp (maxSteps := 400000) (disch := omega) only [push_cast, ↓reduceIte, reduceCtorEq, Nat.reduceAdd, Nat.reduceSub, Nat.reduceEqDiff, Nat.reduceLeDiff, Nat.reduceLT, Nat.reduceBEq, Nat.reduceDiv, Nat.reduceMod, Nat.reducePow, Nat.reduceMul, Int.reduceToNat, Int.reduceLT, Int.reduceLE, slt_t, exQ_len]
        first | exact le_stK [0, 2, 35, 36, 37, 38, 39, 40, 41, 42, 43, 44] 30 (fun j hj => nn (D 7) (D 11) j hj) (by rfl) | exact le_stK [0, 2, 35, 36, 37, 38, 39, 40, 41, 42, 43, 44] 30 (fun j hj => nn true (D 11) j hj) (by rfl) | exact le_stK [0, 2, 35, 36, 37, 38, 39, 40, 41, 42, 43, 44] 30 (fun j hj => nn (D 7) true j hj) (by rfl) | exact ⟨by decide, le_stK [0, 2, 35, 36, 37, 38, 39, 40, 41, 42, 43, 44] 30 (fun j hj => nn (D 7) (D 11) j hj) (by rfl)⟩ | trace_state
      · unfold exS
        have a0 := ha 0 (by unfold tb; decide)
        simp (maxSteps := 400000) (disch := omega) only [push_cast, ↓reduceIte, reduceCtorEq, Nat.reduceAdd, Nat.reduceSub, Nat.reduceEqDiff, Nat.reduceLeDiff, Nat.reduceLT, Nat.reduceBEq, Nat.reduceDiv, Nat.reduceMod, Nat.reducePow, Nat.reduceMul, Int.reduceToNat, Int.reduceLT, Int.reduceLE, slt_t, exQ_len, a0]
        first | exact le_stK [0, 2, 35, 36, 37, 38, 39, 40, 41, 42, 43, 44] 30 (fun j hj => nn (D 7) (D 11) j hj) (by rfl) | exact le_stK [0, 2, 35, 36, 37, 38, 39, 40, 41, 42, 43, 44] 30 (fun j hj => nn true (D 11) j hj) (by rfl) | exact le_stK [0, 2, 35, 36, 37, 38, 39, 40, 41, 42, 43, 44] 30 (fun j hj => nn (D 7) true j hj) (by rfl) | exact ⟨by decide, le_stK [0, 2, 35, 36, 37, 38, 39, 40, 41, 42, 43, 44] 30 (fun j hj => nn (D 7) (D 11) j hj) (by rfl)⟩ | trace_state
      · unfold exS
        simp (maxSteps := 400000) (disch := omega) only [push_cast, ↓reduceIte, reduceCtorEq, Nat.reduceAdd, Nat.reduceSub, Nat.reduceEqDiff, Nat.reduceLeDiff, Nat.reduceLT, Nat.reduceBEq, Nat.reduceDiv, Nat.reduceMod, Nat.reducePow, Nat.reduceMul, Int.reduceToNat, Int.reduceLT, Int.reduceLE, slt_t, exQ_len]
        first | exact le_stK [0, 2, 35, 36, 37, 38, 39, 40, 41, 42, 43, 44] 30 (fun j hj => nn (D 7) (D 11) j hj) (by rfl) | exact le_stK [0, 2, 35, 36, 37, 38, 39, 40, 41, 42, 43, 44] 30 (fun j hj => nn true (D 11) j hj) (by rfl) | exact le_stK [0, 2, 35, 36, 37, 38, 39, 40, 41, 42, 43, 44] 30 (fun j hj => nn (D 7) true j hj) (by rfl) | exact ⟨by decide, le_stK [0, 2, 35, 36, 37, 38, 39, 40, 41, 42, 43, 44] 30 (fun j hj => nn (D 7) (D 11) j hj) (by rfl)⟩ | trace_state
      · unfold exS
        have a0 := ha 2 (by unfold tb; decide)
        simp (maxSteps := 400000) (disch := omega) only [push_cast, ↓reduceIte, reduceCtorEq, Nat.reduceAdd, Nat.reduceSub, Nat.reduceEqDiff, Nat.reduceLeDiff, Nat.reduceLT, Nat.reduceBEq, Nat.reduceDiv, Nat.reduceMod, Nat.reducePow, Nat.reduceMul, Int.reduceToNat, Int.reduceLT, Int.reduceLE, slt_t, exQ_len, a0]
        first | exact le_stK [0, 2, 35, 36, 37, 38, 39, 40, 41, 42, 43, 44] 30 (fun j hj => nn (D 7) (D 11) j hj) (by rfl) | exact le_stK [0, 2, 35, 36, 37, 38, 39, 40, 41, 42, 43, 44] 30 (fun j hj => nn true (D 11) j hj) (by rfl) | exact le_stK [0, 2, 35, 36, 37, 38, 39, 40, 41, 42, 43, 44] 30 (fun j hj => nn (D 7) true j hj) (by rfl) | exact ⟨by decide, le_stK [0, 2, 35, 36, 37, 38, 39, 40, 41, 42, 43, 44] 30 (fun j hj => nn (D 7) (D 11) j hj) (by rfl)⟩ | trace_state
      · unfold exS
        have a0 := ha 1 (by unfold tb; decide)
        simp (maxSteps := 400000) (disch := omega) only [push_cast, ↓reduceIte, reduceCtorEq, Nat.reduceAdd, Nat.reduceSub, Nat.reduceEqDiff, Nat.reduceLeDiff, Nat.reduceLT, Nat.reduceBEq, Nat.reduceDiv, Nat.reduceMod, Nat.reducePow, Nat.reduceMul, Int.reduceToNat, Int.reduceLT, Int.reduceLE, slt_t, exQ_len, a0]
        first | exact le_stK [0, 2, 35, 36, 37, 38, 39, 40, 41, 42, 43, 44] 30 (fun j hj => nn (D 7) (D 11) j hj) (by rfl) | exact le_stK [0, 2, 35, 36, 37, 38, 39, 40, 41, 42, 43, 44] 30 (fun j hj => nn true (D 11) j hj) (by rfl) | exact le_stK [0, 2, 35, 36, 37, 38, 39, 40, 41, 42, 43, 44] 30 (fun j hj => nn (D 7) true j hj) (by rfl) | exact ⟨by decide, le_stK [0, 2, 35, 36, 37, 38, 39, 40, 41, 42, 43, 44] 30 (fun j hj => nn (D 7) (D 11) j hj) (by rfl)⟩ | trace_state
      · unfold exS
        have a0 := ha 4 (by unfold tb; decide)
        simp (maxSteps := 400000) (disch := omega) only [push_cast, ↓reduceIte, reduceCtorEq, Nat.reduceAdd, Nat.reduceSub, Nat.reduceEqDiff, Nat.reduceLeDiff, Nat.reduceLT, Nat.reduceBEq, Nat.reduceDiv, Nat.reduceMod, Nat.reducePow, Nat.reduceMul, Int.reduceToNat, Int.reduceLT, Int.reduceLE, slt_t, exQ_len, a0]
        first | exact le_stK [0, 2, 35, 36, 37, 38, 39, 40, 41, 42, 43, 44] 30 (fun j hj => nn (D 7) (D 11) j hj) (by rfl) | exact le_stK [0, 2, 35, 36, 37, 38, 39, 40, 41, 42, 43, 44] 30 (fun j hj => nn true (D 11) j hj) (by rfl) | exact le_stK [0, 2, 35, 36, 37, 38, 39, 40, 41, 42, 43, 44] 30 (fun j hj => nn (D 7) true j hj) (by rfl) | exact ⟨by decide, le_stK [0, 2, 35, 36, 37, 38, 39, 40, 41, 42, 43, 44] 30 (fun j hj => nn (D 7) (D 11) j hj) (by rfl)⟩ | trace_state
      · unfold exS
        have a0 := ha 5 (by unfold tb; decide)
        simp (maxSteps := 400000) (disch := omega) only [push_cast, ↓reduceIte, reduceCtorEq, Nat.reduceAdd, Nat.reduceSub, Nat.reduceEqDiff, Nat.reduceLeDiff, Nat.reduceLT, Nat.reduceBEq, Nat.reduceDiv, Nat.reduceMod, Nat.reducePow, Nat.reduceMul, Int.reduceToNat, Int.reduceLT, Int.reduceLE, slt_t, exQ_len, a0]
        first | exact le_stK [0, 2, 35, 36, 37, 38, 39, 40, 41, 42, 43, 44] 30 (fun j hj => nn (D 7) (D 11) j hj) (by rfl) | exact le_stK [0, 2, 35, 36, 37, 38, 39, 40, 41, 42, 43, 44] 30 (fun j hj => nn true (D 11) j hj) (by rfl) | exact le_stK [0, 2, 35, 36, 37, 38, 39, 40, 41, 42, 43, 44] 30 (fun j hj => nn (D 7) true j hj) (by rfl) | exact ⟨by decide, le_stK [0, 2, 35, 36, 37, 38, 39, 40, 41, 42, 43, 44] 30 (fun j hj => nn (D 7) (D 11) j hj) (by rfl)⟩ | trace_state
      · unfold exS
        have a0 := ha 6 (by unfold tb; decide)
        simp (maxSteps := 400000) (disch := omega) only [push_cast, ↓reduceIte, reduceCtorEq, Nat.reduceAdd, Nat.reduceSub, Nat.reduceEqDiff, Nat.reduceLeDiff, Nat.reduceLT, Nat.reduceBEq, Nat.reduceDiv, Nat.reduceMod, Nat.reducePow, Nat.reduceMul, Int.reduceToNat, Int.reduceLT, Int.reduceLE, slt_t, exQ_len, a0, hD]
        refine ⟨rfl, ⟨Nat.le_of_ble_eq_true rfl, rfl⟩, by decide, ⟨1, 2, 10, 60, 480, 600, 5000, 3000, 5000, 5000, 5000, 5000⟩, rfl, rfl, ?_⟩
        have e : (exQ false (D 11)).set 1 ⟨1, 2, 10, 60, 480, 600, 5000, 3000, 5000, 5000, 5000, 5000⟩ = exQ true (D 11) := rfl
        rw [e]
        simp (maxSteps := 400000) (disch := omega) only [push_cast, ↓reduceIte, reduceCtorEq, Nat.reduceAdd, Nat.reduceSub, Nat.reduceEqDiff, Nat.reduceLeDiff, Nat.reduceLT, Nat.reduceBEq, Nat.reduceDiv, Nat.reduceMod, Nat.reducePow, Nat.reduceMul, Int.reduceToNat, Int.reduceLT, Int.reduceLE, slt_t, exQ_len, a0]
        first | exact le_stK [0, 2, 35, 36, 37, 38, 39, 40, 41, 42, 43, 44] 30 (fun j hj => nn (D 7) (D 11) j hj) (by rfl) | exact le_stK [0, 2, 35, 36, 37, 38, 39, 40, 41, 42, 43, 44] 30 (fun j hj => nn true (D 11) j hj) (by rfl) | exact le_stK [0, 2, 35, 36, 37, 38, 39, 40, 41, 42, 43, 44] 30 (fun j hj => nn (D 7) true j hj) (by rfl) | exact ⟨by decide, le_stK [0, 2, 35, 36, 37, 38, 39, 40, 41, 42, 43, 44] 30 (fun j hj => nn (D 7) (D 11) j hj) (by rfl)⟩ | trace_state
      · unfold exS
        have a0 := ha 3 (by unfold tb; decide)
        simp (maxSteps := 400000) (disch := omega) only [push_cast, ↓reduceIte, reduceCtorEq, Nat.reduceAdd, Nat.reduceSub, Nat.reduceEqDiff, Nat.reduceLeDiff, Nat.reduceLT, Nat.reduceBEq, Nat.reduceDiv, Nat.reduceMod, Nat.reducePow, Nat.reduceMul, Int.reduceToNat, Int.reduceLT, Int.reduceLE, slt_t, exQ_len, a0]
        first | exact le_stK [0, 2, 35, 36, 37, 38, 39, 40, 41, 42, 43, 44] 30 (fun j hj => nn (D 7) (D 11) j hj) (by rfl) | exact le_stK [0, 2, 35, 36, 37, 38, 39, 40, 41, 42, 43, 44] 30 (fun j hj => nn true (D 11) j hj) (by rfl) | exact le_stK [0, 2, 35, 36, 37, 38, 39, 40, 41, 42, 43, 44] 30 (fun j hj => nn (D 7) true j hj) (by rfl) | exact ⟨by decide, le_stK [0, 2, 35, 36, 37, 38, 39, 40, 41, 42, 43, 44] 30 (fun j hj => nn (D 7) (D 11) j hj) (by rfl)⟩ | trace_state
      · unfold exS
        have a0 := ha 8 (by unfold tb; decide)
        simp (maxSteps := 400000) (disch := omega) only [push_cast, ↓reduceIte, reduceCtorEq, Nat.reduceAdd, Nat.reduceSub, Nat.reduceEqDiff, Nat.reduceLeDiff, Nat.reduceLT, Nat.reduceBEq, Nat.reduceDiv, Nat.reduceMod, Nat.reducePow, Nat.reduceMul, Int.reduceToNat, Int.reduceLT, Int.reduceLE, slt_t, exQ_len, a0]
        first | exact le_stK [0, 2, 35, 36, 37, 38, 39, 40, 41, 42, 43, 44] 30 (fun j hj => nn (D 7) (D 11) j hj) (by rfl) | exact le_stK [0, 2, 35, 36, 37, 38, 39, 40, 41, 42, 43, 44] 30 (fun j hj => nn true (D 11) j hj) (by rfl) | exact le_stK [0, 2, 35, 36, 37, 38, 39, 40, 41, 42, 43, 44] 30 (fun j hj => nn (D 7) true j hj) (by rfl) | exact ⟨by decide, le_stK [0, 2, 35, 36, 37, 38, 39, 40, 41, 42, 43, 44] 30 (fun j hj => nn (D 7) (D 11) j hj) (by rfl)⟩ | trace_state
      · unfold exS
        have a0 := ha 9 (by unfold tb; decide)
        simp (maxSteps := 400000) (disch := omega) only [push_cast, ↓reduceIte, reduceCtorEq, Nat.reduceAdd, Nat.reduceSub, Nat.reduceEqDiff, Nat.reduceLeDiff, Nat.reduceLT, Nat.reduceBEq, Nat.reduceDiv, Nat.reduceMod, Nat.reducePow, Nat.reduceMul, Int.reduceToNat, Int.reduceLT, Int.reduceLE, slt_t, exQ_len, a0]
        first | exact le_stK [0, 2, 35, 36, 37, 38, 39, 40, 41, 42, 43, 44] 30 (fun j hj => nn (D 7) (D 11) j hj) (by rfl) | exact le_stK [0, 2, 35, 36, 37, 38, 39, 40, 41, 42, 43, 44] 30 (fun j hj => nn true (D 11) j hj) (by rfl) | exact le_stK [0, 2, 35, 36, 37, 38, 39, 40, 41, 42, 43, 44] 30 (fun j hj => nn (D 7) true j hj) (by rfl) | exact ⟨by decide, le_stK [0, 2, 35, 36, 37, 38, 39, 40, 41, 42, 43, 44] 30 (fun j hj => nn (D 7) (D 11) j hj) (by rfl)⟩ | trace_state
      · unfold exS
        have a0 := ha 10 (by unfold tb; decide)
        simp (maxSteps := 400000) (disch := omega) only [push_cast, ↓reduceIte, reduceCtorEq, Nat.reduceAdd, Nat.reduceSub, Nat.reduceEqDiff, Nat.reduceLeDiff, Nat.reduceLT, Nat.reduceBEq, Nat.reduceDiv, Nat.reduceMod, Nat.reducePow, Nat.reduceMul, Int.reduceToNat, Int.reduceLT, Int.reduceLE, slt_t, exQ_len, a0, hD]
        refine ⟨rfl, ⟨Nat.le_of_ble_eq_true rfl, rfl⟩, by decide, ⟨0, 2, 15, 60, 480, 600, 5000, 2000, 5000, 5000, 5000, 5000⟩, rfl, rfl, ?_⟩
        have e : (exQ (D 7) false).set 2 ⟨0, 2, 15, 60, 480, 600, 5000, 2000, 5000, 5000, 5000, 5000⟩ = exQ (D 7) true := rfl
        rw [e]
        simp (maxSteps := 400000) (disch := omega) only [push_cast, ↓reduceIte, reduceCtorEq, Nat.reduceAdd, Nat.reduceSub, Nat.reduceEqDiff, Nat.reduceLeDiff, Nat.reduceLT, Nat.reduceBEq, Nat.reduceDiv, Nat.reduceMod, Nat.reducePow, Nat.reduceMul, Int.reduceToNat, Int.reduceLT, Int.reduceLE, slt_t, exQ_len, a0]
        first | exact le_stK [0, 2, 35, 36, 37, 38, 39, 40, 41, 42, 43, 44] 30 (fun j hj => nn (D 7) (D 11) j hj) (by rfl) | exact le_stK [0, 2, 35, 36, 37, 38, 39, 40, 41, 42, 43, 44] 30 (fun j hj => nn true (D 11) j hj) (by rfl) | exact le_stK [0, 2, 35, 36, 37, 38, 39, 40, 41, 42, 43, 44] 30 (fun j hj => nn (D 7) true j hj) (by rfl) | exact ⟨by decide, le_stK [0, 2, 35, 36, 37, 38, 39, 40, 41, 42, 43, 44] 30 (fun j hj => nn (D 7) (D 11) j hj) (by rfl)⟩ | trace_state
    · refine ⟨_, le.refl _, ?_⟩
      unfold exS
      have d7 := hD 7 (by decide)
      have d11 := hD 11 (by decide)
      rw [d7, d11]
      (refine sy1 ?_; try exact True.intro)
      repeat (first | refine WK_go ?_ | refine W_seqL ?_ | refine W_seq ?_)
      refine W_regP [1, 2] (by decide) ?_
      simp (maxSteps := 400000) (disch := omega) only [push_cast, ↓reduceIte, reduceCtorEq, Nat.reduceAdd, Nat.reduceSub, Nat.reduceEqDiff, Nat.reduceLeDiff, Nat.reduceLT, Nat.reduceBEq, Nat.reduceDiv, Nat.reduceMod, Nat.reducePow, Nat.reduceMul, Int.reduceToNat, Int.reduceLT, Int.reduceLE, chainP, List.take_succ_cons, List.take_zero, List.drop_succ_cons, List.drop_zero]
      refine ⟨rfl, trivial, Int, 0, cI, [1], rfl, by omega, fun x _ => ⟨rfl, rfl⟩, rfl, ?_⟩
      (refine sy1 ?_; try exact True.intro)
      refine ⟨_, le_frzR 45 [0, 2] [0, 7, 9] 40 30 0 3 1 0 cI [1] rfl rfl rfl rfl, ?_⟩
      simp (maxSteps := 400000) (disch := omega) only [push_cast, ↓reduceIte, reduceCtorEq, Nat.reduceAdd, Nat.reduceSub, Nat.reduceEqDiff, Nat.reduceLeDiff, Nat.reduceLT, Nat.reduceBEq, Nat.reduceDiv, Nat.reduceMod, Nat.reducePow, Nat.reduceMul, Int.reduceToNat, Int.reduceLT, Int.reduceLE, chainP, List.take_succ_cons, List.take_zero, List.drop_succ_cons, List.drop_zero]
      refine ⟨rfl, trivial, Int, 0, cI, [2], rfl, by omega, fun x _ => ⟨rfl, rfl⟩, rfl, ?_⟩
      (refine sy1 ?_; try exact True.intro)
      refine ⟨_, le_frzR 47 [0, 2, 46] [0, 7, 9] 60 41 0 3 1 0 cI [2] rfl rfl rfl rfl, ?_⟩
      simp (maxSteps := 400000) (disch := omega) only [push_cast, ↓reduceIte, reduceCtorEq, Nat.reduceAdd, Nat.reduceSub, Nat.reduceEqDiff, Nat.reduceLeDiff, Nat.reduceLT, Nat.reduceBEq, Nat.reduceDiv, Nat.reduceMod, Nat.reducePow, Nat.reduceMul, Int.reduceToNat, Int.reduceLT, Int.reduceLE, chainP, List.take_succ_cons, List.take_zero, List.drop_succ_cons, List.drop_zero]
      refine ⟨rfl, trivial, Wrk, dW, cW, exM.ws, rfl, by omega, fun x _ => ⟨rfl, rfl⟩, rfl, ?_⟩
      (refine sy1 ?_; try exact True.intro)
      repeat' (first | refine w1g ?_ | refine w1l ?_ | refine w1q ?_ | refine w1b ?_ | refine w1p ?_ | ((first | refine w1r ?_ | refine w1k ?_ | refine w1e ?_); (refine sy1 ?_; try exact True.intro)) | refine an2 ?_ | fail)
      refine W_ret ⟨[_], ⟨⟨by simp, rfl⟩, rfl⟩, ?_⟩
      simp (maxSteps := 400000) (disch := omega) only [push_cast, ↓reduceIte, reduceCtorEq, Nat.reduceAdd, Nat.reduceSub, Nat.reduceEqDiff, Nat.reduceLeDiff, Nat.reduceLT, Nat.reduceBEq, Nat.reduceDiv, Nat.reduceMod, Nat.reducePow, Nat.reduceMul, Int.reduceToNat, Int.reduceLT, Int.reduceLE, pack]
      rfl
theorem exG : Gm exM := ⟨by decide, by decide, fun w hw => by
  have h : w = ⟨[1], 1, 4000, 4⟩ ∨ w = ⟨[2], 1, 4000, 12⟩ := by simpa [exM] using hw
  rcases h with rfl | rfl <;> decide⟩
def exF (k : Nat) : Int := if k = 1 then 4000 else 0
theorem ex_chV : chV exM exF 0 2 = some ([0], 24) := by kernel_rfl
theorem ex_chE : chE exM exF 0 2 = 0 := by kernel_rfl
theorem ex_way : wayS exM exF 0 2 [0] = [0, 1] := by kernel_rfl
theorem ex_min : minL exM [0, 1] = 120 := by kernel_rfl
theorem ex_arV : arV exM [0, 1] 500 = 1980 := by kernel_rfl
theorem ex_arE : arE exM [0, 1] 500 = 0 := by kernel_rfl
theorem fn14 : Sy.Fn Try.prog 14 [] (bv true) := by
  refine Fn_of_W mixed Xt14 rfl ?_
  have c15 := fn15 exM exF 0 2 exG
  have c34 := fn34 exM [0, 1] 500 exG (by decide)
  rw [ex_chV, ex_chE] at c15
  have e : rtC exM exF 0 2 (some ([0], 24)) = cRt [0, 1] [0] 24 120 := by
    show cRt (wayS exM exF 0 2 [0]) [0] 24 (minL exM (wayS exM exF 0 2 [0])) = _
    rw [ex_way, ex_min]
  rw [e] at c15
  unfold cRt at c15
  rw [ex_arV, ex_arE] at c34
  repeat' (first | refine w1g ?_ | refine w1l ?_ | refine w1q ?_ | refine w1b ?_ | refine w1p ?_ | ((first | refine w1r ?_ | refine w1k ?_ | refine w1e ?_ | refine CallC.now (fn51) ?_ | refine CallC.now (c15) ?_); (refine sy1 ?_; try exact True.intro)) | refine an2 ?_ | fail)
  repeat' (first | refine w1g ?_ | refine w1l ?_ | refine w1q ?_ | refine w1b ?_ | refine w1p ?_ | ((first | refine w1r ?_ | refine w1k ?_ | refine w1e ?_ | refine CallC.now (fn51) ?_); (refine sy1 ?_; try exact True.intro)) | refine an2 ?_ | fail)
  refine ⟨rfl, trivial, Int, 0, cI, [0, 1], rfl, by omega, fun x _ => ⟨rfl, rfl⟩, rfl, ?_⟩
  (refine sy1 ?_; try exact True.intro)
  repeat' (first | refine w1g ?_ | refine w1l ?_ | refine w1q ?_ | refine w1b ?_ | refine w1p ?_ | ((first | refine w1r ?_ | refine w1k ?_ | refine w1e ?_ | refine CallC.go _ (fun _ => ⟨trivial, c34⟩) rfl ?_); (refine sy1 ?_; try exact True.intro)) | refine an2 ?_ | fail)
  exact W_ret ⟨[_], ⟨rfl, rfl⟩, rfl⟩
end Go.Proofs.Ytfbdlmenhoagmaa

namespace Go.Proofs.Ytfbdlmenhoagmaa
open Go Sy
set_option linter.unusedVariables false
theorem Srt.more {n n' : Int} (hn : n ≤ n') : ∀ {l : List Int} {lo : Int}, Srt n lo l → Srt n' lo l
  | [], _, _ => trivial
  | x :: l, lo, h => ⟨h.1, by have := h.2.1; omega, Srt.more hn h.2.2⟩
end Go.Proofs.Ytfbdlmenhoagmaa

namespace Go.Proofs.Ytfbdlmenhoagmaa
open Go Sy
set_option maxRecDepth 100000
set_option maxHeartbeats 4000000
set_option linter.unusedVariables false
set_option linter.unusedSimpArgs false
structure Big (m : Mp) : Prop where
  r : m.rs.length ≤ 140737488355328
  w : m.ws.length ≤ 140737488355328
  s : ∀ w ∈ m.ws, w.rs.length ≤ 140737488355328
def validB (m : Mp) (f : Nat → Int) (fr to : Int) : Bool := !greatB m && chkM m == 0 && szE f == 0 && decide (0 ≤ fr) && decide (fr < m.n) && decide (0 ≤ to) && decide (to < m.n)
theorem fn13 (m : Mp) (f : Nat → Int) (fr to : Int) (h : Big m) : Sy.Fn Try.prog 13 [aM m, .agg (c6 f), iv fr, iv to] (bv (validB m f fr to)) := by
  refine Fn_of_W mixed Xt13 rfl ?_
  have c25 := fn25 m h.r h.w h.s
  have c29 := fn29 f
  unfold validB
  cases hg : greatB m
  · have c16 := fn16 m (great_no hg).1
    rw [hg] at c25
    generalize chkM m = E at *
    generalize szE f = F at *
    repeat' (first | refine w1g ?_ | refine w1l ?_ | refine w1q ?_ | refine w1b ?_ | refine w1p ?_ | ((first | refine w1r ?_ | refine w1k ?_ | refine w1e ?_ | refine CallC.now (c25) ?_ | refine CallC.go _ (fun _ => ⟨trivial, c16⟩) rfl ?_ | refine CallC.go _ (fun _ => ⟨trivial, c29⟩) rfl ?_); (refine sy1 ?_; try exact True.intro)) | refine an2 ?_ | fail)
    exact W_ret ⟨[_], ⟨rfl, rfl⟩, rfl⟩
  · rw [hg] at c25
    repeat' (first | refine w1g ?_ | refine w1l ?_ | refine w1q ?_ | refine w1b ?_ | refine w1p ?_ | ((first | refine w1r ?_ | refine w1k ?_ | refine w1e ?_ | refine CallC.now (c25) ?_ | refine CallC.go _ (fun _ => ⟨trivial, c29⟩) rfl ?_); (refine sy1 ?_; try exact True.intro)) | refine an2 ?_ | (refine CallC.go (iv 0) (fun hpc => absurd hpc (by simp [pc])) rfl ?_; (refine sy1 ?_; try exact True.intro)) | fail)
    exact W_ret ⟨[_], ⟨rfl, rfl⟩, rfl⟩
structure Val (m : Mp) (f : Nat → Int) (fr to : Int) : Prop where
  g : greatB m = false
  c : chkM m = 0
  z : szE f = 0
  f : 0 ≤ fr ∧ fr < m.n
  t : 0 ≤ to ∧ to < m.n
theorem val_of {m : Mp} {f : Nat → Int} {fr to : Int} (h : validB m f fr to = true) : Val m f fr to := by
  unfold validB at h
  simp only [Bool.and_eq_true, Bool.not_eq_true', decide_eq_true_eq, beq_iff_eq] at h
  obtain ⟨⟨⟨⟨⟨⟨h1, h2⟩, h3⟩, h4⟩, h5⟩, h6⟩, h7⟩ := h
  exact ⟨h1, h2, h3, ⟨h4, h5⟩, ⟨h6, h7⟩⟩
theorem Val.gm {m : Mp} {f : Nat → Int} {fr to : Int} (h : Val m f fr to) : Gm m := (great_no h.g).1
theorem Val.ok {m : Mp} {f : Nat → Int} {fr to : Int} (h : Val m f fr to) : OkM m := chkM_ok h.c
theorem Val.op {m : Mp} {f : Nat → Int} {fr to : Int} (h : Val m f fr to) : opE m f = 0 := by unfold opE; rw [if_pos h.c]; exact h.z
theorem plB_of {n x : Int} (h : 0 ≤ x ∧ x < n) : plB n x = true := by unfold plB; rw [decide_eq_true h.1, decide_eq_true h.2]; rfl
theorem Val.cv {m : Mp} {f : Nat → Int} {fr to : Int} (h : Val m f fr to) : chV m f fr to = bestS m f fr to := by unfold chV; rw [if_pos h.op, if_pos ⟨plB_of h.f, plB_of h.t⟩]
end Go.Proofs.Ytfbdlmenhoagmaa

namespace Go.Proofs.Ytfbdlmenhoagmaa
open Go Sy
set_option maxRecDepth 100000
set_option linter.unusedVariables false
theorem i64_wf {n : Int} (h : (Lit.int .i64 n).wf = true) : -9223372036854775808 ≤ n ∧ n ≤ 9223372036854775807 := by
  simp [Lit.wf, IntKind.min, IntKind.max, IntKind.bits, IntKind.signed] at h
  omega
abbrev I64 (n : Int) : Prop := -9223372036854775808 ≤ n ∧ n ≤ 9223372036854775807
theorem y2 : Try.prog.cellsOf 2 = 1 := by kernel_rfl
theorem y3 : Try.prog.cellsOf 3 = 1 := by kernel_rfl
theorem y22 : Try.prog.cellsOf 22 = 1 := by kernel_rfl
theorem y23 : Try.prog.cellsOf 23 = 1 := by kernel_rfl
theorem y26 : Try.prog.cellsOf 26 = 6 := by kernel_rfl
theorem y27 : Try.prog.cellsOf 27 = 1 := by kernel_rfl
theorem y29 : Try.prog.cellsOf 29 = 4 := by kernel_rfl
theorem y67 : Try.prog.cellsOf 67 = 12 := by kernel_rfl
theorem b2 : Try.prog.bytesOf 2 = 8 := by kernel_rfl
theorem b3 : Try.prog.bytesOf 3 = 8 := by kernel_rfl
theorem b29 : Try.prog.bytesOf 29 = 48 := by kernel_rfl
theorem b67 : Try.prog.bytesOf 67 = 96 := by kernel_rfl
theorem k2 : Codec Try.prog 2 (fun n : Int => [iv n]) I64 := (Codec.int Try.underlying2).map id (fun _ => rfl) (fun _ h => i64_wf h)
theorem k3 : Codec Try.prog 3 (fun n : Int => [iv n]) I64 := (Codec.int Try.underlying3).map id (fun _ => rfl) (fun _ h => i64_wf h)
theorem k27 : Codec Try.prog 27 (fun l : List Int => [aI l]) (fun l => l.length * 8 ≤ 140737488351232) :=
  (Codec.slice Try.underlying27 (by rw [y3]; decide) y3 b3 0 k3).map id (fun _ => rfl) (fun _ h => h.1)
def szOf (x : Int × Int × Int × Int × Int × Int × Unit) : Nat → Int
  | 0 => x.1
  | 1 => x.2.1
  | 2 => x.2.2.1
  | 3 => x.2.2.2.1
  | 4 => x.2.2.2.2.1
  | _ => x.2.2.2.2.2.1
theorem k26 : Codec Try.prog 26 c6 (fun f => ∀ k, k < 6 → I64 (f k)) :=
  (Codec.array Try.underlying26 y2 (by kernel_rfl) (by kernel_rfl) (Parts.cons k2 y2 (Parts.cons k2 y2 (Parts.cons k2 y2 (Parts.cons k2 y2 (Parts.cons k2 y2 (Parts.cons k2 y2 Parts.nil))))))).map szOf (fun _ => rfl) (fun x h k hk => by
    obtain ⟨h0, h1, h2, h3, h4, h5, _⟩ := h
    have : k = 0 ∨ k = 1 ∨ k = 2 ∨ k = 3 ∨ k = 4 ∨ k = 5 := by omega
    rcases this with rfl | rfl | rfl | rfl | rfl | rfl <;> assumption)
theorem k67 : Codec Try.prog 67 cR (fun _ => True) :=
  (Codec.struct Try.underlying67 (by kernel_rfl) (by kernel_rfl) (Parts.cons k3 y3 (Parts.cons k3 y3 (Parts.cons k2 y2 (Parts.cons k2 y2 (Parts.cons k2 y2 (Parts.cons k2 y2 (Parts.cons k26 y26 Parts.nil)))))))).map
    (fun x => ⟨x.1, x.2.1, x.2.2.1, x.2.2.2.1, x.2.2.2.2.1, x.2.2.2.2.2.1, x.2.2.2.2.2.2.1 0, x.2.2.2.2.2.2.1 1, x.2.2.2.2.2.2.1 2, x.2.2.2.2.2.2.1 3, x.2.2.2.2.2.2.1 4, x.2.2.2.2.2.2.1 5⟩) (fun _ => rfl) (fun _ _ => trivial)
theorem k22 : Codec Try.prog 22 (fun l : List Rd => [aR l]) (fun l => l.length * 96 ≤ 140737488351232) :=
  (Codec.slice Try.underlying22 (by rw [y67]; decide) y67 b67 dR k67).map id (fun _ => rfl) (fun _ h => h.1)
abbrev OW (w : Wrk) : Prop := w.rs.length * 8 ≤ 140737488351232
theorem k29 : Codec Try.prog 29 cW OW :=
  (Codec.struct Try.underlying29 (by kernel_rfl) (by kernel_rfl) (Parts.cons k27 y27 (Parts.cons k3 y3 (Parts.cons k2 y2 (Parts.cons k2 y2 Parts.nil))))).map
    (fun x => ⟨x.1, x.2.1, x.2.2.1, x.2.2.2.1⟩) (fun _ => rfl) (fun _ h => h.1)
theorem k23 : Codec Try.prog 23 (fun l : List Wrk => [aW l]) (fun l => l.length * 48 ≤ 140737488351232 ∧ ∀ w ∈ l, OW w) :=
  (Codec.slice Try.underlying23 (by rw [y29]; decide) y29 b29 dW k29).map id (fun _ => rfl) (fun _ h => ⟨h.1, h.2.2⟩)
structure OM (m : Mp) : Prop where
  r : m.rs.length * 96 ≤ 140737488351232
  w : m.ws.length * 48 ≤ 140737488351232
  s : ∀ w ∈ m.ws, OW w
theorem k25 : Codec Try.prog 25 cM OM :=
  (Codec.struct Try.underlying25 (by kernel_rfl) (by kernel_rfl) (Parts.cons k3 y3 (Parts.cons k22 y22 (Parts.cons k23 y23 Parts.nil)))).map
    (fun x => ⟨x.1, x.2.1, x.2.2.1⟩) (fun _ => rfl) (fun _ h => ⟨h.2.1, h.2.2.1.1, h.2.2.1.2⟩)
theorem OM.big {m : Mp} (h : OM m) : Big m := ⟨by have := h.r; omega, by have := h.w; omega, fun w hw => by have := h.s w hw; omega⟩
end Go.Proofs.Ytfbdlmenhoagmaa

namespace Go.Proofs.Ytfbdlmenhoagmaa
open Go Sy
set_option linter.unusedVariables false
def evL (n : Nat) : List Int := (List.range n).map fun i : Nat => (i : Int)
theorem setB_at {l : List Int} {n : Int} (h : setB l n = true) : ∀ i, i < l.length → lastI l i < gi l i ∧ gi l i < n := fun i hi => by
  unfold setB at h
  rw [List.all_eq_true] at h
  have := h i (List.mem_range.2 hi)
  unfold okAt at this
  rwa [Bool.and_eq_true, decide_eq_true_eq, decide_eq_true_eq] at this
theorem srt_of {n : Int} : ∀ (l : List Int) (lo : Int), (∀ i, i < l.length → (if i = 0 then lo - 1 else gi l (i - 1)) < gi l i ∧ gi l i < n) → Srt n lo l
  | [], lo, _ => trivial
  | x :: l, lo, h => by
    have h0 := h 0 (by simp)
    rw [if_pos rfl] at h0
    have e0 : gi (x :: l) 0 = x := rfl
    rw [e0] at h0
    refine ⟨by omega, h0.2, srt_of l (x + 1) (fun i hi => ?_)⟩
    have h1 := h (i + 1) (by simpa using hi)
    rw [if_neg (by omega)] at h1
    have e1 : gi (x :: l) (i + 1) = gi l i := by simp [gi]
    rw [e1] at h1
    by_cases q : i = 0
    · rw [if_pos q]
      subst q
      have e2 : gi (x :: l) (0 + 1 - 1) = x := rfl
      rw [e2] at h1
      exact ⟨by omega, h1.2⟩
    · rw [if_neg q]
      have e2 : gi (x :: l) (i + 1 - 1) = gi l (i - 1) := by
        obtain ⟨j, rfl⟩ : ∃ j, i = j + 1 := ⟨i - 1, by omega⟩
        simp [gi]
      rw [e2] at h1
      exact h1
theorem setB_srt {l : List Int} {n : Int} (h : setB l n = true) : Srt n 0 l := srt_of l 0 (fun i hi => by
  have := setB_at h i hi
  unfold lastI at this
  split <;> rename_i q
  · rw [if_pos q] at this; omega
  · rw [if_neg q] at this; exact this)
theorem Wk.pre {es : List Edg} {e : Edg} (he : e ∈ es) (hc : 0 ≤ e.c) {y : Nat} {d : Int} (h : Wk es e.y y d) : Wk es e.x y (e.c + d) := by
  induction h with
  | nil => rw [show e.c + 0 = 0 + e.c by omega]; exact .snoc .nil he hc
  | snoc _ h2 h3 ih => rw [← Int.add_assoc]; exact .snoc ih h2 h3
end Go.Proofs.Ytfbdlmenhoagmaa

namespace Go.Proofs.Ytfbdlmenhoagmaa
open Go Sy
set_option maxRecDepth 100000
set_option maxHeartbeats 4000000
set_option linter.unusedVariables false
set_option linter.unusedSimpArgs false
theorem fn76 (l : List Int) (n : Nat) (hn : n ≤ 10) (hs : Srt n 0 l) : Sy.Fn Try.prog 76 [aI l] (uv (msk l)) := by
  refine Fn_of_W mixed Xt76 rfl ?_
  have hl := hs.len (by omega)
  repeat' (first | refine w1g ?_ | refine w1l ?_ | refine w1q ?_ | refine w1b ?_ | refine w1p ?_ | ((first | refine w1r ?_ | refine w1k ?_ | refine w1e ?_); (refine sy1 ?_; try exact True.intro)) | refine an2 ?_ | fail)
  refine W_loopU (fun i : Nat => [(3, uv (msk (l.take i))), (8, iv i)]) (fun i => []) (fun i => i ≤ l.length) (fun i => l.length - i) 0 (by omega) (by rfl) (by rfl) (fun i hi => ?_)
  (refine sy1 ?_; try exact True.intro)
  repeat' (first | refine w1g ?_ | refine w1l ?_ | refine w1q ?_ | refine w1b ?_ | refine w1p ?_ | ((first | refine w1r ?_ | refine w1k ?_ | refine w1e ?_); (refine sy1 ?_; try exact True.intro)) | refine an2 ?_ | fail)
  refine W_condD (by rfl) (fun h5 => ?_) (fun h5 => ?_)
  · have hlt : i < l.length := by omega
    have hm := hs.mem _ (getD_mem 0 l i hlt)
    obtain ⟨j, hj⟩ : ∃ j : Nat, l.getD i 0 = j := ⟨(l.getD i 0).toNat, by omega⟩
    have htk : l.take (i + 1) = l.take i ++ [(j : Int)] := by rw [take_snoc hlt]; show _ = _; rw [← hj]
    have e5 := or_msk (x := l.take i) (j := j) (by
      have h1 : ∀ x ∈ l.take i, 0 ≤ x ∧ x < n := fun x hx => hs.mem x (List.mem_of_mem_take hx)
      have := bits_lt (n := 10) (msk_bits fun x hx => (h1 x hx).1) (fun x hx => by have := h1 x hx; omega)
      simpa using this) (by omega)
    rw [← htk] at e5
    repeat' (first | refine w1g ?_ | refine w1l ?_ | refine w1q ?_ | refine w1b ?_ | refine w1p ?_ | ((first | refine w1r ?_ | refine w1k ?_ | refine w1e ?_); simp (maxSteps := 400000) (disch := omega) only [push_cast, ↓reduceIte, reduceCtorEq, Nat.reduceAdd, Nat.reduceSub, Nat.reduceEqDiff, Nat.reduceLeDiff, Nat.reduceLT, Nat.reduceBEq, Nat.reduceDiv, Nat.reduceMod, Nat.reducePow, Nat.reduceMul, Int.reduceToNat, Int.reduceLT, Int.reduceLE, hj, e5, Int.toNat_natCast]) | refine an2 ?_ | fail)
    refine ⟨i + 1, by omega, by omega, by rfl, ?_⟩
    (refine syE ?_; try exact True.intro)
  · have hil : i = l.length := by omega
    subst hil
    rw [List.take_length]
    repeat' (first | refine w1g ?_ | refine w1l ?_ | refine w1q ?_ | refine w1b ?_ | refine w1p ?_ | ((first | refine w1r ?_ | refine w1k ?_ | refine w1e ?_); (refine sy1 ?_; try exact True.intro)) | refine an2 ?_ | fail)
    exact W_ret ⟨[_], ⟨rfl, rfl⟩, rfl⟩
end Go.Proofs.Ytfbdlmenhoagmaa

namespace Go.Proofs.Ytfbdlmenhoagmaa
open Go Sy
set_option maxRecDepth 100000
set_option maxHeartbeats 4000000
set_option linter.unusedVariables false
set_option linter.unusedSimpArgs false
def cB (x : Bool) : List AV := [bv x]
theorem nB (x : Bool) : nth (cB x) 0 = bv x := rfl
theorem lB (x : Bool) : (cB x).length = 1 := rfl
theorem frB (x : Bool) : frzAll (cB x) = true := rfl
theorem tB (x : Bool) : List.take 1 (List.drop 0 (cB x)) = cB x := rfl
attribute [push_cast] nB lB frB tB
abbrev aB (l : List Bool) : AV := .sl 1 false cB l
end Go.Proofs.Ytfbdlmenhoagmaa

namespace Go.Proofs.Ytfbdlmenhoagmaa
open Go Sy
set_option maxRecDepth 100000
set_option maxHeartbeats 4000000
set_option linter.unusedVariables false
set_option linter.unusedSimpArgs false
structure Cs where
  r : Int
  k : Int
  l : Int
  n : Int
def dC : Cs := ⟨0, 0, 0, 0⟩
def cC (c : Cs) : List AV := [iv c.r, iv c.k, iv c.l, iv c.n]
theorem lC (c : Cs) : (cC c).length = 4 := rfl
theorem frC (c : Cs) : frzAll (cC c) = true := rfl
theorem tC (c : Cs) : List.take 4 (List.drop 0 (cC c)) = cC c := rfl
theorem tC2 (c : Cs) : List.take 4 (cC c) = cC c := rfl
theorem iC {m : Nat → Option Blk} {n : Nat} (c : Cs) : List.flatMap (ids m n) (cC c) = [] := flat_frz n _ (frC c)
theorem vC {m : Nat → Option Blk} {n : Nat} (c : Cs) : List.map (view m n) (cC c) = cC c := viewL_frz n _ (frC c)
attribute [push_cast] lC frC tC tC2 iC vC
abbrev aC (l : List Cs) : AV := .sl 4 dC cC l
def cz1 (m : Mp) (f : Nat → Int) (s : List Int) (road k : Nat) : List Cs := if limL m s road k < f k then [⟨road, k, limL m s road k, f k⟩] else []
def czK (m : Mp) (f : Nat → Int) (s : List Int) (road n : Nat) : List Cs := (List.range n).flatMap (cz1 m f s road)
def czR (m : Mp) (f : Nat → Int) (s : List Int) (rs : List Int) : List Cs := rs.flatMap fun r => czK m f s r.toNat 6
theorem czK_succ (m : Mp) (f : Nat → Int) (s : List Int) (road n : Nat) : czK m f s road (n + 1) = czK m f s road n ++ cz1 m f s road n := by
  unfold czK
  rw [List.range_succ, List.flatMap_append]
  simp
theorem czR_snoc (m : Mp) (f : Nat → Int) (s : List Int) (rs : List Int) (r : Int) : czR m f s (rs ++ [r]) = czR m f s rs ++ czK m f s r.toNat 6 := by
  unfold czR
  rw [List.flatMap_append]
  simp
theorem czK_len (m : Mp) (f : Nat → Int) (s : List Int) (road : Nat) : ∀ n, (czK m f s road n).length ≤ n
  | 0 => by simp [czK]
  | n + 1 => by
    rw [czK_succ, List.length_append]
    have := czK_len m f s road n
    have : (cz1 m f s road n).length ≤ 1 := by unfold cz1; split <;> simp
    omega
theorem czR_len (m : Mp) (f : Nat → Int) (s : List Int) : ∀ rs : List Int, (czR m f s rs).length ≤ 6 * rs.length
  | [] => by simp [czR]
  | r :: rs => by
    have h1 := czR_len m f s rs
    have h2 := czK_len m f s r.toNat 6
    have e : czR m f s (r :: rs) = czK m f s r.toNat 6 ++ czR m f s rs := rfl
    rw [e, List.length_append, List.length_cons]
    omega
def csE (m : Mp) (f : Nat → Int) (s rs : List Int) : Int := if opE m f = 0 then (if setB s m.ws.length = true then rdE m rs else 3) else opE m f
def csV (m : Mp) (f : Nat → Int) (s rs : List Int) : List Cs := if csE m f s rs = 0 then czR m f s rs else []
theorem fn20 (m : Mp) (f : Nat → Int) (s rs : List Int) (hm : Gm m) (hl : s.length ≤ 1000000) (hl2 : rs.length ≤ 1000000) : Sy.Fn Try.prog 20 [aM m, .agg (c6 f), aI s, aI rs] (.tup [aC (csV m f s rs), iv (csE m f s rs)]) := by
  refine Fn_of_W mixed Xt20 rfl ?_
  have c52 := fn52 m f hm
  by_cases h0 : opE m f = 0
  rotate_left
  · have e1 : csE m f s rs = opE m f := by unfold csE; rw [if_neg h0]
    have e2 : csV m f s rs = [] := by unfold csV; rw [e1, if_neg h0]
    rw [e1, e2]
    have hv : opV m f = cAt m f ∨ opV m f = zAt := by
      unfold opV
      split
      · exact .inl rfl
      · exact .inr rfl
    generalize opE m f = e at *
    rcases hv with hv | hv
    all_goals
      rw [hv] at c52
      try unfold zAt at c52
      repeat' (first | refine w1g ?_ | refine w1l ?_ | refine w1q ?_ | refine w1b ?_ | refine w1p ?_ | ((first | refine w1r ?_ | refine w1k ?_ | refine w1e ?_ | refine CallC.now (c52) ?_); (refine sy1 ?_; try exact True.intro)) | refine an2 ?_ | fail)
      refine W_cond (by rfl) (fun h => ?_) (fun h => ?_)
      · repeat' (first | refine w1g ?_ | refine w1l ?_ | refine w1q ?_ | refine w1b ?_ | refine w1p ?_ | ((first | refine w1r ?_ | refine w1k ?_ | refine w1e ?_); (refine sy1 ?_; try exact True.intro)) | refine an2 ?_ | fail)
        refine W_le (le_nil 8 4 dC cC rfl) ?_
        exact W_ret ⟨[_, _], ⟨rfl, rfl, rfl⟩, rfl⟩
      · exact absurd (by simpa using h) h0
  have hchk : chkM m = 0 ∧ szE f = 0 := by
    unfold opE at h0
    by_cases q : chkM m = 0
    · rw [if_pos q] at h0; exact ⟨q, h0⟩
    · rw [if_neg q] at h0; exact absurd h0 q
  have hv : opV m f = cAt m f := by unfold opV; rw [if_pos hchk.1]
  have hok := chkM_ok hchk.1
  rw [hv, h0] at c52
  repeat' (first | refine w1g ?_ | refine w1l ?_ | refine w1q ?_ | refine w1b ?_ | refine w1p ?_ | ((first | refine w1r ?_ | refine w1k ?_ | refine w1e ?_ | refine CallC.now (c52) ?_); (refine sy1 ?_; try exact True.intro)) | refine an2 ?_ | fail)
  refine W_cond (by rfl) (fun h => by cases h) (fun h => ?_)
  have c73 := fn73 s m.ws.length (by omega)
  by_cases h1 : setB s m.ws.length = true
  rotate_left
  · have e1 : csE m f s rs = 3 := by unfold csE; rw [if_pos h0, if_neg h1]
    have e2 : csV m f s rs = [] := by unfold csV; rw [e1]; rfl
    rw [Bool.not_eq_true] at h1
    rw [h1] at c73
    rw [e1, e2]
    repeat' (first | refine w1g ?_ | refine w1l ?_ | refine w1q ?_ | refine w1b ?_ | refine w1p ?_ | ((first | refine w1r ?_ | refine w1k ?_ | refine w1e ?_ | refine CallC.now (c73) ?_); (refine sy1 ?_; try exact True.intro)) | refine an2 ?_ | fail)
    refine W_cond (by rfl) (fun h => ?_) (fun h => by cases h)
    repeat' (first | refine w1g ?_ | refine w1l ?_ | refine w1q ?_ | refine w1b ?_ | refine w1p ?_ | ((first | refine w1r ?_ | refine w1k ?_ | refine w1e ?_); (refine sy1 ?_; try exact True.intro)) | refine an2 ?_ | fail)
    refine W_le (le_nil 8 4 dC cC rfl) ?_
    exact W_ret ⟨[_, _], ⟨rfl, rfl, rfl⟩, rfl⟩
  rw [h1] at c73
  have hss := setB_srt h1
  repeat' (first | refine w1g ?_ | refine w1l ?_ | refine w1q ?_ | refine w1b ?_ | refine w1p ?_ | ((first | refine w1r ?_ | refine w1k ?_ | refine w1e ?_ | refine CallC.now (c73) ?_); (refine sy1 ?_; try exact True.intro)) | refine an2 ?_ | fail)
  refine W_cond (by rfl) (fun h => by cases h) (fun h => ?_)
  have c68 := fn68 m rs hl2
  have e0 : csE m f s rs = rdE m rs := by unfold csE; rw [if_pos h0, if_pos h1]
  by_cases h2 : rdE m rs = 0
  rotate_left
  · have e2 : csV m f s rs = [] := by unfold csV; rw [e0, if_neg h2]
    rw [e0, e2]
    generalize rdE m rs = e at *
    repeat' (first | refine w1g ?_ | refine w1l ?_ | refine w1q ?_ | refine w1b ?_ | refine w1p ?_ | ((first | refine w1r ?_ | refine w1k ?_ | refine w1e ?_ | refine CallC.now (c68) ?_); (refine sy1 ?_; try exact True.intro)) | refine an2 ?_ | fail)
    refine W_cond (by rfl) (fun h => ?_) (fun h => ?_)
    · repeat' (first | refine w1g ?_ | refine w1l ?_ | refine w1q ?_ | refine w1b ?_ | refine w1p ?_ | ((first | refine w1r ?_ | refine w1k ?_ | refine w1e ?_); (refine sy1 ?_; try exact True.intro)) | refine an2 ?_ | fail)
      refine W_le (le_nil 8 4 dC cC rfl) ?_
      exact W_ret ⟨[_, _], ⟨rfl, rfl, rfl⟩, rfl⟩
    · exact absurd (by simpa using h) h2
  obtain ⟨hl3, hlr⟩ := rdE_ok h2
  rw [h2] at c68 e0
  have e2 : csV m f s rs = czR m f s rs := by unfold csV; rw [if_pos e0]
  rw [e0, e2]
  repeat' (first | refine w1g ?_ | refine w1l ?_ | refine w1q ?_ | refine w1b ?_ | refine w1p ?_ | ((first | refine w1r ?_ | refine w1k ?_ | refine w1e ?_ | refine CallC.now (c68) ?_); (refine sy1 ?_; try exact True.intro)) | refine an2 ?_ | fail)
  refine W_cond (by rfl) (fun h => by cases h) (fun h => ?_)
  repeat' (first | refine w1g ?_ | refine w1l ?_ | refine w1q ?_ | refine w1b ?_ | refine w1p ?_ | ((first | refine w1r ?_ | refine w1k ?_ | refine w1e ?_); (refine sy1 ?_; try exact True.intro)) | refine an2 ?_ | fail)
  refine W_le (le_adopt 13 57 4 dC cC (by omega) rfl) ?_
  (refine sy1 ?_; try exact True.intro)
  refine W_loopU (fun i : Nat => [(13, .row 31 (czR m f s (rs.take i)).length), (39, iv i)]) (fun i => [(31, .row (czR m f s (rs.take i)).length 57 4 dC cC (czR m f s (rs.take i)))]) (fun i => i ≤ rs.length) (fun i => rs.length - i) 0 (by omega) (by rfl) (by rfl) (fun i hi => ?_)
  have hcl := czR_len m f s (rs.take i)
  have htl : (rs.take i).length = i := by rw [List.length_take]; omega
  rw [htl] at hcl
  (refine sy1 ?_; try exact True.intro)
  repeat' (first | refine w1g ?_ | refine w1l ?_ | refine w1q ?_ | refine w1b ?_ | refine w1p ?_ | ((first | refine w1r ?_ | refine w1k ?_ | refine w1e ?_); (refine sy1 ?_; try exact True.intro)) | refine an2 ?_ | fail)
  refine W_condD (by rfl) (fun h5 => ?_) (fun h5 => ?_)
  rotate_left
  · have hil : i = rs.length := by omega
    rw [hil, List.take_length]
    repeat' (first | refine w1g ?_ | refine w1l ?_ | refine w1q ?_ | refine w1b ?_ | refine w1p ?_ | ((first | refine w1r ?_ | refine w1k ?_ | refine w1e ?_); (refine sy1 ?_; try exact True.intro)) | refine an2 ?_ | fail)
    refine W_ret ⟨[_, _], ⟨rfl, rfl, rfl⟩, ?_⟩
    simp (maxSteps := 400000) (disch := omega) only [push_cast, ↓reduceIte, reduceCtorEq, Nat.reduceAdd, Nat.reduceSub, Nat.reduceEqDiff, Nat.reduceLeDiff, Nat.reduceLT, Nat.reduceBEq, Nat.reduceDiv, Nat.reduceMod, Nat.reducePow, Nat.reduceMul, Int.reduceToNat, Int.reduceLT, Int.reduceLE, pack]
  have hlt : i < rs.length := by omega
  have hsn : czR m f s (rs.take (i + 1)) = czR m f s (rs.take i) ++ czK m f s (gi rs i).toNat 6 := by rw [take_snoc hlt, czR_snoc]
  obtain ⟨road, hrd⟩ : ∃ road : Nat, gi rs i = road := ⟨(gi rs i).toNat, by have := hlr i hlt; omega⟩
  have hrl : road < m.rs.length := by have := hlr i hlt; omega
  rw [hrd, Int.toNat_natCast] at hsn
  have hrd2 : rs.getD i 0 = (road : Int) := hrd
  generalize czR m f s (rs.take i) = X at *
  repeat' (first | refine w1g ?_ | refine w1l ?_ | refine w1q ?_ | refine w1b ?_ | refine w1p ?_ | ((first | refine W_regS 6 (by decide) (by decide) ?_ | refine w1r ?_ | refine w1k ?_ | refine w1e ?_ | refine CallC.now (fn76 s m.ws.length hok.nw hss) ?_ | refine CallC.now (fn75 m f (msk s) road) ?_); simp (maxSteps := 400000) (disch := omega) only [push_cast, ↓reduceIte, reduceCtorEq, Nat.reduceAdd, Nat.reduceSub, Nat.reduceEqDiff, Nat.reduceLeDiff, Nat.reduceLT, Nat.reduceBEq, Nat.reduceDiv, Nat.reduceMod, Nat.reducePow, Nat.reduceMul, Int.reduceToNat, Int.reduceLT, Int.reduceLE, hrd2]) | refine an2 ?_ | fail)
  refine CallC.inl (Inl_of_W mixed Xt74 rfl (fun vs => ?_))
  (refine sy1 ?_; try exact True.intro)
  repeat' (first | refine w1g ?_ | refine w1l ?_ | refine w1q ?_ | refine w1b ?_ | refine w1p ?_ | ((first | refine w1r ?_ | refine w1k ?_ | refine w1e ?_); (refine sy1 ?_; try exact True.intro)) | refine an2 ?_ | fail)
  refine W_rfn (.inl rfl) (fun lp R hR => Inl_of_W mixed Xt121 rfl (fun vs2 => ?_))
  (refine sy1 ?_; try exact True.intro)
  repeat' (first | refine w1g ?_ | refine w1l ?_ | refine w1q ?_ | refine w1b ?_ | refine w1p ?_ | ((first | refine w1r ?_ | refine w1k ?_ | refine w1e ?_); (refine sy1 ?_; try exact True.intro)) | refine an2 ?_ | fail)
  refine W_loopU (fun k : Nat => [(10, iv k)]) (fun k => [(43, .cells [.row 31 (X ++ czK m f s road k).length]), (31, .row (X ++ czK m f s road k).length 57 4 dC cC (X ++ czK m f s road k))]) (fun k => k ≤ 6) (fun k => 6 - k) 0 (by omega) (by rfl) (by simp only [czK, List.range_zero, List.flatMap_nil, List.append_nil]; rfl) (fun k hk => ?_)
  have hkl := czK_len m f s road k
  have hks := czK_succ m f s road k
  have hal : (X ++ czK m f s road k).length ≤ 1000000 := by rw [List.length_append]; omega
  (refine sy1 ?_; try exact True.intro)
  repeat' (first | refine w1g ?_ | refine w1l ?_ | refine w1q ?_ | refine w1b ?_ | refine w1p ?_ | ((first | refine w1r ?_ | refine w1k ?_ | refine w1e ?_); (refine sy1 ?_; try exact True.intro)) | refine an2 ?_ | fail)
  refine W_condD (by rfl) (fun h6 => ?_) (fun h6 => ?_)
  · have hk6 : k < 6 := by omega
    have c122 := fn122 m f s (msk s) road k hok (setW_msk hss) hrl hk6
    have ez : cz1 m f s road k = if limL m s road k < f k then [⟨road, k, limL m s road k, f k⟩] else [] := rfl
    obtain ⟨n, hnl⟩ : ∃ n, n = limL m s road k := ⟨_, rfl⟩
    rw [← hnl] at c122 ez
    have hys : X ++ czK m f s road (k + 1) = (X ++ czK m f s road k) ++ cz1 m f s road k := by rw [hks, List.append_assoc]
    generalize X ++ czK m f s road k = Y at *
    by_cases q : n < f k
    · have qb : decide (n < f k) = true := decide_eq_true q
      rw [if_pos q] at ez
      repeat' (first | refine w1g ?_ | refine w1l ?_ | refine w1q ?_ | refine w1b ?_ | refine w1p ?_ | ((first | refine w1r ?_ | refine w1k ?_ | refine w1e ?_ | refine CallC.now (c122) ?_); simp (maxSteps := 400000) (disch := omega) only [push_cast, ↓reduceIte, reduceCtorEq, Nat.reduceAdd, Nat.reduceSub, Nat.reduceEqDiff, Nat.reduceLeDiff, Nat.reduceLT, Nat.reduceBEq, Nat.reduceDiv, Nat.reduceMod, Nat.reducePow, Nat.reduceMul, Int.reduceToNat, Int.reduceLT, Int.reduceLE, Nat.mul_one, Nat.zero_add, qb]) | refine an2 ?_ | fail)
      refine StopC.yld (fun hpc => ⟨trivial, Yl_of_W (k := 46) mixed hR rfl rfl rfl (fun vs3 => ?_)⟩) (fun hpc => absurd (by simp [pc]) hpc)
      (refine sy1 ?_; try exact True.intro)
      repeat' (first | refine w1g ?_ | refine w1l ?_ | refine w1q ?_ | refine w1b ?_ | refine w1p ?_ | ((first | refine w1r ?_ | refine w1k ?_ | refine w1e ?_); (refine sy1 ?_; try exact True.intro)) | refine an2 ?_ | fail)
      refine ⟨_, rfl, ?_⟩
      (refine sy1 ?_; try exact True.intro)
      repeat' (first | refine w1g ?_ | refine w1l ?_ | refine w1q ?_ | refine w1b ?_ | refine w1p ?_ | ((first | refine w1r ?_ | refine w1k ?_ | refine w1e ?_); (refine sy1 ?_; try exact True.intro)) | refine an2 ?_ | fail)
      refine ⟨rfl, trivial, Cs, dC, cC, [⟨road, k, n, f k⟩], rfl, by omega, fun x _ => ⟨rfl, rfl⟩, rfl, ?_⟩
      (refine sy1 ?_; try exact True.intro)
      refine ⟨rfl, ⟨Nat.le_of_ble_eq_true rfl, rfl⟩, trivial, [(⟨road, k, n, f k⟩ : Cs)], rfl, by first | omega | (simp; omega), by first | omega | (simp; omega), ?_⟩
      (refine sy1 ?_; try exact True.intro)
      repeat' (first | refine w1g ?_ | refine w1l ?_ | refine w1q ?_ | refine w1b ?_ | refine w1p ?_ | ((first | refine w1r ?_ | refine w1k ?_ | refine w1e ?_); (refine sy1 ?_; try exact True.intro)) | refine an2 ?_ | fail)
      refine ⟨_, _, rfl, rfl, ?_⟩
      (refine sy1 ?_; try exact True.intro)
      repeat' (first | refine w1g ?_ | refine w1l ?_ | refine w1q ?_ | refine w1b ?_ | refine w1p ?_ | ((first | refine w1r ?_ | refine w1k ?_ | refine w1e ?_); (refine sy1 ?_; try exact True.intro)) | refine an2 ?_ | fail)
      refine W_cond (by rfl) (fun h => by cases h) (fun _ => ?_)
      repeat' (first | refine w1g ?_ | refine w1l ?_ | refine w1q ?_ | refine w1b ?_ | refine w1p ?_ | ((first | refine w1r ?_ | refine w1k ?_ | refine w1e ?_); (refine sy1 ?_; try exact True.intro)) | refine an2 ?_ | fail)
      refine ⟨k + 1, by omega, by omega, by rfl, ?_⟩
      rw [hys, ez, List.length_append]
      (refine syE ?_; try exact True.intro)
    · have qb : decide (n < f k) = false := decide_eq_false q
      rw [if_neg q] at ez
      repeat' (first | refine w1g ?_ | refine w1l ?_ | refine w1q ?_ | refine w1b ?_ | refine w1p ?_ | ((first | refine w1r ?_ | refine w1k ?_ | refine w1e ?_ | refine CallC.now (c122) ?_); simp (maxSteps := 400000) (disch := omega) only [push_cast, ↓reduceIte, reduceCtorEq, Nat.reduceAdd, Nat.reduceSub, Nat.reduceEqDiff, Nat.reduceLeDiff, Nat.reduceLT, Nat.reduceBEq, Nat.reduceDiv, Nat.reduceMod, Nat.reducePow, Nat.reduceMul, Int.reduceToNat, Int.reduceLT, Int.reduceLE, Nat.mul_one, Nat.zero_add, qb]) | refine an2 ?_ | fail)
      refine StopC.yld (fun hpc => absurd hpc (by simp [pc])) (fun hpc => ?_)
      (refine sy1 ?_; try exact True.intro)
      repeat' (first | refine w1g ?_ | refine w1l ?_ | refine w1q ?_ | refine w1b ?_ | refine w1p ?_ | ((first | refine w1r ?_ | refine w1k ?_ | refine w1e ?_); (refine sy1 ?_; try exact True.intro)) | refine an2 ?_ | fail)
      refine W_cond (by rfl) (fun h => by cases h) (fun _ => ?_)
      repeat' (first | refine w1g ?_ | refine w1l ?_ | refine w1q ?_ | refine w1b ?_ | refine w1p ?_ | ((first | refine w1r ?_ | refine w1k ?_ | refine w1e ?_); (refine sy1 ?_; try exact True.intro)) | refine an2 ?_ | fail)
      refine ⟨k + 1, by omega, by omega, by rfl, ?_⟩
      rw [hys, ez, List.append_nil]
      (refine syE ?_; try exact True.intro)
  · have hk6 : k = 6 := by omega
    subst hk6
    rw [← hsn]
    rw [← hsn] at hal
    repeat' (first | refine w1g ?_ | refine w1l ?_ | refine w1q ?_ | refine w1b ?_ | refine w1p ?_ | ((first | refine w1r ?_ | refine w1k ?_ | refine w1e ?_); (refine sy1 ?_; try exact True.intro)) | refine an2 ?_ | fail)
    refine ⟨_, _, rfl, rfl, ⟨_, _, rfl, by rw [hR.st]; simp, ?_⟩⟩
    rw [hR.pe]
    simp (maxSteps := 400000) (disch := omega) only [push_cast, ↓reduceIte, reduceCtorEq, Nat.reduceAdd, Nat.reduceSub, Nat.reduceEqDiff, Nat.reduceLeDiff, Nat.reduceLT, Nat.reduceBEq, Nat.reduceDiv, Nat.reduceMod, Nat.reducePow, Nat.reduceMul, Int.reduceToNat, Int.reduceLT, Int.reduceLE, EndP]
    repeat' (first | refine w1g ?_ | refine w1l ?_ | refine w1q ?_ | refine w1b ?_ | refine w1p ?_ | ((first | refine w1r ?_ | refine w1k ?_ | refine w1e ?_); (refine sy1 ?_; try exact True.intro)) | refine an2 ?_ | fail)
    refine W_ret ⟨[_], _, ⟨rfl, rfl⟩, rfl, ?_⟩
    simp (maxSteps := 400000) (disch := omega) only [push_cast, ↓reduceIte, reduceCtorEq, Nat.reduceAdd, Nat.reduceSub, Nat.reduceEqDiff, Nat.reduceLeDiff, Nat.reduceLT, Nat.reduceBEq, Nat.reduceDiv, Nat.reduceMod, Nat.reducePow, Nat.reduceMul, Int.reduceToNat, Int.reduceLT, Int.reduceLE, pack]
    repeat' (first | refine w1g ?_ | refine w1l ?_ | refine w1q ?_ | refine w1b ?_ | refine w1p ?_ | ((first | refine w1r ?_ | refine w1k ?_ | refine w1e ?_); (refine sy1 ?_; try exact True.intro)) | refine an2 ?_ | fail)
    refine ⟨i + 1, by omega, by omega, by rfl, ?_⟩
    (refine syE ?_; try exact True.intro)
end Go.Proofs.Ytfbdlmenhoagmaa

namespace Go.Proofs.Ytfbdlmenhoagmaa
open Go Sy
set_option maxRecDepth 100000
set_option maxHeartbeats 4000000
set_option linter.unusedVariables false
set_option linter.unusedSimpArgs false
def cL (l : List Int) : List AV := [aI l]
theorem nL (l : List Int) : nth (cL l) 0 = aI l := rfl
theorem lL (l : List Int) : (cL l).length = 1 := rfl
theorem frL (l : List Int) : frzAll (cL l) = true := rfl
theorem tL (l : List Int) : List.take 1 (List.drop 0 (cL l)) = cL l := rfl
attribute [push_cast] nL lL frL tL
abbrev aL (l : List (List Int)) : AV := .sl 1 [] cL l
end Go.Proofs.Ytfbdlmenhoagmaa

namespace Go.Proofs.Ytfbdlmenhoagmaa
open Go Sy
set_option maxRecDepth 100000
set_option maxHeartbeats 4000000
set_option linter.unusedVariables false
set_option linter.unusedSimpArgs false
def sumR (m : Mp) (l : List Int) : Int := l.foldl (fun n x => n + (gr m x.toNat).c) 0
end Go.Proofs.Ytfbdlmenhoagmaa

namespace Go.Proofs.Ytfbdlmenhoagmaa
open Go Sy
set_option maxRecDepth 100000
set_option maxHeartbeats 4000000
set_option linter.unusedVariables false
set_option linter.unusedSimpArgs false
theorem getD_memL {l : List (List Int)} {i : Nat} (h : i < l.length) : l.getD i [] ∈ l := getD_mem' [] l i h
end Go.Proofs.Ytfbdlmenhoagmaa

namespace Go.Proofs.Ytfbdlmenhoagmaa
open Go Sy
set_option maxRecDepth 100000
set_option maxHeartbeats 4000000
set_option linter.unusedVariables false
set_option linter.unusedSimpArgs false
def vis (m : Mp) (fr : Int) (l : List Int) (i : Nat) : List Int := fr :: (l.take i).map fun x => (gr m x.toNat).t
def atP (m : Mp) (fr : Int) (l : List Int) (i : Nat) : Int := if i = 0 then fr else (gr m (gi l (i - 1)).toNat).t
def rtK (m : Mp) (fr : Int) (l : List Int) (i : Nat) : Bool := (gr m (gi l i).toNat).f == atP m fr l i && !decide ((gr m (gi l i).toNat).t ∈ vis m fr l i)
def rtB (m : Mp) (fr to : Int) (l : List Int) : Bool := (List.range l.length).all (rtK m fr l) && atP m fr l l.length == to
def irE (m : Mp) (fr to : Int) (l : List Int) : Int := if chkM m = 0 then (if plB m.n fr = true ∧ plB m.n to = true then rdE m l else 3) else chkM m
def irV (m : Mp) (fr to : Int) (l : List Int) : Bool := decide (irE m fr to l = 0) && rtB m fr to l
theorem vis_succ (m : Mp) (fr : Int) {l : List Int} {i : Nat} (h : i < l.length) : vis m fr l (i + 1) = vis m fr l i ++ [(gr m (gi l i).toNat).t] := by
  unfold vis
  rw [take_snoc h, List.map_append]; rfl
theorem atP_succ (m : Mp) (fr : Int) (l : List Int) (i : Nat) : atP m fr l (i + 1) = (gr m (gi l i).toNat).t := by
  unfold atP; rw [if_neg (by omega)]; rfl
open Classical in
noncomputable def gV (V : List Int) (k : Value) : Option Value := if ∃ x ∈ V, k = .int .i64 x then some (.int .i64 1) else none
theorem gV_in {V : List Int} {x : Int} (h : x ∈ V) : gV V (.int .i64 x) = some (.int .i64 1) := by
  unfold gV; rw [if_pos ⟨x, h, rfl⟩]
theorem gV_out {V : List Int} {x : Int} (h : x ∉ V) : gV V (.int .i64 x) = none := by
  unfold gV; rw [if_neg]
  rintro ⟨y, hy, e⟩
  cases e
  exact h hy
theorem gV_upd (V : List Int) (x : Int) : updG (gV V) (.int .i64 x) (.int .i64 1) = gV (V ++ [x]) := by
  funext k
  unfold updG gV
  by_cases q : k = .int .i64 x
  · rw [if_pos q, if_pos ⟨x, by simp, q⟩]
  · rw [if_neg q]
    congr 1
    rw [eq_iff_iff]
    constructor
    · rintro ⟨y, hy, e⟩; exact ⟨y, List.mem_append_left _ hy, e⟩
    · rintro ⟨y, hy, e⟩
      rcases List.mem_append.1 hy with hy | hy
      · exact ⟨y, hy, e⟩
      · rw [List.mem_singleton] at hy; subst hy; exact absurd e q
theorem gV_ini (x : Int) : updG (fun _ => none) (.int .i64 x) (.int .i64 1) = gV [x] := by
  have := gV_upd [] x
  have e : gV [] = fun _ => none := by
    funext k; unfold gV; rw [if_neg]; rintro ⟨y, hy, _⟩; cases hy
  rw [e] at this
  exact this
theorem fn30 (m : Mp) (fr to : Int) (l : List Int) (hm : Gm m) (hl : l.length ≤ 1000000) : Sy.Fn Try.prog 30 [aM m, iv fr, iv to, aI l] (.tup [bv (irV m fr to l), iv (irE m fr to l)]) := by
  refine Fn_of_W mixed Xt30 rfl ?_
  have c27 := fn27 m hm
  have c68 := fn68 m l hl
  by_cases h0 : chkM m = 0
  rotate_left
  · have e1 : irE m fr to l = chkM m := by unfold irE; rw [if_neg h0]
    have e2 : irV m fr to l = false := by unfold irV; rw [e1, decide_eq_false h0]; rfl
    rw [e1, e2]
    generalize chkM m = e at *
    repeat' (first | refine w1g ?_ | refine w1l ?_ | refine w1q ?_ | refine w1b ?_ | refine w1p ?_ | ((first | refine w1r ?_ | refine w1k ?_ | refine w1e ?_ | refine CallC.now (c27) ?_); (refine sy1 ?_; try exact True.intro)) | refine an2 ?_ | fail)
    refine W_cond (by rfl) (fun h => ?_) (fun h => ?_)
    · repeat' (first | refine w1g ?_ | refine w1l ?_ | refine w1q ?_ | refine w1b ?_ | refine w1p ?_ | ((first | refine w1r ?_ | refine w1k ?_ | refine w1e ?_); (refine sy1 ?_; try exact True.intro)) | refine an2 ?_ | fail)
      exact W_ret ⟨[_, _], ⟨rfl, rfl, rfl⟩, rfl⟩
    · exact absurd (by simpa using h) h0
  have hok := chkM_ok h0
  rw [h0] at c27
  repeat' (first | refine w1g ?_ | refine w1l ?_ | refine w1q ?_ | refine w1b ?_ | refine w1p ?_ | ((first | refine w1r ?_ | refine w1k ?_ | refine w1e ?_ | refine CallC.now (c27) ?_); (refine sy1 ?_; try exact True.intro)) | refine an2 ?_ | fail)
  refine W_cond (by rfl) (fun h => by cases h) (fun _ => ?_)
  have c53 := fn53 m [fr, to] (by simp)
  have hpl : plsB m [fr, to] = (plB m.n fr && plB m.n to) := by simp [plsB]
  rw [hpl] at c53
  repeat' (first | refine w1g ?_ | refine w1l ?_ | refine w1q ?_ | refine w1b ?_ | refine w1p ?_ | ((first | refine w1r ?_ | refine w1k ?_ | refine w1e ?_); (refine sy1 ?_; try exact True.intro)) | refine an2 ?_ | fail)
  refine ⟨rfl, trivial, Int, 0, cI, [fr, to], rfl, by omega, fun x _ => ⟨rfl, rfl⟩, rfl, ?_⟩
  (refine sy1 ?_; try exact True.intro)
  by_cases hp : plB m.n fr = true ∧ plB m.n to = true
  rotate_left
  · have e1 : irE m fr to l = 3 := by unfold irE; rw [if_pos h0, if_neg hp]
    have e2 : irV m fr to l = false := by unfold irV; rw [e1]; rfl
    have e3 : (plB m.n fr && plB m.n to) = false := by rw [← Bool.not_eq_true, Bool.and_eq_true]; exact hp
    rw [e3] at c53
    rw [e1, e2]
    repeat' (first | refine w1g ?_ | refine w1l ?_ | refine w1q ?_ | refine w1b ?_ | refine w1p ?_ | ((first | refine w1r ?_ | refine w1k ?_ | refine w1e ?_ | refine CallC.go _ (fun _ => ⟨trivial, c53⟩) rfl ?_); (refine sy1 ?_; try exact True.intro)) | refine an2 ?_ | fail)
    refine W_cond (by rfl) (fun h => ?_) (fun h => by cases h)
    repeat' (first | refine w1g ?_ | refine w1l ?_ | refine w1q ?_ | refine w1b ?_ | refine w1p ?_ | ((first | refine w1r ?_ | refine w1k ?_ | refine w1e ?_); (refine sy1 ?_; try exact True.intro)) | refine an2 ?_ | fail)
    exact W_ret ⟨[_, _], ⟨rfl, rfl, rfl⟩, rfl⟩
  have e3 : (plB m.n fr && plB m.n to) = true := by rw [hp.1, hp.2]; rfl
  rw [e3] at c53
  repeat' (first | refine w1g ?_ | refine w1l ?_ | refine w1q ?_ | refine w1b ?_ | refine w1p ?_ | ((first | refine w1r ?_ | refine w1k ?_ | refine w1e ?_ | refine CallC.go _ (fun _ => ⟨trivial, c53⟩) rfl ?_); (refine sy1 ?_; try exact True.intro)) | refine an2 ?_ | fail)
  refine W_cond (by rfl) (fun h => by cases h) (fun h => ?_)
  have e0 : irE m fr to l = rdE m l := by unfold irE; rw [if_pos h0, if_pos hp]
  by_cases h1 : rdE m l = 0
  rotate_left
  · have e2 : irV m fr to l = false := by unfold irV; rw [e0, decide_eq_false h1]; rfl
    rw [e0, e2]
    generalize rdE m l = e at *
    repeat' (first | refine w1g ?_ | refine w1l ?_ | refine w1q ?_ | refine w1b ?_ | refine w1p ?_ | ((first | refine w1r ?_ | refine w1k ?_ | refine w1e ?_ | refine CallC.now (c68) ?_); (refine sy1 ?_; try exact True.intro)) | refine an2 ?_ | fail)
    refine W_cond (by rfl) (fun h => ?_) (fun h => ?_)
    · repeat' (first | refine w1g ?_ | refine w1l ?_ | refine w1q ?_ | refine w1b ?_ | refine w1p ?_ | ((first | refine w1r ?_ | refine w1k ?_ | refine w1e ?_); (refine sy1 ?_; try exact True.intro)) | refine an2 ?_ | fail)
      exact W_ret ⟨[_, _], ⟨rfl, rfl, rfl⟩, rfl⟩
    · exact absurd (by simpa using h) h1
  obtain ⟨hl2, hlr⟩ := rdE_ok h1
  rw [h1] at c68 e0
  have e2 : irV m fr to l = rtB m fr to l := by unfold irV; rw [e0]; rfl
  rw [e0, e2]
  repeat' (first | refine w1g ?_ | refine w1l ?_ | refine w1q ?_ | refine w1b ?_ | refine w1p ?_ | ((first | refine w1r ?_ | refine w1k ?_ | refine w1e ?_ | refine CallC.now (c68) ?_); (refine sy1 ?_; try exact True.intro)) | refine an2 ?_ | fail)
  refine W_cond (by rfl) (fun h => by cases h) (fun _ => ?_)
  refine W_skip ?_
  (refine sy1 ?_; try exact True.intro)
  repeat (first | refine WK_go ?_ | refine W_seqL ?_ | refine W_seq ?_ | refine W_block ?_)
  refine W_regX [0, 1] ?_
  simp (maxSteps := 400000) (disch := omega) only [push_cast, ↓reduceIte, reduceCtorEq, Nat.reduceAdd, Nat.reduceSub, Nat.reduceEqDiff, Nat.reduceLeDiff, Nat.reduceLT, Nat.reduceBEq, Nat.reduceDiv, Nat.reduceMod, Nat.reducePow, Nat.reduceMul, Int.reduceToNat, Int.reduceLT, Int.reduceLE, chainX, SpM, List.take_succ_cons, List.take_zero, List.drop_succ_cons, List.drop_zero]
  refine ⟨[], rfl, rfl, fun b => ⟨[], rfl, rfl, 22, b, (fun _ => none), .int .i64 fr, .int .i64 1, rfl, rfl, rfl, ⟨fr, rfl⟩, rfl, ?_⟩⟩
  rw [gV_ini]
  (refine sy1 ?_; try exact True.intro)
  repeat' (first | refine w1g ?_ | refine w1l ?_ | refine w1q ?_ | refine w1b ?_ | refine w1p ?_ | ((first | refine w1r ?_ | refine w1k ?_ | refine w1e ?_); (refine sy1 ?_; try exact True.intro)) | refine an2 ?_ | fail)
  refine W_loopU (fun i : Nat => [(1, iv (atP m fr l i)), (41, iv i)]) (fun i => [(22, .oth (.mp b 0 (gV (vis m fr l i))))]) (fun i => i ≤ l.length ∧ ∀ j, j < i → rtK m fr l j = true) (fun i => l.length - i) 0 ⟨by omega, fun j hj => by omega⟩ (by rfl) (by rfl) (fun i hi => ?_)
  (refine sy1 ?_; try exact True.intro)
  repeat' (first | refine w1g ?_ | refine w1l ?_ | refine w1q ?_ | refine w1b ?_ | refine w1p ?_ | ((first | refine w1r ?_ | refine w1k ?_ | refine w1e ?_); (refine sy1 ?_; try exact True.intro)) | refine an2 ?_ | fail)
  refine W_condD (by rfl) (fun h5 => ?_) (fun h5 => ?_)
  · have hlt : i < l.length := by omega
    obtain ⟨hg1, hg2⟩ := hlr i hlt
    obtain ⟨r, hr⟩ : ∃ r : Nat, gi l i = r := ⟨(gi l i).toNat, by omega⟩
    rw [hr] at hg1 hg2
    have er : gr m (gi l i).toNat = gr m r := by rw [hr]; rfl
    refine W_skip ?_
    (refine sy1 ?_; try exact True.intro)
    repeat (first | refine WK_go ?_ | refine W_seqL ?_ | refine W_seq ?_ | refine W_block ?_)
    refine W_regL ?_
    simp (maxSteps := 400000) (disch := omega) only [push_cast, ↓reduceIte, reduceCtorEq, Nat.reduceAdd, Nat.reduceSub, Nat.reduceEqDiff, Nat.reduceLeDiff, Nat.reduceLT, Nat.reduceBEq, Nat.reduceDiv, Nat.reduceMod, Nat.reducePow, Nat.reduceMul, Int.reduceToNat, Int.reduceLT, Int.reduceLE, hr]
    repeat refine And.intro (by omega) ?_
    try (refine sy1 ?_; try exact True.intro)
    repeat (first | refine WK_go ?_ | refine W_seqL ?_ | refine W_seq ?_ | refine W_block ?_)
    refine W_regL ?_
    simp (maxSteps := 400000) (disch := omega) only [push_cast, ↓reduceIte, reduceCtorEq, Nat.reduceAdd, Nat.reduceSub, Nat.reduceEqDiff, Nat.reduceLeDiff, Nat.reduceLT, Nat.reduceBEq, Nat.reduceDiv, Nat.reduceMod, Nat.reducePow, Nat.reduceMul, Int.reduceToNat, Int.reduceLT, Int.reduceLE, hr]
    repeat refine And.intro (by omega) ?_
    try (refine sy1 ?_; try exact True.intro)
    repeat (first | refine WK_go ?_ | refine W_seqL ?_ | refine W_seq ?_ | refine W_block ?_)
    refine W_regX [3, 1] ?_
    simp (maxSteps := 400000) (disch := omega) only [push_cast, ↓reduceIte, reduceCtorEq, Nat.reduceAdd, Nat.reduceSub, Nat.reduceEqDiff, Nat.reduceLeDiff, Nat.reduceLT, Nat.reduceBEq, Nat.reduceDiv, Nat.reduceMod, Nat.reducePow, Nat.reduceMul, Int.reduceToNat, Int.reduceLT, Int.reduceLE, chainX, SpM, List.take_succ_cons, List.take_zero, List.drop_succ_cons, List.drop_zero]
    refine ⟨[], rfl, 22, b, _, .int .i64 (gr m r).t, rfl, rfl, rfl, fun _ => ⟨_, rfl⟩, ?_⟩
    by_cases hin : (gr m r).t ∈ vis m fr l i
    · have v1 : valG (gV (vis m fr l i)) (.int .i64 0) (.int .i64 (gr m r).t) = .int .i64 1 := by unfold valG; rw [gV_in hin]; rfl
      rw [v1]
      simp (maxSteps := 400000) (disch := omega) only [push_cast, ↓reduceIte, reduceCtorEq, Nat.reduceAdd, Nat.reduceSub, Nat.reduceEqDiff, Nat.reduceLeDiff, Nat.reduceLT, Nat.reduceBEq, Nat.reduceDiv, Nat.reduceMod, Nat.reducePow, Nat.reduceMul, Int.reduceToNat, Int.reduceLT, Int.reduceLE, List.take_succ_cons, List.take_zero, List.drop_succ_cons, List.drop_zero]
      refine ⟨[], rfl, rfl, 22, b, _, .int .i64 (gr m r).t, .int .i64 2, rfl, rfl, rfl, ⟨_, rfl⟩, rfl, ?_⟩
      (refine sy1 ?_; try exact True.intro)
      repeat (first | refine WK_go ?_ | refine W_seqL ?_ | refine W_seq ?_ | refine W_block ?_)
      refine W_regX [8] ?_
      simp (maxSteps := 400000) (disch := omega) only [push_cast, ↓reduceIte, reduceCtorEq, Nat.reduceAdd, Nat.reduceSub, Nat.reduceEqDiff, Nat.reduceLeDiff, Nat.reduceLT, Nat.reduceBEq, Nat.reduceDiv, Nat.reduceMod, Nat.reducePow, Nat.reduceMul, Int.reduceToNat, Int.reduceLT, Int.reduceLE, chainX, SpM, List.take_succ_cons, List.take_zero, List.drop_succ_cons, List.drop_zero]
      obtain ⟨q, hq⟩ : ∃ q, ((m.rs.getD r dR).f != atP m fr l i) = q := ⟨_, rfl⟩
      rw [hq]
      have v2 : valG (updG (gV (vis m fr l i)) (.int .i64 (gr m r).t) (.int .i64 2)) (.int .i64 0) (.int .i64 (gr m r).t) = .int .i64 2 := by unfold valG updG; rw [if_pos rfl]; rfl
      refine ⟨[(59, q, false)], rfl, rfl, 22, b, _, .int .i64 (gr m r).t, rfl, rfl, rfl, fun _ => ⟨_, rfl⟩, ?_⟩
      rw [v2]
      have hno : rtB m fr to l = false := by
        rw [← Bool.not_eq_true]
        intro hh
        unfold rtB at hh
        rw [Bool.and_eq_true, List.all_eq_true] at hh
        have := hh.1 i (List.mem_range.2 hlt)
        unfold rtK at this
        rw [er, decide_eq_true hin] at this
        simp at this
      rw [hno]
      cases q
      all_goals
        (refine sy1 ?_; try exact True.intro)
        repeat (first | refine WK_go ?_ | refine W_seqL ?_ | refine W_seq ?_ | refine W_block ?_)
        refine W_cond (by rfl) (fun _ => ?_) (fun hz => by first | cases hz | simp at hz)
        repeat' (first | refine w1g ?_ | refine w1l ?_ | refine w1q ?_ | refine w1b ?_ | refine w1p ?_ | ((first | refine w1r ?_ | refine w1k ?_ | refine w1e ?_); (refine sy1 ?_; try exact True.intro)) | refine an2 ?_ | fail)
        exact W_ret ⟨[_, _], ⟨rfl, rfl, rfl⟩, rfl⟩
    · have v1 : valG (gV (vis m fr l i)) (.int .i64 0) (.int .i64 (gr m r).t) = .int .i64 0 := by unfold valG; rw [gV_out hin]; rfl
      rw [v1]
      simp (maxSteps := 400000) (disch := omega) only [push_cast, ↓reduceIte, reduceCtorEq, Nat.reduceAdd, Nat.reduceSub, Nat.reduceEqDiff, Nat.reduceLeDiff, Nat.reduceLT, Nat.reduceBEq, Nat.reduceDiv, Nat.reduceMod, Nat.reducePow, Nat.reduceMul, Int.reduceToNat, Int.reduceLT, Int.reduceLE, List.take_succ_cons, List.take_zero, List.drop_succ_cons, List.drop_zero]
      refine ⟨[], rfl, rfl, 22, b, _, .int .i64 (gr m r).t, .int .i64 1, rfl, rfl, rfl, ⟨_, rfl⟩, rfl, ?_⟩
      rw [gV_upd]
      (refine sy1 ?_; try exact True.intro)
      repeat (first | refine WK_go ?_ | refine W_seqL ?_ | refine W_seq ?_ | refine W_block ?_)
      refine W_regX [8] ?_
      simp (maxSteps := 400000) (disch := omega) only [push_cast, ↓reduceIte, reduceCtorEq, Nat.reduceAdd, Nat.reduceSub, Nat.reduceEqDiff, Nat.reduceLeDiff, Nat.reduceLT, Nat.reduceBEq, Nat.reduceDiv, Nat.reduceMod, Nat.reducePow, Nat.reduceMul, Int.reduceToNat, Int.reduceLT, Int.reduceLE, chainX, SpM, List.take_succ_cons, List.take_zero, List.drop_succ_cons, List.drop_zero]
      obtain ⟨q, hq⟩ : ∃ q, ((m.rs.getD r dR).f != atP m fr l i) = q := ⟨_, rfl⟩
      rw [hq]
      have v2 : valG (gV (vis m fr l i ++ [(gr m r).t])) (.int .i64 0) (.int .i64 (gr m r).t) = .int .i64 1 := by unfold valG; rw [gV_in (by simp)]; rfl
      refine ⟨[(59, q, false)], rfl, rfl, 22, b, _, .int .i64 (gr m r).t, rfl, rfl, rfl, fun _ => ⟨_, rfl⟩, ?_⟩
      rw [v2]
      have hk : rtK m fr l i = !q := by
        unfold rtK
        rw [er, decide_eq_false hin, ← hq]
        unfold gr
        simp [bne]
      cases q
      · (refine sy1 ?_; try exact True.intro)
        repeat (first | refine WK_go ?_ | refine W_seqL ?_ | refine W_seq ?_ | refine W_block ?_)
        refine W_cond (by rfl) (fun hz => by first | cases hz | simp at hz) (fun _ => ?_)
        repeat' (first | refine w1g ?_ | refine w1l ?_ | refine w1q ?_ | refine w1b ?_ | refine w1p ?_ | ((first | refine w1r ?_ | refine w1k ?_ | refine w1e ?_); (refine sy1 ?_; try exact True.intro)) | refine an2 ?_ | fail)
        refine ⟨i + 1, ⟨by omega, fun j hj => ?_⟩, by omega, by rfl, ?_⟩
        · rcases Nat.lt_or_ge j i with h | h
          · exact hi.2 j h
          · have : j = i := by omega
            rw [this, hk]; try rfl
        · have e5 : atP m fr l (i + 1) = (m.rs.getD r dR).t := by rw [atP_succ, er]; first | done | rfl
          have e6 : vis m fr l (i + 1) = vis m fr l i ++ [(gr m r).t] := by rw [vis_succ m fr hlt]; first | done | rw [er]
          rw [e5, e6]
          (refine syE ?_; try exact True.intro)
      · have hno : rtB m fr to l = false := by
          rw [← Bool.not_eq_true]
          intro hh
          unfold rtB at hh
          rw [Bool.and_eq_true, List.all_eq_true] at hh
          have := hh.1 i (List.mem_range.2 hlt)
          rw [hk] at this
          cases this
        rw [hno]
        (refine sy1 ?_; try exact True.intro)
        repeat (first | refine WK_go ?_ | refine W_seqL ?_ | refine W_seq ?_ | refine W_block ?_)
        refine W_cond (by rfl) (fun _ => ?_) (fun hz => by first | cases hz | simp at hz)
        repeat' (first | refine w1g ?_ | refine w1l ?_ | refine w1q ?_ | refine w1b ?_ | refine w1p ?_ | ((first | refine w1r ?_ | refine w1k ?_ | refine w1e ?_); (refine sy1 ?_; try exact True.intro)) | refine an2 ?_ | fail)
        exact W_ret ⟨[_, _], ⟨rfl, rfl, rfl⟩, rfl⟩
  · have hall : (List.range l.length).all (rtK m fr l) = true := by
      rw [List.all_eq_true]
      intro j hj
      exact hi.2 j (by have := List.mem_range.1 hj; omega)
    have hil : i = l.length := by omega
    have e3 : rtB m fr to l = (atP m fr l i == to) := by unfold rtB; rw [hall, hil]; rfl
    rw [e3]
    repeat' (first | refine w1g ?_ | refine w1l ?_ | refine w1q ?_ | refine w1b ?_ | refine w1p ?_ | ((first | refine w1r ?_ | refine w1k ?_ | refine w1e ?_); (refine sy1 ?_; try exact True.intro)) | refine an2 ?_ | fail)
    exact W_ret ⟨[_, _], ⟨rfl, rfl, rfl⟩, rfl⟩
end Go.Proofs.Ytfbdlmenhoagmaa

namespace Go.Proofs.Ytfbdlmenhoagmaa
open Go Sy
set_option maxRecDepth 100000
set_option maxHeartbeats 4000000
set_option linter.unusedVariables false
set_option linter.unusedSimpArgs false
end Go.Proofs.Ytfbdlmenhoagmaa

namespace Go.Proofs.Ytfbdlmenhoagmaa
open Go Sy
set_option maxRecDepth 100000
set_option maxHeartbeats 4000000
set_option linter.unusedVariables false
set_option linter.unusedSimpArgs false
end Go.Proofs.Ytfbdlmenhoagmaa

namespace Go.Proofs.Ytfbdlmenhoagmaa
open Go Sy
set_option maxRecDepth 100000
set_option maxHeartbeats 4000000
set_option linter.unusedVariables false
set_option linter.unusedSimpArgs false
end Go.Proofs.Ytfbdlmenhoagmaa

namespace Go.Proofs.Ytfbdlmenhoagmaa
open Go Sy
set_option maxRecDepth 100000
set_option maxHeartbeats 4000000
set_option linter.unusedVariables false
set_option linter.unusedSimpArgs false
def BI (g : List Int → Int) (ok : List Int → Bool) (L : List (List Int)) (i : Nat) (b : Int) : Prop :=
  (b = -1 ∧ leastL g ok (L.take i) = none) ∨ (0 ≤ b ∧ b < i ∧ leastL g ok (L.take i) = some (L.getD b.toNat [], g (L.getD b.toNat [])))
theorem take_snocL {L : List (List Int)} {i : Nat} (h : i < L.length) : L.take (i + 1) = L.take i ++ [L.getD i []] := by
  rw [List.take_add_one]
  simp [List.getD, h]
theorem BI.no {g : List Int → Int} {ok : List Int → Bool} {L : List (List Int)} {i : Nat} {b : Int} (h : BI g ok L i b) (hi : i < L.length) (ho : ok (L.getD i []) = false ∨ (0 ≤ b ∧ g (L.getD b.toNat []) ≤ g (L.getD i []))) : BI g ok L (i + 1) b := by
  have e : ∀ x, leastL g ok (L.take i) = x → (x = none → b < 0) → (∀ p, x = some p → p.2 = g (L.getD b.toNat [])) → leastL g ok (L.take (i + 1)) = x := fun x hx h1 h2 => by
    rw [take_snocL hi, leastL_snoc, hx]
    unfold lstep
    rcases ho with ho | ⟨ho1, ho2⟩
    · rw [if_neg (by rw [ho]; simp)]
    · rcases x with _ | ⟨y, n⟩
      · have := h1 rfl; omega
      · have := h2 _ rfl
        dsimp only at this
        split
        · show (if _ then _ else _) = _
          rw [if_neg (by omega)]
        · rfl
  rcases h with ⟨h1, h2⟩ | ⟨h1, h2, h3⟩
  · exact .inl ⟨h1, e _ h2 (fun _ => by omega) (fun p hp => by cases hp)⟩
  · exact .inr ⟨h1, by omega, e _ h3 (fun q => by cases q) (fun p hp => by cases hp; rfl)⟩
end Go.Proofs.Ytfbdlmenhoagmaa

namespace Go.Proofs.Ytfbdlmenhoagmaa
open Go Sy
set_option maxRecDepth 100000
set_option maxHeartbeats 4000000
set_option linter.unusedVariables false
set_option linter.unusedSimpArgs false
end Go.Proofs.Ytfbdlmenhoagmaa

namespace Go.Proofs.Ytfbdlmenhoagmaa
open Go Sy
set_option linter.unusedVariables false
def rlp (m : Mp) (a : Int) (us : List Bool) (lim : Nat) (g : Nat → Nat → List (List Int)) : Nat → Nat → List (List Int) → List (List Int)
  | 0, _, o => o
  | k + 1, i, o => if o.length < lim then (if ((gr m i).f == a && !us.getD (gr m i).t.toNat false) = true then rlp m a us lim g k (i + 1) (o ++ g i (lim - o.length)) else rlp m a us lim g k (i + 1) o) else o
def rts (m : Mp) (to : Int) : Nat → Nat → List Int → Int → List Bool → List (List Int)
  | 0, _, _, _, _ => []
  | d + 1, lim, p, a, us => if a = to then [p] else rlp m a (us.set a.toNat true) lim (fun i l => rts m to d l (p ++ [(i : Int)]) (gr m i).t (us.set a.toNat true)) m.rs.length 0 []
inductive Pt (m : Mp) (fr : Int) : List Int → Int → Prop
  | nil : Pt m fr [] fr
  | snoc {l : List Int} {a : Int} {i : Nat} : Pt m fr l a → i < m.rs.length → (gr m i).f = a → Pt m fr (l ++ [(i : Int)]) (gr m i).t
theorem rlp_all {m : Mp} {a : Int} {us : List Bool} {lim : Nat} {g : Nat → Nat → List (List Int)} {P : List Int → Prop} (hg : ∀ i n, i < m.rs.length → (gr m i).f = a → us.getD (gr m i).t.toNat false = false → 1 ≤ n → n ≤ lim → (g i n).length ≤ n ∧ ∀ x ∈ g i n, P x) : ∀ (k i : Nat) (o : List (List Int)), i + k = m.rs.length → o.length ≤ lim → (∀ x ∈ o, P x) → (rlp m a us lim g k i o).length ≤ lim ∧ ∀ x ∈ rlp m a us lim g k i o, P x
  | 0, i, o, h, hl, ho => ⟨hl, ho⟩
  | k + 1, i, o, h, hl, ho => by
    simp only [rlp]
    split
    · rename_i q
      split
      · rename_i q2
        rw [Bool.and_eq_true, beq_iff_eq, Bool.not_eq_true'] at q2
        obtain ⟨g1, g2⟩ := hg i (lim - o.length) (by omega) q2.1 q2.2 (by omega) (by omega)
        refine rlp_all hg k (i + 1) _ (by omega) (by rw [List.length_append]; omega) (fun x hx => ?_)
        rcases List.mem_append.1 hx with hx | hx
        · exact ho x hx
        · exact g2 x hx
      · exact rlp_all hg k (i + 1) _ (by omega) hl ho
    · exact ⟨hl, ho⟩
theorem rts_all {m : Mp} {fr to : Int} : ∀ (d lim : Nat) (p : List Int) (a : Int) (us : List Bool), 1 ≤ lim → Pt m fr p a → (rts m to d lim p a us).length ≤ lim ∧ ∀ x ∈ rts m to d lim p a us, Pt m fr x to ∧ x.length ≤ p.length + d
  | 0, lim, p, a, us, h, hp => ⟨by simp [rts], fun x hx => by simp [rts] at hx⟩
  | d + 1, lim, p, a, us, h, hp => by
    simp only [rts]
    split
    · rename_i q
      refine ⟨h, fun x hx => ?_⟩
      rw [List.mem_singleton] at hx
      subst hx
      exact ⟨q ▸ hp, by omega⟩
    · refine rlp_all (fun i n hi hf _ h1 _ => ?_) _ 0 [] (by omega) (by simp) (fun x hx => by cases hx)
      obtain ⟨g1, g2⟩ := rts_all d n (p ++ [(i : Int)]) (gr m i).t (us.set a.toNat true) h1 (.snoc hp hi hf)
      refine ⟨g1, fun x hx => ⟨(g2 x hx).1, ?_⟩⟩
      have := (g2 x hx).2
      rw [List.length_append] at this
      simp at this
      omega
theorem Pt.rng {m : Mp} {fr a : Int} {l : List Int} (h : Pt m fr l a) : ∀ x ∈ l, 0 ≤ x ∧ x < m.rs.length := by
  induction h with
  | nil => intro x hx; cases hx
  | snoc _ hi _ ih =>
    intro x hx
    rcases List.mem_append.1 hx with hx | hx
    · exact ih x hx
    · rw [List.mem_singleton] at hx; omega
theorem count_set : ∀ (l : List Bool) (i : Nat), i < l.length → l.getD i false = false → (l.set i true).count false + 1 = l.count false
  | [], i, h, _ => by simp at h
  | b :: l, 0, h, hb => by
    have : b = false := by simpa using hb
    subst this
    simp
  | b :: l, i + 1, h, hb => by
    have h1 := count_set l i (by simpa using h) (by simpa using hb)
    rw [List.set_cons_succ, List.count_cons, List.count_cons]
    omega
end Go.Proofs.Ytfbdlmenhoagmaa

namespace Go.Proofs.Ytfbdlmenhoagmaa
open Go Sy
set_option maxRecDepth 100000
set_option maxHeartbeats 4000000
set_option linter.unusedVariables false
set_option linter.unusedSimpArgs false
theorem rts_len {m : Mp} {to : Int} : ∀ (d lim : Nat) (p : List Int) (a : Int) (us : List Bool), 1 ≤ lim → (rts m to d lim p a us).length ≤ lim
  | 0, lim, p, a, us, h => by simp [rts]
  | d + 1, lim, p, a, us, h => by
    simp only [rts]
    split
    · simpa using h
    · exact (rlp_all (P := fun _ => True) (fun i n hi hf _ h1 _ => ⟨rts_len d n _ _ _ h1, fun _ _ => trivial⟩) _ 0 [] (by omega) (by simp) (fun x hx => trivial)).1
theorem fn36 (m : Mp) (to : Int) (hok : OkM m) : ∀ (d : Nat) (lim : Nat) (p : List Int) (a : Int) (us : List Bool), us.count false ≤ d → (us.length : Int) = m.n → (0 ≤ a ∧ a < m.n) → us.getD a.toNat false = false → p.length + d ≤ 100 → 1 ≤ lim → lim ≤ 60 → Sy.Fn Try.prog 36 [aM m, iv to, iv lim, aI p, iv a, aB us] (aL (rts m to d lim p a us)) := by
  intro d
  induction d with
  | zero =>
    intro lim p a us h1 h2 h3 h4
    have := count_set us a.toNat (by omega) h4
    omega
  | succ d ih =>
  intro lim p a us h1 h2 h3 h4 h5 h6 h7
  refine Fn_of_W mixed Xt36 rfl ?_
  have hn := hok.n
  have hnr := hok.nr
  repeat' (first | refine w1g ?_ | refine w1l ?_ | refine w1q ?_ | refine w1b ?_ | refine w1p ?_ | ((first | refine w1r ?_ | refine w1k ?_ | refine w1e ?_); (refine sy1 ?_; try exact True.intro)) | refine an2 ?_ | fail)
  refine W_cond (by rfl) (fun h => ?_) (fun h => ?_)
  · rw [beq_iff_eq] at h
    have e : rts m to (d + 1) lim p a us = [p] := by simp only [rts]; rw [if_pos h]
    rw [e]
    repeat' (first | refine w1g ?_ | refine w1l ?_ | refine w1q ?_ | refine w1b ?_ | refine w1p ?_ | ((first | refine w1r ?_ | refine w1k ?_ | refine w1e ?_); (refine sy1 ?_; try exact True.intro)) | refine an2 ?_ | fail)
    refine ⟨rfl, trivial, (List Int), [], cL, [p], rfl, by omega, fun x _ => ⟨rfl, rfl⟩, rfl, ?_⟩
    (refine sy1 ?_; try exact True.intro)
    repeat' (first | refine w1g ?_ | refine w1l ?_ | refine w1q ?_ | refine w1b ?_ | refine w1p ?_ | ((first | refine w1r ?_ | refine w1k ?_ | refine w1e ?_); (refine sy1 ?_; try exact True.intro)) | refine an2 ?_ | fail)
    refine W_ret ⟨[_], ⟨rfl, rfl⟩, ?_⟩
    simp (maxSteps := 400000) (disch := omega) only [push_cast, ↓reduceIte, reduceCtorEq, Nat.reduceAdd, Nat.reduceSub, Nat.reduceEqDiff, Nat.reduceLeDiff, Nat.reduceLT, Nat.reduceBEq, Nat.reduceDiv, Nat.reduceMod, Nat.reducePow, Nat.reduceMul, Int.reduceToNat, Int.reduceLT, Int.reduceLE, pack]
  · rw [beq_eq_false_iff_ne] at h
    have e : rts m to (d + 1) lim p a us = rlp m a (us.set a.toNat true) lim (fun i l => rts m to d l (p ++ [(i : Int)]) (gr m i).t (us.set a.toNat true)) m.rs.length 0 [] := by simp only [rts]; rw [if_neg h]
    have hcs := count_set us a.toNat (by omega) h4
    have hsl : (us.set a.toNat true).length = us.length := List.length_set
    rw [e]
    repeat' (first | refine w1g ?_ | refine w1l ?_ | refine w1q ?_ | refine w1b ?_ | refine w1p ?_ | ((first | refine w1r ?_ | refine w1k ?_ | refine w1e ?_); (refine sy1 ?_; try exact True.intro)) | refine an2 ?_ | fail)
    refine ⟨rfl, trivial, Bool, false, cB, [], rfl, by omega, fun x _ => ⟨rfl, rfl⟩, rfl, ?_⟩
    (refine sy1 ?_; try exact True.intro)
    refine ⟨rfl, ⟨Nat.le_of_ble_eq_true rfl, rfl⟩, trivial, us, rfl, by first | omega | (simp; omega), by first | omega | (simp; omega), ?_⟩
    simp (maxSteps := 400000) (disch := omega) only [push_cast, ↓reduceIte, reduceCtorEq, Nat.reduceAdd, Nat.reduceSub, Nat.reduceEqDiff, Nat.reduceLeDiff, Nat.reduceLT, Nat.reduceBEq, Nat.reduceDiv, Nat.reduceMod, Nat.reducePow, Nat.reduceMul, Int.reduceToNat, Int.reduceLT, Int.reduceLE, List.nil_append]
    repeat' (first | refine w1g ?_ | refine w1l ?_ | refine w1q ?_ | refine w1b ?_ | refine w1p ?_ | ((first | refine w1r ?_ | refine w1k ?_ | refine w1e ?_); (refine sy1 ?_; try exact True.intro)) | refine an2 ?_ | fail)
    refine ⟨rfl, ⟨Nat.le_of_ble_eq_true rfl, rfl⟩, by omega, true, rfl, rfl, ?_⟩
    (refine sy1 ?_; try exact True.intro)
    generalize us.set a.toNat true = vs at *
    repeat' (first | refine w1g ?_ | refine w1l ?_ | refine w1q ?_ | refine w1b ?_ | refine w1p ?_ | ((first | refine w1r ?_ | refine w1k ?_ | refine w1e ?_); (refine sy1 ?_; try exact True.intro)) | refine an2 ?_ | fail)
    refine W_le (le_frzR 14 [1, 2, 3, 4, 6, 13, 15] [] 15 6 1 4 1 false cB vs rfl rfl rfl rfl) ?_
    (refine sy1 ?_; try exact True.intro)
    refine W_le (le_adopt 13 27 1 [] cL (by omega) rfl) ?_
    (refine sy1 ?_; try exact True.intro)
    have hF : ∀ o, o = rts m to (d + 1) lim p a us → Sy.Fn Try.prog 36 [aM m] (aL o) → True := fun _ _ _ => trivial
    generalize hG : (fun (i : Nat) (l : Nat) => rts m to d l (p ++ [(i : Int)]) (gr m i).t vs) = G at *
    obtain ⟨O, hO⟩ : ∃ O, O = rlp m a vs lim G m.rs.length 0 [] := ⟨_, rfl⟩
    rw [← hO]
    refine W_loopU (fun u : Nat × Nat × List (List Int) => [(13, .row 15 u.2.1), (15, iv u.1)]) (fun u => [(15, .row u.2.1 27 1 [] cL u.2.2)]) (fun u => u.1 ≤ m.rs.length ∧ u.2.2.length ≤ lim ∧ rlp m a vs lim G (m.rs.length - u.1) u.1 u.2.2 = O) (fun u => m.rs.length - u.1) (0, 0, []) ⟨by dsimp only; omega, by simp, by dsimp only; rw [hO]; rfl⟩ (by rfl) (by rfl) (fun u hu => ?_)
    obtain ⟨i, v, o⟩ := u
    obtain ⟨hi, hol, hr⟩ := hu
    dsimp only at hi hol hr ⊢
    (refine sy1 ?_; try exact True.intro)
    repeat' (first | refine w1g ?_ | refine w1l ?_ | refine w1q ?_ | refine w1b ?_ | refine w1p ?_ | ((first | refine w1r ?_ | refine w1k ?_ | refine w1e ?_); (refine sy1 ?_; try exact True.intro)) | refine an2 ?_ | fail)
    refine W_cond (by rfl) (fun hc => ?_) (fun hc => ?_)
    rotate_left
    · have e2 : rlp m a vs lim G (m.rs.length - i) i o = o := by
        rcases hk : m.rs.length - i with _ | k
        · rfl
        · simp only [rlp]
          rw [Bool.and_eq_false_iff, decide_eq_false_iff_not, decide_eq_false_iff_not] at hc
          rw [if_neg (by omega)]
      rw [e2] at hr
      rw [← hr]
      repeat' (first | refine w1g ?_ | refine w1l ?_ | refine w1q ?_ | refine w1b ?_ | refine w1p ?_ | ((first | refine w1r ?_ | refine w1k ?_ | refine w1e ?_); (refine sy1 ?_; try exact True.intro)) | refine an2 ?_ | fail)
      refine W_ret ⟨[_], ⟨rfl, rfl⟩, ?_⟩
      simp (maxSteps := 400000) (disch := omega) only [push_cast, ↓reduceIte, reduceCtorEq, Nat.reduceAdd, Nat.reduceSub, Nat.reduceEqDiff, Nat.reduceLeDiff, Nat.reduceLT, Nat.reduceBEq, Nat.reduceDiv, Nat.reduceMod, Nat.reducePow, Nat.reduceMul, Int.reduceToNat, Int.reduceLT, Int.reduceLE, pack]
    · rw [Bool.and_eq_true, decide_eq_true_eq, decide_eq_true_eq] at hc
      have hlt : i < m.rs.length := by omega
      have hgr : m.rs.getD i dR = gr m i := rfl
      have ok := roadB_ok (hok.r i hlt)
      have htr := ok.t
      obtain ⟨t, ht⟩ : ∃ t : Nat, (gr m i).t = t := ⟨(gr m i).t.toNat, by omega⟩
      repeat' (first | refine w1g ?_ | refine w1l ?_ | refine w1q ?_ | refine w1b ?_ | refine w1p ?_ | ((first | refine w1r ?_ | refine w1k ?_ | refine w1e ?_); simp (maxSteps := 400000) (disch := omega) only [push_cast, ↓reduceIte, reduceCtorEq, Nat.reduceAdd, Nat.reduceSub, Nat.reduceEqDiff, Nat.reduceLeDiff, Nat.reduceLT, Nat.reduceBEq, Nat.reduceDiv, Nat.reduceMod, Nat.reducePow, Nat.reduceMul, Int.reduceToNat, Int.reduceLT, Int.reduceLE, hgr]) | refine an2 ?_ | fail)
      refine W_cond (by rfl) (fun hz => ?_) (fun hz => ?_)
      · rw [Bool.and_eq_true, beq_iff_eq, Bool.not_eq_true'] at hz
        repeat (first | refine WK_go ?_ | refine W_seqL ?_ | refine W_seq ?_ | refine W_block ?_)
        have hI := ih (lim - o.length) (p ++ [(i : Int)]) (gr m i).t vs (by omega) (by omega) htr hz.2 (by rw [List.length_append, List.length_singleton]; omega) (by omega) (by omega)
        rw [show ((lim - o.length : Nat) : Int) = (lim : Int) - o.length by omega] at hI
        have hGi : rts m to d (lim - o.length) (p ++ [(i : Int)]) (gr m i).t vs = G i (lim - o.length) := by rw [← hG]
        rw [hGi] at hI
        have hGl : (G i (lim - o.length)).length ≤ lim - o.length := by rw [← hGi]; exact rts_len d _ _ _ _ (by omega)
        have e2 : rlp m a vs lim G (m.rs.length - i) i o = rlp m a vs lim G (m.rs.length - (i + 1)) (i + 1) (o ++ G i (lim - o.length)) := by
          obtain ⟨k, hk⟩ : ∃ k, m.rs.length - i = k + 1 := ⟨m.rs.length - i - 1, by omega⟩
          rw [show m.rs.length - (i + 1) = k by omega, hk]
          simp only [rlp]
          rw [if_pos (by omega), if_pos (by rw [hz.1, hz.2]; simp)]
        generalize G i (lim - o.length) = A at *
        refine W_regZ 20 0 60 (by decide) rfl rfl rfl (fun _ _ => rfl) (by decide) (by decide) (by decide) ?_
        simp (maxSteps := 400000) (disch := omega) only [push_cast, ↓reduceIte, reduceCtorEq, Nat.reduceAdd, Nat.reduceSub, Nat.reduceEqDiff, Nat.reduceLeDiff, Nat.reduceLT, Nat.reduceBEq, Nat.reduceDiv, Nat.reduceMod, Nat.reducePow, Nat.reduceMul, Int.reduceToNat, Int.reduceLT, Int.reduceLE, hgr, List.take_succ_cons, List.take_zero, List.drop_succ_cons, List.drop_zero]
        repeat refine And.intro (by omega) ?_
        refine ⟨rfl, trivial, Int, 0, cI, [], rfl, by omega, fun x _ => ⟨rfl, rfl⟩, rfl, ?_⟩
        (refine sy1 ?_; try exact True.intro)
        refine ⟨rfl, ⟨Nat.le_of_ble_eq_true rfl, rfl⟩, trivial, p, rfl, by first | omega | (simp; omega), by first | omega | (simp; omega), ?_⟩
        simp (maxSteps := 400000) (disch := omega) only [push_cast, ↓reduceIte, reduceCtorEq, Nat.reduceAdd, Nat.reduceSub, Nat.reduceEqDiff, Nat.reduceLeDiff, Nat.reduceLT, Nat.reduceBEq, Nat.reduceDiv, Nat.reduceMod, Nat.reducePow, Nat.reduceMul, Int.reduceToNat, Int.reduceLT, Int.reduceLE, List.nil_append]
        refine ⟨rfl, trivial, Int, 0, cI, [(i : Int)], rfl, by omega, fun x _ => ⟨rfl, rfl⟩, rfl, ?_⟩
        (refine sy1 ?_; try exact True.intro)
        refine ⟨rfl, ⟨Nat.le_of_ble_eq_true rfl, rfl⟩, trivial, [(i : Int)], rfl, by first | omega | (simp; omega), by first | omega | (simp; omega), ?_⟩
        simp (maxSteps := 400000) (disch := omega) only [push_cast, ↓reduceIte, reduceCtorEq, Nat.reduceAdd, Nat.reduceSub, Nat.reduceEqDiff, Nat.reduceLeDiff, Nat.reduceLT, Nat.reduceBEq, Nat.reduceDiv, Nat.reduceMod, Nat.reducePow, Nat.reduceMul, Int.reduceToNat, Int.reduceLT, Int.reduceLE, hgr]
        repeat refine And.intro (by omega) ?_
        refine ⟨⟨_, le_frzR 72 [1, 2, 3, 4, 6, 13, 14, 15, 60, 61, 62, 66, 78, 79] [15] 67 54 2 3 1 0 cI (p ++ [(i : Int)]) rfl rfl rfl rfl, ?_⟩, ⟨_, le_frzR 72 [1, 2, 3, 4, 6, 13, 14, 15, 61, 62, 66, 78, 79] [15] 67 54 2 3 1 0 cI (p ++ [(i : Int)]) rfl rfl rfl rfl, ?_, ?_⟩⟩
        all_goals
          simp (maxSteps := 400000) (disch := omega) only [push_cast, ↓reduceIte, reduceCtorEq, Nat.reduceAdd, Nat.reduceSub, Nat.reduceEqDiff, Nat.reduceLeDiff, Nat.reduceLT, Nat.reduceBEq, Nat.reduceDiv, Nat.reduceMod, Nat.reducePow, Nat.reduceMul, Int.reduceToNat, Int.reduceLT, Int.reduceLE, List.take_succ_cons, List.take_zero, List.drop_succ_cons, List.drop_zero]
          refine CallC.now hI ?_
          (refine sy1 ?_; try exact True.intro)
          refine ⟨rfl, ⟨Nat.le_of_ble_eq_true rfl, rfl⟩, trivial, A, rfl, by first | omega | (simp; omega), by first | omega | (simp; omega), ?_⟩
          (refine sy1 ?_; try exact True.intro)
          repeat' (first | refine w1g ?_ | refine w1l ?_ | refine w1q ?_ | refine w1b ?_ | refine w1p ?_ | ((first | refine w1r ?_ | refine w1k ?_ | refine w1e ?_); (refine sy1 ?_; try exact True.intro)) | refine an2 ?_ | fail)
          refine ⟨(i + 1, v + 1, o ++ A), ⟨by dsimp only; omega, by dsimp only; rw [List.length_append]; omega, by dsimp only; rw [← e2]; exact hr⟩, by dsimp only; omega, by rfl, ?_⟩
          dsimp only
          (refine syE ?_; try exact True.intro)
      · have e2 : rlp m a vs lim G (m.rs.length - i) i o = rlp m a vs lim G (m.rs.length - (i + 1)) (i + 1) o := by
          obtain ⟨k, hk⟩ : ∃ k, m.rs.length - i = k + 1 := ⟨m.rs.length - i - 1, by omega⟩
          rw [show m.rs.length - (i + 1) = k by omega, hk]
          simp only [rlp]
          rw [if_pos (by omega), if_neg (by rw [hz]; simp)]
        repeat' (first | refine w1g ?_ | refine w1l ?_ | refine w1q ?_ | refine w1b ?_ | refine w1p ?_ | ((first | refine w1r ?_ | refine w1k ?_ | refine w1e ?_); (refine sy1 ?_; try exact True.intro)) | refine an2 ?_ | fail)
        refine ⟨(i + 1, v, o), ⟨by dsimp only; omega, hol, by dsimp only; rw [← e2]; exact hr⟩, by dsimp only; omega, by rfl, ?_⟩
        dsimp only
        (refine syE ?_; try exact True.intro)
end Go.Proofs.Ytfbdlmenhoagmaa

namespace Go.Proofs.Ytfbdlmenhoagmaa
open Go Sy
set_option linter.unusedVariables false
theorem Pt.cons {m : Mp} {a b : Int} {l : List Int} {i : Nat} (hi : i < m.rs.length) (h : Pt m (gr m i).t l b) (hf : (gr m i).f = a) : Pt m a ((i : Int) :: l) b := by
  induction h with
  | nil =>
    have := Pt.snoc (Pt.nil (m := m) (fr := a)) hi hf
    exact this
  | snoc _ h2 h3 ih => exact .snoc ih h2 h3
structure Way (m : Mp) (f : Nat → Int) (s left : List Int) (to a : Int) (l : List Int) : Prop where
  u : ∀ x ∈ l, usB m f s x.toNat = true
  c : sumR m l = gi left a.toNat
  p : Pt m a l to
  f : ∀ i, i < l.length → (gr m (gi l i).toNat).f = atP m a l i
  d : ∀ i, i < l.length → gi left (gr m (gi l i).toNat).t.toNat < gi left (atP m a l i).toNat
  e : atP m a l l.length = to
theorem Way.rt {m : Mp} {f : Nat → Int} {s left : List Int} {to a : Int} {l : List Int} (h : Way m f s left to a l) : rtB m a to l = true := by
  have key : ∀ i, i ≤ l.length → ∀ y ∈ vis m a l i, gi left (atP m a l i).toNat ≤ gi left y.toNat := fun i => by
    induction i with
    | zero =>
      intro _ y hy
      have : y = a := by simpa [vis] using hy
      rw [this]; exact Int.le_refl _
    | succ i ih =>
      intro hi y hy
      rw [vis_succ m a (by omega)] at hy
      rw [atP_succ]
      rcases List.mem_append.1 hy with hy | hy
      · have h1 := ih (by omega) y hy
        have h2 := h.d i (by omega)
        omega
      · rw [List.mem_singleton] at hy
        rw [hy]; exact Int.le_refl _
  unfold rtB
  rw [Bool.and_eq_true, List.all_eq_true, beq_iff_eq]
  refine ⟨fun i hi => ?_, h.e⟩
  have hi := List.mem_range.1 hi
  unfold rtK
  rw [Bool.and_eq_true, beq_iff_eq, Bool.not_eq_true', decide_eq_false_iff_not]
  refine ⟨h.f i hi, fun hv => ?_⟩
  have h1 := key i (by omega) _ hv
  have h2 := h.d i hi
  omega
end Go.Proofs.Ytfbdlmenhoagmaa

namespace Go.Proofs.Ytfbdlmenhoagmaa
open Go Sy
set_option maxRecDepth 100000
set_option maxHeartbeats 4000000
set_option linter.unusedVariables false
set_option linter.unusedSimpArgs false
end Go.Proofs.Ytfbdlmenhoagmaa

namespace Go.Proofs.Ytfbdlmenhoagmaa
open Go Sy
set_option maxRecDepth 100000
set_option maxHeartbeats 4000000
set_option linter.unusedVariables false
set_option linter.unusedSimpArgs false
def ldsB (m : Mp) (f : Nat → Int) (road k : Nat) : Bool := usB m f (evL m.ws.length) road && decide ((gr m road).lim k < f k)
def hpsB (m : Mp) (f : Nat → Int) (w road k : Nat) : Bool := ((gw m w).k == (k : Int) && decide ((road : Int) ∈ (gw m w).rs)) && decide (f k ≤ (gw m w).l)
structure Prt where
  w : Int
  r : Int
  k : Int
  v : Int
def cP (c : Prt) : List AV := [iv c.w, iv c.r, iv c.k, iv c.v]
theorem lP (c : Prt) : (cP c).length = 4 := rfl
theorem frP (c : Prt) : frzAll (cP c) = true := rfl
theorem tP (c : Prt) : List.take 4 (List.drop 0 (cP c)) = cP c := rfl
theorem tP2 (c : Prt) : List.take 4 (cP c) = cP c := rfl
theorem nP0 (c : Prt) : nth (cP c) 0 = iv c.w := rfl
theorem nP1 (c : Prt) : nth (cP c) 1 = iv c.r := rfl
theorem nP2 (c : Prt) : nth (cP c) 2 = iv c.k := rfl
theorem nP3 (c : Prt) : nth (cP c) 3 = iv c.v := rfl
attribute [push_cast] lP frP tP tP2 nP0 nP1 nP2 nP3
end Go.Proofs.Ytfbdlmenhoagmaa

namespace Go.Proofs.Ytfbdlmenhoagmaa
open Go Sy
set_option maxRecDepth 100000
set_option maxHeartbeats 4000000
set_option linter.unusedVariables false
set_option linter.unusedSimpArgs false
structure PrtOK (m : Mp) (f : Nat → Int) (p : Prt) : Prop where
  w : 0 ≤ p.w ∧ p.w < m.ws.length
  r : 0 ≤ p.r ∧ p.r < m.rs.length
  k : 0 ≤ p.k ∧ p.k ≤ 5
  v : 0 ≤ p.v ∧ p.v ≤ (gw m p.w.toNat).c
  l : ldsB m f p.r.toNat p.k.toNat = true
  h : hpsB m f p.w.toNat p.r.toNat p.k.toNat = true
end Go.Proofs.Ytfbdlmenhoagmaa

namespace Go.Proofs.Ytfbdlmenhoagmaa
open Go Sy
set_option maxRecDepth 100000
set_option maxHeartbeats 4000000
set_option linter.unusedVariables false
set_option linter.unusedSimpArgs false
end Go.Proofs.Ytfbdlmenhoagmaa

namespace Go.Proofs.Ytfbdlmenhoagmaa
open Go Sy
set_option maxRecDepth 100000
set_option linter.unusedVariables false
structure Bd where
  p : List Prt
  h : List Int
theorem k69 : Codec Try.prog 69 (fun l : List Int => [aI l]) (fun l => l.length * 8 ≤ 140737488351232) :=
  (Codec.slice Try.underlying69 (by rw [y2]; decide) y2 b2 0 k2).map id (fun _ => rfl) (fun _ h => h.1)
structure OB (b : Bd) : Prop where
  p : b.p.length * 32 ≤ 140737488351232
  h : b.h.length * 8 ≤ 140737488351232
end Go.Proofs.Ytfbdlmenhoagmaa

namespace Go.Proofs.Ytfbdlmenhoagmaa
open Go Sy Go.ChangeShapes Go.WideShapes Go.RowKit
set_option linter.unusedVariables false
theorem u16_wf {n : Int} (h : (Lit.int .u16 n).wf = true) : 0 ≤ n ∧ n ≤ 65535 := by
  simp [Lit.wf, IntKind.min, IntKind.max, IntKind.bits, IntKind.signed] at h
  omega
theorem k85 : Codec Try.prog 85 (fun n : Int => [.v (.int .u16 n)]) (fun n => 0 ≤ n ∧ n ≤ 65535) := (Codec.int Try.underlying85).map id (fun _ => rfl) (fun _ h => u16_wf h)
end Go.Proofs.Ytfbdlmenhoagmaa

namespace Go.Proofs.Ytfbdlmenhoagmaa
open Go Sy
set_option maxRecDepth 100000
set_option maxHeartbeats 4000000
set_option linter.unusedVariables false
set_option linter.unusedSimpArgs false
structure Ld where
  r : Int
  k : Int
def cLd (c : Ld) : List AV := [iv c.r, iv c.k]
theorem lLd (c : Ld) : (cLd c).length = 2 := rfl
theorem frLd (c : Ld) : frzAll (cLd c) = true := rfl
theorem tLd (c : Ld) : List.take 2 (List.drop 0 (cLd c)) = cLd c := rfl
theorem tLd2 (c : Ld) : List.take 2 (cLd c) = cLd c := rfl
theorem iLd {m : Nat → Option Blk} {n : Nat} (c : Ld) : List.flatMap (ids m n) (cLd c) = [] := flat_frz n _ (frLd c)
theorem vLd {m : Nat → Option Blk} {n : Nat} (c : Ld) : List.map (view m n) (cLd c) = cLd c := viewL_frz n _ (frLd c)
attribute [push_cast] lLd frLd tLd tLd2 iLd vLd
def ld1 (m : Mp) (f : Nat → Int) (road k : Nat) : List Ld := if ldsB m f road k = true then [⟨road, k⟩] else []
def ldL (m : Mp) (f : Nat → Int) (road n : Nat) : List Ld := (List.range n).flatMap (ld1 m f road)
end Go.Proofs.Ytfbdlmenhoagmaa

namespace Go.Proofs.Ytfbdlmenhoagmaa
open Go Sy
set_option maxRecDepth 100000
set_option maxHeartbeats 4000000
set_option linter.unusedVariables false
set_option linter.unusedSimpArgs false
end Go.Proofs.Ytfbdlmenhoagmaa

namespace Go.Proofs.Ytfbdlmenhoagmaa
open Go Sy
set_option maxRecDepth 100000
set_option maxHeartbeats 4000000
set_option linter.unusedVariables false
set_option linter.unusedSimpArgs false
def lwS (hp : Nat → Bool) (v : Nat → Int) (a : Int × Int × Bool) (i : Nat) : Int × Int × Bool := if (hp i && (!a.2.2 || decide (v i < a.2.1))) = true then ((i : Int), v i, true) else a
def lwF (hp : Nat → Bool) (v : Nat → Int) (n : Nat) : Int × Int × Bool := (List.range n).foldl (lwS hp v) (0, 0, false)
end Go.Proofs.Ytfbdlmenhoagmaa

namespace Go.Proofs.Ytfbdlmenhoagmaa
open Go Sy
set_option maxRecDepth 100000
set_option maxHeartbeats 4000000
set_option linter.unusedVariables false
set_option linter.unusedSimpArgs false
def lwC (m : Mp) (f : Nat → Int) (V : Nat → Nat → Nat → Int) (road k : Nat) : Int × Int × Bool := lwF (fun w => hpsB m f w road k) (fun w => V w road k) m.ws.length
def rdK2 (m : Mp) (f : Nat → Int) (V : Nat → Nat → Nat → Int) (road : Nat) (a : Int) (k : Nat) : Int := if ldsB m f road k = true then a + (lwC m f V road k).2.1 else a
def rdS (m : Mp) (f : Nat → Int) (V : Nat → Nat → Nat → Int) (road n : Nat) : Int := (List.range n).foldl (rdK2 m f V road) (gr m road).c
end Go.Proofs.Ytfbdlmenhoagmaa

namespace Go.Proofs.Ytfbdlmenhoagmaa
open Go Sy
set_option linter.unusedVariables false
end Go.Proofs.Ytfbdlmenhoagmaa

namespace Go.Proofs.Ytfbdlmenhoagmaa
open Go Sy
set_option linter.unusedVariables false
end Go.Proofs.Ytfbdlmenhoagmaa

namespace Go.Proofs.Ytfbdlmenhoagmaa
open Go Sy
set_option maxRecDepth 100000
set_option maxHeartbeats 4000000
set_option linter.unusedVariables false
set_option linter.unusedSimpArgs false
end Go.Proofs.Ytfbdlmenhoagmaa

namespace Go.Proofs.Ytfbdlmenhoagmaa
open Go Sy
set_option maxRecDepth 100000
set_option maxHeartbeats 4000000
set_option linter.unusedVariables false
set_option linter.unusedSimpArgs false
end Go.Proofs.Ytfbdlmenhoagmaa

namespace Go.Proofs.Ytfbdlmenhoagmaa
open Go Sy
set_option maxRecDepth 100000
set_option maxHeartbeats 4000000
set_option linter.unusedVariables false
set_option linter.unusedSimpArgs false
end Go.Proofs.Ytfbdlmenhoagmaa

namespace Go.Proofs.Ytfbdlmenhoagmaa
open Go Sy
set_option maxRecDepth 100000
set_option maxHeartbeats 4000000
set_option linter.unusedVariables false
set_option linter.unusedSimpArgs false
end Go.Proofs.Ytfbdlmenhoagmaa

namespace Go.Proofs.Ytfbdlmenhoagmaa
open Go Sy
set_option maxRecDepth 100000
set_option maxHeartbeats 4000000
set_option linter.unusedVariables false
set_option linter.unusedSimpArgs false
def hl1 (m : Mp) (f : Nat → Int) (w r k : Nat) : List Ld := if (ldsB m f r k && hpsB m f w r k) = true then [⟨r, k⟩] else []
def evP (w : Nat) (q : Int) (x : Ld) : Prt := ⟨w, x.r, x.k, q⟩
def evS (w : Nat) (q : Int) (l : List Ld) (j : Nat) : List Prt := (l.take j).map (evP w q) ++ (l.drop j).map (evP w 0)
end Go.Proofs.Ytfbdlmenhoagmaa

namespace Go.Proofs.Ytfbdlmenhoagmaa
open Go Sy
set_option maxRecDepth 100000
set_option maxHeartbeats 4000000
set_option linter.unusedVariables false
set_option linter.unusedSimpArgs false
end Go.Proofs.Ytfbdlmenhoagmaa

namespace Go.Proofs.Ytfbdlmenhoagmaa
open Go Sy
set_option maxRecDepth 100000
set_option maxHeartbeats 4000000
set_option linter.unusedVariables false
set_option linter.unusedSimpArgs false
def dpB (m : Mp) (s : List Int) (fr to t : Int) : Bool := setB s m.ws.length && (plB m.n fr && plB m.n to) && inR t 0 1099511627776
def dpE (m : Mp) (f : Nat → Int) (s : List Int) (fr to t : Int) : Int := if opE m f = 0 then (if dpB m s fr to t = true then 0 else 3) else opE m f
structure Dep (m : Mp) (f : Nat → Int) (s : List Int) (fr to t : Int) : Prop where
  hc : chkM m = 0
  hz : szE f = 0
  hs : Srt m.ws.length 0 s
  hf : 0 ≤ fr ∧ fr < m.n
  ht : 0 ≤ to ∧ to < m.n
  ha : 0 ≤ t ∧ t ≤ 1099511627776
theorem dep_of {m : Mp} {f : Nat → Int} {s : List Int} {fr to t : Int} (h : dpE m f s fr to t = 0) : Dep m f s fr to t := by
  unfold dpE at h
  by_cases h0 : opE m f = 0
  · rw [if_pos h0] at h
    by_cases h1 : dpB m s fr to t = true
    · unfold dpB plB at h1
      simp only [Bool.and_eq_true, decide_eq_true_eq, inR_iff] at h1
      have hchk : chkM m = 0 ∧ szE f = 0 := by
        unfold opE at h0
        by_cases q : chkM m = 0
        · rw [if_pos q] at h0; exact ⟨q, h0⟩
        · rw [if_neg q] at h0; exact absurd h0 q
      exact ⟨hchk.1, hchk.2, setB_srt h1.1.1, h1.1.2.1, h1.1.2.2, h1.2⟩
    · rw [if_neg h1] at h; omega
  · rw [if_neg h0] at h; exact absurd h h0
theorem fn108 (m : Mp) (f : Nat → Int) (s : List Int) (fr to t : Int) (hm : Gm m) (hl : s.length ≤ 1000000) : Sy.Fn Try.prog 108 [aM m, .agg (c6 f), aI s, iv fr, iv to, iv t] (.tup [.agg (opV m f), iv (dpE m f s fr to t)]) := by
  refine Fn_of_W mixed Xt108 rfl ?_
  have c52 := fn52 m f hm
  have c73 := fn73 s m.ws.length (by omega)
  have c53 := fn53 m [fr, to] (by simp)
  have c85 := fn85 t 0 1099511627776
  have hw := hm.w
  have hv : opV m f = cAt m f ∨ opV m f = zAt := by
    unfold opV
    split
    · exact .inl rfl
    · exact .inr rfl
  by_cases h0 : opE m f = 0
  rotate_left
  · have e1 : dpE m f s fr to t = opE m f := by unfold dpE; rw [if_neg h0]
    rw [e1]
    generalize opE m f = e at *
    rcases hv with hv | hv
    all_goals
      rw [hv] at c52 ⊢
      try unfold zAt at c52 ⊢
      repeat' (first | refine w1g ?_ | refine w1l ?_ | refine w1q ?_ | refine w1b ?_ | refine w1p ?_ | ((first | refine w1r ?_ | refine w1k ?_ | refine w1e ?_ | refine CallC.now (c52) ?_); (refine sy1 ?_; try exact True.intro)) | refine an2 ?_ | fail)
      refine W_cond (by rfl) (fun h => ?_) (fun h => absurd (by simpa using h) h0)
      repeat' (first | refine w1g ?_ | refine w1l ?_ | refine w1q ?_ | refine w1b ?_ | refine w1p ?_ | ((first | refine w1r ?_ | refine w1k ?_ | refine w1e ?_); (refine sy1 ?_; try exact True.intro)) | refine an2 ?_ | fail)
      exact W_ret ⟨[_, _], ⟨⟨⟨trivial, Nat.le_of_eq rfl⟩, rfl⟩, rfl, rfl⟩, rfl⟩
  have hchk : chkM m = 0 := by
    unfold opE at h0
    by_cases q : chkM m = 0
    · exact q
    · rw [if_neg q] at h0; exact absurd h0 q
  have hv : opV m f = cAt m f := by unfold opV; rw [if_pos hchk]
  have e1 : dpE m f s fr to t = if dpB m s fr to t = true then 0 else 3 := by unfold dpE; rw [if_pos h0]
  have e2 : dpB m s fr to t = (setB s m.ws.length && (plB m.n fr && plB m.n to) && inR t 0 1099511627776) := rfl
  have hpl : plsB m [fr, to] = (plB m.n fr && plB m.n to) := by simp [plsB]
  rw [hpl] at c53
  rw [h0, hv] at c52
  rw [hv, e1, e2]
  generalize inR t 0 1099511627776 = b4 at *
  generalize (plB m.n fr && plB m.n to) = b2 at *
  cases hb1 : setB s m.ws.length
  · rw [hb1] at c73
    repeat' (first | refine w1g ?_ | refine w1l ?_ | refine w1q ?_ | refine w1b ?_ | refine w1p ?_ | ((first | refine w1r ?_ | refine w1k ?_ | refine w1e ?_ | refine CallC.now (c52) ?_); (refine sy1 ?_; try exact True.intro)) | refine an2 ?_ | fail)
    refine W_cond (by rfl) (fun h => by cases h) (fun h => ?_)
    refine W_skip ?_
    (refine sy1 ?_; try exact True.intro)
    repeat (first | refine WK_go ?_ | refine W_seqL ?_ | refine W_seq ?_ | refine W_block ?_)
    refine W_regG [10] ?_
    simp (maxSteps := 400000) (disch := omega) only [push_cast, ↓reduceIte, reduceCtorEq, Nat.reduceAdd, Nat.reduceSub, Nat.reduceEqDiff, Nat.reduceLeDiff, Nat.reduceLT, Nat.reduceBEq, Nat.reduceDiv, Nat.reduceMod, Nat.reducePow, Nat.reduceMul, Int.reduceToNat, Int.reduceLT, Int.reduceLE, chainG, List.take_succ_cons, List.take_zero, List.drop_succ_cons, List.drop_zero]
    refine CallC.now c73 ?_
    simp (maxSteps := 400000) (disch := omega) only [push_cast, ↓reduceIte, reduceCtorEq, Nat.reduceAdd, Nat.reduceSub, Nat.reduceEqDiff, Nat.reduceLeDiff, Nat.reduceLT, Nat.reduceBEq, Nat.reduceDiv, Nat.reduceMod, Nat.reducePow, Nat.reduceMul, Int.reduceToNat, Int.reduceLT, Int.reduceLE, chainG, List.take_succ_cons, List.take_zero, List.drop_succ_cons, List.drop_zero]
    refine SpG_no rfl rfl ?_
    simp (maxSteps := 400000) (disch := omega) only [push_cast, ↓reduceIte, reduceCtorEq, Nat.reduceAdd, Nat.reduceSub, Nat.reduceEqDiff, Nat.reduceLeDiff, Nat.reduceLT, Nat.reduceBEq, Nat.reduceDiv, Nat.reduceMod, Nat.reducePow, Nat.reduceMul, Int.reduceToNat, Int.reduceLT, Int.reduceLE, chainG]
    refine CallC.go (iv 0) (fun hpc => absurd hpc (by simp [pc])) rfl ?_
    (refine sy1 ?_; try exact True.intro)
    refine CallC.go (bv false) (fun hpc => absurd hpc (by simp [pc])) rfl ?_
    (refine sy1 ?_; try exact True.intro)
    repeat' (first | refine w1g ?_ | refine w1l ?_ | refine w1q ?_ | refine w1b ?_ | refine w1p ?_ | ((first | refine w1r ?_ | refine w1k ?_ | refine w1e ?_); (refine sy1 ?_; try exact True.intro)) | refine an2 ?_ | fail)
    refine W_cond (by rfl) (fun _ => ?_) (fun h => by cases h)
    repeat' (first | refine w1g ?_ | refine w1l ?_ | refine w1q ?_ | refine w1b ?_ | refine w1p ?_ | ((first | refine w1r ?_ | refine w1k ?_ | refine w1e ?_); (refine sy1 ?_; try exact True.intro)) | refine an2 ?_ | fail)
    exact W_ret ⟨[_, _], ⟨⟨⟨trivial, Nat.le_of_eq rfl⟩, rfl⟩, rfl, rfl⟩, rfl⟩
  · rw [hb1] at c73
    repeat' (first | refine w1g ?_ | refine w1l ?_ | refine w1q ?_ | refine w1b ?_ | refine w1p ?_ | ((first | refine w1r ?_ | refine w1k ?_ | refine w1e ?_ | refine CallC.now (c52) ?_); (refine sy1 ?_; try exact True.intro)) | refine an2 ?_ | fail)
    refine W_cond (by rfl) (fun h => by cases h) (fun h => ?_)
    refine W_skip ?_
    (refine sy1 ?_; try exact True.intro)
    repeat (first | refine WK_go ?_ | refine W_seqL ?_ | refine W_seq ?_ | refine W_block ?_)
    refine W_regG [10] ?_
    simp (maxSteps := 400000) (disch := omega) only [push_cast, ↓reduceIte, reduceCtorEq, Nat.reduceAdd, Nat.reduceSub, Nat.reduceEqDiff, Nat.reduceLeDiff, Nat.reduceLT, Nat.reduceBEq, Nat.reduceDiv, Nat.reduceMod, Nat.reducePow, Nat.reduceMul, Int.reduceToNat, Int.reduceLT, Int.reduceLE, chainG, List.take_succ_cons, List.take_zero, List.drop_succ_cons, List.drop_zero]
    refine CallC.now c73 ?_
    simp (maxSteps := 400000) (disch := omega) only [push_cast, ↓reduceIte, reduceCtorEq, Nat.reduceAdd, Nat.reduceSub, Nat.reduceEqDiff, Nat.reduceLeDiff, Nat.reduceLT, Nat.reduceBEq, Nat.reduceDiv, Nat.reduceMod, Nat.reducePow, Nat.reduceMul, Int.reduceToNat, Int.reduceLT, Int.reduceLE, chainG, List.take_succ_cons, List.take_zero, List.drop_succ_cons, List.drop_zero]
    refine SpG_go rfl (by simp [underAll, under, covers, findL, R.uops, R.opds, ev, lk]) rfl ?_
    simp (maxSteps := 400000) (disch := omega) only [push_cast, ↓reduceIte, reduceCtorEq, Nat.reduceAdd, Nat.reduceSub, Nat.reduceEqDiff, Nat.reduceLeDiff, Nat.reduceLT, Nat.reduceBEq, Nat.reduceDiv, Nat.reduceMod, Nat.reducePow, Nat.reduceMul, Int.reduceToNat, Int.reduceLT, Int.reduceLE, chainG]
    refine ⟨rfl, trivial, Int, 0, cI, [fr, to], rfl, by omega, fun x _ => ⟨rfl, rfl⟩, rfl, ?_⟩
    (refine sy1 ?_; try exact True.intro)
    cases b2
    · repeat' (first | refine w1g ?_ | refine w1l ?_ | refine w1q ?_ | refine w1b ?_ | refine w1p ?_ | ((first | refine w1r ?_ | refine w1k ?_ | refine w1e ?_ | refine CallC.go _ (fun _ => ⟨trivial, c53⟩) rfl ?_); (refine sy1 ?_; try exact True.intro)) | refine an2 ?_ | (refine CallC.go (bv false) (fun hpc => absurd hpc (by simp [pc])) rfl ?_; (refine sy1 ?_; try exact True.intro)) | fail)
      refine W_cond (by rfl) (fun _ => ?_) (fun h => by cases h)
      repeat' (first | refine w1g ?_ | refine w1l ?_ | refine w1q ?_ | refine w1b ?_ | refine w1p ?_ | ((first | refine w1r ?_ | refine w1k ?_ | refine w1e ?_); (refine sy1 ?_; try exact True.intro)) | refine an2 ?_ | fail)
      exact W_ret ⟨[_, _], ⟨⟨⟨trivial, Nat.le_of_eq rfl⟩, rfl⟩, rfl, rfl⟩, rfl⟩
    · repeat' (first | refine w1g ?_ | refine w1l ?_ | refine w1q ?_ | refine w1b ?_ | refine w1p ?_ | ((first | refine w1r ?_ | refine w1k ?_ | refine w1e ?_ | refine CallC.go _ (fun _ => ⟨trivial, c53⟩) rfl ?_ | refine CallC.go _ (fun _ => ⟨trivial, c85⟩) rfl ?_); (refine sy1 ?_; try exact True.intro)) | refine an2 ?_ | fail)
      cases b4
      · refine W_cond (by rfl) (fun _ => ?_) (fun h => by cases h)
        repeat' (first | refine w1g ?_ | refine w1l ?_ | refine w1q ?_ | refine w1b ?_ | refine w1p ?_ | ((first | refine w1r ?_ | refine w1k ?_ | refine w1e ?_); (refine sy1 ?_; try exact True.intro)) | refine an2 ?_ | fail)
        exact W_ret ⟨[_, _], ⟨⟨⟨trivial, Nat.le_of_eq rfl⟩, rfl⟩, rfl, rfl⟩, rfl⟩
      · refine W_cond (by rfl) (fun h => by cases h) (fun _ => ?_)
        repeat' (first | refine w1g ?_ | refine w1l ?_ | refine w1q ?_ | refine w1b ?_ | refine w1p ?_ | ((first | refine w1r ?_ | refine w1k ?_ | refine w1e ?_); (refine sy1 ?_; try exact True.intro)) | refine an2 ?_ | fail)
        exact W_ret ⟨[_, _], ⟨⟨⟨trivial, Nat.le_of_eq rfl⟩, rfl⟩, rfl, rfl⟩, rfl⟩
end Go.Proofs.Ytfbdlmenhoagmaa

namespace Go.Proofs.Ytfbdlmenhoagmaa
set_option linter.unusedVariables false
structure TEd where
  x : Nat
  y : Nat
  g : Int → Int
theorem least_nat {p : Nat → Prop} : ∀ k, p k → ∃ j, p j ∧ ∀ i, p i → j ≤ i := fun k => by
  induction k using Nat.strongRecOn with
  | _ k ih =>
    intro hk
    by_cases q : ∃ i, i < k ∧ p i
    · obtain ⟨i, h1, h2⟩ := q
      exact ih i h1 h2
    · exact ⟨k, hk, fun i hi => by
        rcases Nat.lt_or_ge i k with r | r
        · exact absurd ⟨i, r, hi⟩ q
        · exact r⟩
structure TOk (n : Nat) (e : TEd) : Prop where
  x : e.x < n
  y : e.y < n
  up : ∀ a b, 0 ≤ a → a ≤ b → e.g a ≤ e.g b
  gt : ∀ a, 0 ≤ a → a + 1 ≤ e.g a
inductive TW (es : List TEd) (s : Nat) (t0 : Int) : Nat → Int → Prop
  | nil : TW es s t0 s t0
  | snoc {e : TEd} {d : Int} : TW es s t0 e.x d → e ∈ es → TW es s t0 e.y (e.g d)
structure Tms (es : List TEd) (s n : Nat) (t0 : Int) (o : List Int) : Prop where
  len : o.length = n
  src : gi o s = t0
  ach : ∀ y, y < n → gi o y = -1 ∨ TW es s t0 y (gi o y)
def TFix (es : List TEd) (o : List Int) : Prop := ∀ e ∈ es, 0 ≤ gi o e.x → 0 ≤ gi o e.y ∧ gi o e.y ≤ e.g (gi o e.x)
section
variable {es : List TEd} {s n : Nat} {t0 : Int} {o : List Int}
theorem TW.ge (he : ∀ e ∈ es, TOk n e) (h0 : 0 ≤ t0) {y : Nat} {t : Int} (h : TW es s t0 y t) : t0 ≤ t := by
  induction h with
  | nil => exact Int.le_refl _
  | snoc _ h2 ih => have := (he _ h2).gt _ (Int.le_trans h0 ih); omega
theorem TW.lt (he : ∀ e ∈ es, TOk n e) (hs : s < n) {y : Nat} {t : Int} (h : TW es s t0 y t) : y < n := by
  cases h with
  | nil => exact hs
  | snoc _ h2 => exact (he _ h2).y
theorem Tms.nn (he : ∀ e ∈ es, TOk n e) (h0 : 0 ≤ t0) (h : Tms es s n t0 o) {y : Nat} (hy : y < n) : gi o y = -1 ∨ (0 ≤ gi o y ∧ TW es s t0 y (gi o y)) := by
  rcases h.ach y hy with q | q
  · exact .inl q
  · exact .inr ⟨Int.le_trans h0 (q.ge he h0), q⟩
theorem tfix_le (he : ∀ e ∈ es, TOk n e) (h0 : 0 ≤ t0) (h : Tms es s n t0 o) (hf : TFix es o) {y : Nat} {t : Int} (hw : TW es s t0 y t) : 0 ≤ gi o y ∧ gi o y ≤ t := by
  induction hw with
  | nil => rw [h.src]; exact ⟨h0, Int.le_refl _⟩
  | snoc h1 h2 ih =>
    have := hf _ h2 ih.1
    have := (he _ h2).up _ _ ih.1 ih.2
    omega
theorem tms_eq (he : ∀ e ∈ es, TOk n e) (h0 : 0 ≤ t0) {u : List Int} (h : Tms es s n t0 o) (hf : TFix es o) (h2 : Tms es s n t0 u) (hf2 : TFix es u) : o = u := by
  apply List.ext_getElem (by rw [h.len, h2.len])
  intro i h3 h4
  have hi : i < n := by rw [h.len] at h3; exact h3
  have e1 : gi o i = o[i] := by simp [gi, List.getD, h3]
  have e2 : gi u i = u[i] := by simp [gi, List.getD, h4]
  rw [← e1, ← e2]
  rcases h.nn he h0 hi with q | ⟨q, q2⟩ <;> rcases h2.nn he h0 hi with r | ⟨r, r2⟩
  · omega
  · have := tfix_le he h0 h hf r2; omega
  · have := tfix_le he h0 h2 hf2 q2; omega
  · have := tfix_le he h0 h hf r2; have := tfix_le he h0 h2 hf2 q2; omega
open Classical in
theorem tms_ex (he : ∀ e ∈ es, TOk n e) (h0 : 0 ≤ t0) (hs : s < n) : ∃ D, Tms es s n t0 D ∧ TFix es D := by
  have key : ∀ y : Nat, ∃ d : Int, (d = -1 ∧ ∀ t, ¬ TW es s t0 y t) ∨ (0 ≤ d ∧ TW es s t0 y d ∧ ∀ t, TW es s t0 y t → d ≤ t) := fun y => by
    by_cases q : ∃ k : Nat, TW es s t0 y (k : Int)
    · obtain ⟨k, hk⟩ := q
      obtain ⟨j, hj, hj2⟩ := least_nat (p := fun k => TW es s t0 y (k : Int)) k hk
      refine ⟨(j : Nat), .inr ⟨by omega, hj, fun t ht => ?_⟩⟩
      have h1 := Int.le_trans h0 (ht.ge he h0)
      have h2 : j ≤ t.toNat := hj2 t.toNat (by rw [show ((t.toNat : Nat) : Int) = t by omega]; exact ht)
      omega
    · refine ⟨-1, .inl ⟨rfl, fun t ht => q ⟨t.toNat, ?_⟩⟩⟩
      have h1 := Int.le_trans h0 (ht.ge he h0)
      rw [show ((t.toNat : Nat) : Int) = t by omega]; exact ht
  let d : Nat → Int := fun y => Classical.choose (key y)
  have hd : ∀ y, (d y = -1 ∧ ∀ t, ¬ TW es s t0 y t) ∨ (0 ≤ d y ∧ TW es s t0 y (d y) ∧ ∀ t, TW es s t0 y t → d y ≤ t) := fun y => Classical.choose_spec (key y)
  have hg : ∀ y, y < n → gi ((List.range n).map d) y = d y := fun y hy => by simp [gi, List.getD, hy]
  refine ⟨(List.range n).map d, ⟨by simp, ?_, fun y hy => ?_⟩, fun e hm hx => ?_⟩
  · rw [hg s hs]
    rcases hd s with ⟨_, q⟩ | ⟨_, q, q2⟩
    · exact absurd .nil (q t0)
    · have := q2 t0 .nil
      have := q.ge he h0
      omega
  · rw [hg y hy]
    rcases hd y with ⟨q, _⟩ | ⟨_, q, _⟩
    · exact .inl q
    · exact .inr q
  · have ok := he e hm
    rw [hg _ ok.x] at hx ⊢
    rw [hg _ ok.y]
    rcases hd e.x with ⟨q, _⟩ | ⟨_, q, _⟩
    · omega
    · have h1 : TW es s t0 e.y (e.g (d e.x)) := .snoc q hm
      rcases hd e.y with ⟨_, r⟩ | ⟨r, _, r2⟩
      · exact absurd h1 (r _)
      · exact ⟨r, r2 _ h1⟩
def tst (o : List Int) (e : TEd) : List Int := if 0 ≤ gi o e.x ∧ (gi o e.y < 0 ∨ e.g (gi o e.x) < gi o e.y) then o.set e.y (e.g (gi o e.x)) else o
def tps (o : List Int) (es : List TEd) : List Int := es.foldl tst o
def trn (es : List TEd) (o : List Int) : Nat → List Int
  | 0 => o
  | k + 1 => tps (trn es o k) es
theorem tst_len (o : List Int) (e : TEd) : (tst o e).length = o.length := by
  unfold tst; split <;> simp
theorem tst_tms (he : ∀ e ∈ es, TOk n e) (h0 : 0 ≤ t0) (h : Tms es s n t0 o) {e : TEd} (hm : e ∈ es) : Tms es s n t0 (tst o e) := by
  unfold tst
  split
  · rename_i q
    obtain ⟨q1, q2⟩ := q
    have ok := he e hm
    have hl : e.y < o.length := by rw [h.len]; exact ok.y
    have hx : TW es s t0 e.x (gi o e.x) := by
      rcases h.ach e.x ok.x with r | r
      · omega
      · exact r
    have hy : TW es s t0 e.y (e.g (gi o e.x)) := .snoc hx hm
    refine ⟨by rw [List.length_set]; exact h.len, ?_, fun y hyn => ?_⟩
    · rw [gi_set hl]
      split
      · rename_i r
        have h1 := hy.ge he h0
        rw [← r] at q2
        have := h.src
        omega
      · exact h.src
    · rw [gi_set hl]
      split
      · rename_i r; subst r; exact .inr hy
      · exact h.ach y hyn
  · exact h
theorem tps_tms (he : ∀ e ∈ es, TOk n e) (h0 : 0 ≤ t0) : ∀ (fs : List TEd) (o : List Int), (∀ e ∈ fs, e ∈ es) → Tms es s n t0 o → Tms es s n t0 (tps o fs)
  | [], o, _, h => h
  | e :: fs, o, hs, h => tps_tms he h0 fs (tst o e) (fun x hx => hs x (List.mem_cons_of_mem _ hx)) (tst_tms he h0 h (hs e List.mem_cons_self))
theorem trn_tms (he : ∀ e ∈ es, TOk n e) (h0 : 0 ≤ t0) (h : Tms es s n t0 o) : ∀ k, Tms es s n t0 (trn es o k)
  | 0 => h
  | k + 1 => tps_tms he h0 es _ (fun e hm => hm) (trn_tms he h0 h k)
theorem tst_le {e : TEd} (hl : e.y < o.length) (i : Nat) (hi : 0 ≤ gi o i) (hg : 0 ≤ gi o e.x → 0 ≤ e.g (gi o e.x)) : 0 ≤ gi (tst o e) i ∧ gi (tst o e) i ≤ gi o i := by
  unfold tst
  split
  · rename_i q
    have h2 := hg q.1
    rw [gi_set hl]
    split
    · rename_i r; subst r; omega
    · omega
  · omega
theorem tps_le (he : ∀ e ∈ es, TOk n e) : ∀ (fs : List TEd) (o : List Int), (∀ e ∈ fs, e ∈ es) → o.length = n → ∀ i, 0 ≤ gi o i → 0 ≤ gi (tps o fs) i ∧ gi (tps o fs) i ≤ gi o i
  | [], o, _, _, i, h => ⟨h, Int.le_refl _⟩
  | e :: fs, o, hs, hl, i, h => by
    have ok := he e (hs e List.mem_cons_self)
    have h1 := tst_le (o := o) (e := e) (by rw [hl]; exact ok.y) i h (fun q => by have := ok.gt _ q; omega)
    have h2 := tps_le he fs (tst o e) (fun x hx => hs x (List.mem_cons_of_mem _ hx)) (by rw [tst_len]; exact hl) i h1.1
    show 0 ≤ gi (tps (tst o e) fs) i ∧ gi (tps (tst o e) fs) i ≤ gi o i
    omega
theorem tps_use (he : ∀ e ∈ es, TOk n e) : ∀ (fs : List TEd) (o : List Int), (∀ e ∈ fs, e ∈ es) → o.length = n → ∀ e ∈ fs, 0 ≤ gi o e.x → 0 ≤ gi (tps o fs) e.y ∧ gi (tps o fs) e.y ≤ e.g (gi o e.x)
  | [], o, _, _, e, h, _ => by cases h
  | f :: fs, o, hs, hl, e, hm, hx => by
    have hs' : ∀ x ∈ fs, x ∈ es := fun x q => hs x (List.mem_cons_of_mem _ q)
    have hl' : (tst o f).length = n := by rw [tst_len]; exact hl
    show 0 ≤ gi (tps (tst o f) fs) e.y ∧ gi (tps (tst o f) fs) e.y ≤ e.g (gi o e.x)
    rcases List.mem_cons.1 hm with rfl | hm
    · have ok := he e (hs e List.mem_cons_self)
      have hg := ok.gt _ hx
      have h1 : 0 ≤ gi (tst o e) e.y ∧ gi (tst o e) e.y ≤ e.g (gi o e.x) := by
        unfold tst
        split
        · rw [gi_set (by rw [hl]; exact ok.y), if_pos rfl]; omega
        · rename_i q
          by_cases z : gi o e.y < 0
          · exact absurd ⟨hx, .inl z⟩ q
          · by_cases z2 : e.g (gi o e.x) < gi o e.y
            · exact absurd ⟨hx, .inr z2⟩ q
            · omega
      have h2 := tps_le he fs (tst o e) hs' hl' e.y h1.1
      omega
    · have okf := he f (hs f List.mem_cons_self)
      have ok := he e (hs' e hm)
      have h1 := tst_le (o := o) (e := f) (by rw [hl]; exact okf.y) e.x hx (fun q => by have := okf.gt _ q; omega)
      have h2 := tps_use he fs (tst o f) hs' hl' e hm h1.1
      have := ok.up _ _ h1.1 h1.2
      omega
def rkT (os : List Int) (n y : Nat) : Nat := (List.range n).countP (fun z => decide (0 ≤ gi os z ∧ gi os z < gi os y))
theorem rkT_le (os : List Int) (n y : Nat) : rkT os n y ≤ n := by
  have := List.countP_le_length (p := fun z => decide (0 ≤ gi os z ∧ gi os z < gi os y)) (l := List.range n)
  rwa [List.length_range] at this
theorem rkT_lt {os : List Int} {x y : Nat} (hx : x < n) (h0 : 0 ≤ gi os x) (h : gi os x < gi os y) : rkT os n x < rkT os n y :=
  countP_lt (fun z hz q => by rw [decide_eq_true_eq] at q ⊢; omega) ⟨x, List.mem_range.2 hx, by rw [decide_eq_true_eq]; omega, by rw [decide_eq_false_iff_not]; omega⟩
theorem last_edge (he : ∀ e ∈ es, TOk n e) (h0 : 0 ≤ t0) (h : Tms es s n t0 o) (hf : TFix es o) {y : Nat} (hy : y < n) (hl : 0 ≤ gi o y) : y = s ∨ ∃ e ∈ es, e.y = y ∧ 0 ≤ gi o e.x ∧ gi o y = e.g (gi o e.x) := by
  rcases h.ach y hy with h1 | h1
  · omega
  · generalize hd : gi o y = d at h1
    cases h1 with
    | nil => exact .inl rfl
    | snoc h2 h3 =>
      right
      have h5 := tfix_le he h0 h hf h2
      have h6 := hf _ h3 h5.1
      have h7 := (he _ h3).up _ _ h5.1 h5.2
      exact ⟨_, h3, rfl, h5.1, by omega⟩
theorem trn_fin (he : ∀ e ∈ es, TOk n e) (h0 : 0 ≤ t0) {D : List Int} (h : Tms es s n t0 D) (hf : TFix es D) (ho : Tms es s n t0 o) : ∀ (k y : Nat), y < n → 0 ≤ gi D y → rkT D n y ≤ k → gi (trn es o k) y = gi D y := by
  have hge : ∀ k y, y < n → 0 ≤ gi (trn es o k) y → gi D y ≤ gi (trn es o k) y := fun k y hy h1 => by
    rcases (trn_tms he h0 ho k).ach y hy with q | q
    · omega
    · exact (tfix_le he h0 h hf q).2
  intro k
  induction k with
  | zero =>
    intro y hy hd hk
    rcases last_edge he h0 h hf hy hd with rfl | ⟨e, hm, rfl, hx, h1⟩
    · rw [(trn_tms he h0 ho 0).src, h.src]
    · have ok := he e hm
      have := rkT_lt (n := n) (os := D) (y := e.y) ok.x hx (by have := ok.gt _ hx; omega)
      omega
  | succ k ih =>
    intro y hy hd hk
    rcases last_edge he h0 h hf hy hd with rfl | ⟨e, hm, rfl, hx, h1⟩
    · rw [(trn_tms he h0 ho (k + 1)).src, h.src]
    · have ok := he e hm
      have h2 := rkT_lt (n := n) (os := D) (y := e.y) ok.x hx (by have := ok.gt _ hx; omega)
      have h3 := ih e.x ok.x hx (by omega)
      have h4 := tps_use he es (trn es o k) (fun e hm => hm) (trn_tms he h0 ho k).len e hm (by omega)
      have h5 : gi (trn es o (k + 1)) e.y = gi (tps (trn es o k) es) e.y := rfl
      have h6 := hge (k + 1) e.y hy (by omega)
      rw [h3, ← h1] at h4
      omega
def tin (n s : Nat) (t0 : Int) : List Int := (List.replicate n (-1)).set s t0
theorem tin_tms (hs : s < n) : Tms es s n t0 (tin n s t0) := by
  have hl : (List.replicate n (-1 : Int)).length = n := by simp
  refine ⟨by simp [tin], ?_, fun y hy => ?_⟩
  · unfold tin; rw [gi_set (by omega), if_pos rfl]
  · unfold tin
    rw [gi_set (by omega)]
    split
    · rename_i q; subst q; exact .inr .nil
    · left; simp [gi, List.getD, hy]
def tdst (es : List TEd) (n s : Nat) (t0 : Int) : List Int := trn es (tin n s t0) n
theorem tdst_ok (he : ∀ e ∈ es, TOk n e) (h0 : 0 ≤ t0) (hs : s < n) : Tms es s n t0 (tdst es n s t0) ∧ TFix es (tdst es n s t0) := by
  obtain ⟨D, h1, h2⟩ := tms_ex he h0 hs
  have ht := trn_tms he h0 (tin_tms (es := es) (t0 := t0) hs) n
  have e : tdst es n s t0 = D := by
    apply List.ext_getElem (by rw [h1.len]; exact ht.len)
    intro i h3 h4
    have hi : i < n := by rw [h1.len] at h4; exact h4
    have e1 : gi (tdst es n s t0) i = (tdst es n s t0)[i] := by simp [gi, List.getD, h3]
    have e2 : gi D i = D[i] := by simp [gi, List.getD, h4]
    rw [← e1, ← e2]
    rcases h1.nn he h0 hi with q | ⟨q, q2⟩
    · rcases ht.nn he h0 hi with r | ⟨r, r2⟩
      · rw [q]; exact r
      · have := tfix_le he h0 h1 h2 r2; omega
    · exact trn_fin he h0 h1 h2 (tin_tms hs) n i hi q (rkT_le _ _ _)
  rw [e]
  exact ⟨h1, h2⟩
end
end Go.Proofs.Ytfbdlmenhoagmaa

namespace Go.Proofs.Ytfbdlmenhoagmaa
open Go Sy
set_option linter.unusedVariables false
theorem lvT_up {n : Int} {r : Rd} (h : OkR n r) {a b : Int} (ha : 0 ≤ a) (hab : a ≤ b) : lvT r a ≤ lvT r b := by
  have ho := h.o; have hm := h.m
  unfold lvT
  have a1 := Int.emod_nonneg a (show (1440 : Int) ≠ 0 by decide)
  have a2 := Int.emod_lt_of_pos a (show (0 : Int) < 1440 by decide)
  have a3 := Int.mul_ediv_add_emod a 1440
  have b1 := Int.emod_nonneg b (show (1440 : Int) ≠ 0 by decide)
  have b2 := Int.emod_lt_of_pos b (show (0 : Int) < 1440 by decide)
  have b3 := Int.mul_ediv_add_emod b 1440
  generalize a % 1440 = x at *
  generalize b % 1440 = y at *
  generalize a / 1440 = p at *
  generalize b / 1440 = q at *
  by_cases c1 : x < r.o <;> by_cases c2 : y < r.o <;> by_cases c3 : r.z - r.m < x <;> by_cases c4 : r.z - r.m < y <;> simp only [c1, c2, c3, c4, if_true, if_false] <;> omega
def tEd (m : Mp) (i : Nat) : TEd := ⟨(gr m i).f.toNat, (gr m i).t.toNat, lvT (gr m i)⟩
theorem tEd_ok {m : Mp} (h : OkM m) {i : Nat} (hi : i < m.rs.length) : TOk m.n.toNat (tEd m i) := by
  have ok := roadB_ok (h.r i hi)
  have := ok.f; have := ok.t
  exact ⟨show (gr m i).f.toNat < _ by omega, show (gr m i).t.toNat < _ by omega, fun a b ha hab => lvT_up ok ha hab, fun a ha => (lvT_rng ok a ha).1⟩
def tes (m : Mp) (p : Nat → Bool) (j : Nat) : List TEd := ((List.range j).filter p).map (tEd m)
theorem tes_mem {m : Mp} {p : Nat → Bool} {j : Nat} {e : TEd} : e ∈ tes m p j ↔ ∃ i, i < j ∧ p i = true ∧ e = tEd m i := by
  unfold tes
  rw [List.mem_map]
  constructor
  · rintro ⟨i, hi, rfl⟩
    rw [List.mem_filter, List.mem_range] at hi
    exact ⟨i, hi.1, hi.2, rfl⟩
  · rintro ⟨i, h1, h2, rfl⟩
    exact ⟨i, List.mem_filter.2 ⟨List.mem_range.2 h1, h2⟩, rfl⟩
theorem tes_ok {m : Mp} (h : OkM m) (p : Nat → Bool) : ∀ e ∈ tes m p m.rs.length, TOk m.n.toNat e := fun e he => by
  obtain ⟨i, hi, _, rfl⟩ := tes_mem.1 he
  exact tEd_ok h hi
def goB (m : Mp) (f : Nat → Int) (s : List Int) (sk : Int → Bool) (i : Nat) : Bool := usB m f s i && !sk (gr m i).t
def labT (m : Mp) (f : Nat → Int) (s : List Int) (sk : Int → Bool) (fr t : Int) : List Int := tdst (tes m (goB m f s sk) m.rs.length) m.n.toNat fr.toNat t
theorem labT_ok {m : Mp} (h : OkM m) (f : Nat → Int) (s : List Int) (sk : Int → Bool) {fr t : Int} (hf : 0 ≤ fr ∧ fr < m.n) (ht : 0 ≤ t) : Tms (tes m (goB m f s sk) m.rs.length) fr.toNat m.n.toNat t (labT m f s sk fr t) ∧ TFix (tes m (goB m f s sk) m.rs.length) (labT m f s sk fr t) :=
  tdst_ok (tes_ok h _) ht (by omega)
theorem lab_bound {m : Mp} (h : OkM m) {p : Nat → Bool} {s : Nat} {t0 : Int} (h0 : 0 ≤ t0) {D : List Int} (hD : Tms (tes m p m.rs.length) s m.n.toNat t0 D) (hf : TFix (tes m p m.rs.length) D) : ∀ (k y : Nat), y < m.n.toNat → 0 ≤ gi D y → rkT D m.n.toNat y ≤ k → gi D y ≤ t0 + 4320 * k := by
  intro k
  induction k with
  | zero =>
    intro y hy hd hk
    rcases last_edge (tes_ok h p) h0 hD hf hy hd with rfl | ⟨e, hm, rfl, hx, h1⟩
    · rw [hD.src]; omega
    · have ok := tes_ok h p e hm
      have := rkT_lt (n := m.n.toNat) (os := D) (y := e.y) ok.x hx (by have := ok.gt _ hx; omega)
      omega
  | succ k ih =>
    intro y hy hd hk
    rcases last_edge (tes_ok h p) h0 hD hf hy hd with rfl | ⟨e, hm, rfl, hx, h1⟩
    · rw [hD.src]; omega
    · have ok := tes_ok h p e hm
      have h2 := rkT_lt (n := m.n.toNat) (os := D) (y := e.y) ok.x hx (by have := ok.gt _ hx; omega)
      have h3 := ih e.x ok.x hx (by omega)
      obtain ⟨i, hi, _, rfl⟩ := tes_mem.1 hm
      have h4 := (lvT_rng (roadB_ok (h.r i hi)) _ hx).2
      have e2 : (tEd m i).g = lvT (gr m i) := rfl
      rw [h1, e2]
      push_cast
      omega
theorem labT_rng {m : Mp} (h : OkM m) (f : Nat → Int) (s : List Int) (sk : Int → Bool) {fr t : Int} (hf : 0 ≤ fr ∧ fr < m.n) (ht : 0 ≤ t) {y : Nat} (hy : y < m.n.toNat) : gi (labT m f s sk fr t) y = -1 ∨ (t ≤ gi (labT m f s sk fr t) y ∧ gi (labT m f s sk fr t) y ≤ t + 276480) := by
  obtain ⟨h1, h2⟩ := labT_ok h f s sk hf ht
  rcases h1.nn (tes_ok h _) ht hy with q | ⟨q, q2⟩
  · exact .inl q
  · have := lab_bound h ht h1 h2 m.n.toNat y hy q (rkT_le _ _ _)
    have := q2.ge (tes_ok h _) ht
    have := h.n
    right; omega
end Go.Proofs.Ytfbdlmenhoagmaa

namespace Go.Proofs.Ytfbdlmenhoagmaa
open Go Sy
set_option maxRecDepth 100000
set_option maxHeartbeats 4000000
set_option linter.unusedVariables false
set_option linter.unusedSimpArgs false
theorem finN_of_finO {rv : List RV} {T n : Nat} {α : Type} {d : α} {F : α → List AV} {l : List α} (hp : ∀ x ∈ l, pureAll (F x) = true) : ∀ e s, FinO rv T n d F l e s → FinN rv (.sl n d F l) e s := fun e s q => by
  have key : ∀ k st, lm s.mem k = some (.row st T n d F l) → pack ([AV.row k st].map (view (lm s.mem) 4)) = .sl n d F l ∧ newL (lm s.mem) [AV.row k st] := fun k st h => by
    refine ⟨by simp only [List.map_cons, List.map_nil, view, h, if_true, pack], ⟨?_, trivial⟩⟩
    simp only [newB, h]
    exact hp
  cases e with
  | e id => exact q.elim
  | n => obtain ⟨k, st, h1, h2⟩ := q; exact ⟨_, h1, key k st h2⟩
  | r => obtain ⟨k, st, h1, h2⟩ := q; exact ⟨_, h1, key k st h2⟩
end Go.Proofs.Ytfbdlmenhoagmaa

namespace Go.Proofs.Ytfbdlmenhoagmaa
open Go Sy
set_option linter.unusedVariables false
structure Vis where
  p : Int
  t : Int
def dV : Vis := ⟨0, 0⟩
def cV (c : Vis) : List AV := [iv c.p, iv c.t]
theorem lV (c : Vis) : (cV c).length = 2 := rfl
theorem frV (c : Vis) : frzAll (cV c) = true := rfl
theorem tV (c : Vis) : List.take 2 (List.drop 0 (cV c)) = cV c := rfl
theorem tV2 (c : Vis) : List.take 2 (cV c) = cV c := rfl
theorem iV {m : Nat → Option Blk} {n : Nat} (c : Vis) : List.flatMap (ids m n) (cV c) = [] := flat_frz n _ (frV c)
theorem vV {m : Nat → Option Blk} {n : Nat} (c : Vis) : List.map (view m n) (cV c) = cV c := viewL_frz n _ (frV c)
theorem uV (a b : Vis) : cV a ++ List.drop 2 (cV b) = cV a := rfl
attribute [push_cast] lV frV tV tV2 iV vV uV
abbrev aV (l : List Vis) : AV := .sl 2 dV cV l
abbrev gv (l : List Vis) (i : Nat) : Vis := l.getD i dV
def mv (l : List Vis) : Nat → Vis
  | 0 => gv l 0
  | i + 1 => if (gv l i).t < (mv l i).t then gv l i else mv l i
theorem mv_one (l : List Vis) : mv l 1 = gv l 0 := by unfold mv mv; rw [if_neg (by omega)]
theorem mv_mem (l : List Vis) : ∀ i, i ≤ l.length → 0 < l.length → ∃ j, j < l.length ∧ mv l i = gv l j
  | 0, _, h => ⟨0, h, rfl⟩
  | i + 1, hi, h => by
    simp only [mv]
    split
    · exact ⟨i, by omega, rfl⟩
    · exact mv_mem l i (by omega) h
theorem mv_le (l : List Vis) : ∀ i, ∀ j, j < i → (mv l i).t ≤ (gv l j).t
  | 0, j, hj => by omega
  | i + 1, j, hj => by
    simp only [mv]
    by_cases q : (gv l i).t < (mv l i).t
    · rw [if_pos q]
      by_cases e : j = i
      · rw [e]; exact Int.le_refl _
      · have := mv_le l i j (by omega); omega
    · rw [if_neg q]
      by_cases e : j = i
      · rw [e]; omega
      · exact mv_le l i j (by omega)
def eqV1 (v x : Vis) : Bool := v.p == x.p && v.t == x.t
theorem eqV1_iff {v x : Vis} : eqV1 v x = true ↔ v = x := by
  unfold eqV1
  rw [Bool.and_eq_true, beq_iff_eq, beq_iff_eq]
  constructor
  · rintro ⟨h1, h2⟩; cases v; cases x; simp at h1 h2; rw [h1, h2]
  · rintro rfl; exact ⟨rfl, rfl⟩
structure DJ (es : List TEd) (s n : Nat) (t0 : Int) (o : List Int) (l : List Vis) : Prop where
  len : o.length = n
  ach : ∀ y, y < n → gi o y = -1 ∨ TW es s t0 y (gi o y)
  q : ∀ v ∈ l, 0 ≤ v.p ∧ v.p.toNat < n ∧ TW es s t0 v.p.toNat v.t
  ord : ∀ y, y < n → 0 ≤ gi o y → ∀ v ∈ l, gi o y ≤ v.t
  src : gi o s = t0 ∨ (gi o s = -1 ∧ ∃ v ∈ l, v.p = s ∧ v.t = t0)
  cl : ∀ e ∈ es, 0 ≤ gi o e.x → (0 ≤ gi o e.y ∧ gi o e.y ≤ e.g (gi o e.x)) ∨ (gi o e.y = -1 ∧ ∃ v ∈ l, v.p = e.y ∧ v.t ≤ e.g (gi o e.x))
section
variable {es : List TEd} {s n : Nat} {t0 : Int} {o : List Int} {l : List Vis}
theorem dj_ini (he : ∀ e ∈ es, TOk n e) (hs : s < n) : DJ es s n t0 (List.replicate n (-1)) [⟨(s : Int), t0⟩] := by
  have hg : ∀ y, y < n → gi (List.replicate n (-1 : Int)) y = -1 := fun y hy => by simp [gi, List.getD, hy]
  refine ⟨by simp, fun y hy => .inl (hg y hy), fun v hv => ?_, fun y hy h => ?_, .inr ⟨hg s hs, _, List.mem_singleton.2 rfl, rfl, rfl⟩, fun e hm h => ?_⟩
  · rw [List.mem_singleton] at hv
    subst hv
    refine ⟨by show (0 : Int) ≤ (s : Int); omega, by show ((s : Int)).toNat < n; omega, ?_⟩
    show TW es s t0 ((s : Int)).toNat t0
    rw [Int.toNat_natCast]
    exact .nil
  · rw [hg y hy] at h; omega
  · rw [hg e.x (he e hm).x] at h; omega
theorem mem_erase {j : Nat} (hj : j < l.length) {x : Vis} (hx : x ∈ l) (hne : x ≠ gv l j) : x ∈ l.eraseIdx j := by
  rw [List.mem_eraseIdx_iff_getElem]
  obtain ⟨i, hi, rfl⟩ := List.mem_iff_getElem.1 hx
  refine ⟨i, hi, fun e => hne ?_, rfl⟩
  subst e
  simp [gv, List.getD, hi]
theorem of_erase {j : Nat} {x : Vis} (hx : x ∈ l.eraseIdx j) : x ∈ l := List.mem_of_mem_eraseIdx hx
theorem dj_skip (h : DJ es s n t0 o l) {j : Nat} (hj : j < l.length) (h0 : 0 ≤ gi o (gv l j).p.toNat) : DJ es s n t0 o (l.eraseIdx j) := by
  have ne : ∀ x ∈ l, gi o x.p.toNat = -1 → x ≠ gv l j := fun x _ hx e => by rw [e] at hx; omega
  refine ⟨h.len, h.ach, fun v hv => h.q v (of_erase hv), fun y hy h1 v hv => h.ord y hy h1 v (of_erase hv), ?_, fun e he hx => ?_⟩
  · rcases h.src with q | ⟨q, v, hv, e1, e2⟩
    · exact .inl q
    · refine .inr ⟨q, v, mem_erase hj hv (ne v hv ?_), e1, e2⟩
      rw [e1, Int.toNat_natCast]; exact q
  · rcases h.cl e he hx with q | ⟨q, v, hv, e1, e2⟩
    · exact .inl q
    · refine .inr ⟨q, v, mem_erase hj hv (ne v hv ?_), e1, e2⟩
      rw [e1, Int.toNat_natCast]; exact q
theorem dj_take (he : ∀ e ∈ es, TOk n e) (h0 : 0 ≤ t0) (h : DJ es s n t0 o l) {j : Nat} (hj : j < l.length) (hmin : ∀ x ∈ l, (gv l j).t ≤ x.t) (h1 : gi o (gv l j).p.toNat = -1) {nw : List Vis}
    (n1 : ∀ x ∈ nw, ∃ e ∈ es, e.x = (gv l j).p.toNat ∧ x.p = e.y ∧ x.t = e.g (gv l j).t)
    (n2 : ∀ e ∈ es, e.x = (gv l j).p.toNat → gi (o.set (gv l j).p.toNat (gv l j).t) e.y = -1 → ∃ x ∈ nw, x.p = e.y ∧ x.t = e.g (gv l j).t) : DJ es s n t0 (o.set (gv l j).p.toNat (gv l j).t) (l.eraseIdx j ++ nw) := by
  have hvm : gv l j ∈ l := by simp [gv, List.getD, hj]
  obtain ⟨q1, q2, q3⟩ := h.q _ hvm
  have hge := q3.ge he h0
  have hlen := h.len
  generalize hv : gv l j = v at *
  have hset : ∀ y, gi (o.set v.p.toNat v.t) y = if y = v.p.toNat then v.t else gi o y := fun y => gi_set (by omega)
  have hold : ∀ y, y < n → 0 ≤ gi o y → gi o y ≤ v.t := fun y hy hh => h.ord y hy hh v hvm
  have ne : ∀ x ∈ l, x.p.toNat ≠ v.p.toNat → x ≠ gv l j := fun x _ hx e => by rw [e, hv] at hx; exact hx rfl
  refine ⟨by rw [List.length_set]; exact h.len, fun y hy => ?_, fun x hx => ?_, fun y hy hh x hx => ?_, ?_, fun e hm hx => ?_⟩
  · rw [hset]
    split
    · rename_i e; rw [e]; exact .inr q3
    · exact h.ach y hy
  · rcases List.mem_append.1 hx with hx | hx
    · exact h.q x (of_erase hx)
    · obtain ⟨e, hm, e1, e2, e3⟩ := n1 x hx
      have ok := he e hm
      refine ⟨by rw [e2]; omega, by rw [e2, Int.toNat_natCast]; exact ok.y, ?_⟩
      rw [e2, e3, Int.toNat_natCast]
      exact .snoc (by rw [e1]; exact q3) hm
  · have hle : gi (o.set v.p.toNat v.t) y ≤ v.t := by
      rw [hset] at hh ⊢
      split
      · exact Int.le_refl _
      · rename_i z; rw [if_neg z] at hh; exact hold y hy hh
    rcases List.mem_append.1 hx with hx | hx
    · have := hmin x (of_erase hx); omega
    · obtain ⟨e, hm, e1, e2, e3⟩ := n1 x hx
      have := (he e hm).gt v.t (by omega)
      omega
  · rw [hset]
    split
    · rename_i e
      rcases h.src with z | ⟨z, x, hx, e1, e2⟩
      · rw [e] at z; omega
      · left
        have := hmin x hx
        omega
    · rename_i e
      rcases h.src with z | ⟨z, x, hx, e1, e2⟩
      · exact .inl z
      · exact .inr ⟨z, x, List.mem_append_left _ (mem_erase hj hx (ne x hx (by rw [e1]; omega))), e1, e2⟩
  · have ok := he e hm
    rw [hset e.x] at hx ⊢
    by_cases c : e.x = v.p.toNat
    · rw [if_pos c] at hx ⊢
      have hgt := ok.gt v.t (by omega)
      by_cases d : gi (o.set v.p.toNat v.t) e.y = -1
      · obtain ⟨x, g1, g2, g3⟩ := n2 e hm c d
        right
        rw [hset e.y] at d ⊢
        exact ⟨d, x, List.mem_append_right _ g1, g2, by omega⟩
      · left
        rw [hset e.y] at d ⊢
        split
        · omega
        · rename_i z
          rw [if_neg z] at d
          have hach := h.ach e.y ok.y
          rcases hach with w | w
          · exact absurd w d
          · have := w.ge he h0
            have := hold e.y ok.y (by omega)
            omega
    · rw [if_neg c] at hx ⊢
      rw [hset e.y]
      rcases h.cl e hm hx with w | ⟨w, x, hx2, e1, e2⟩
      · split
        · rename_i z; rw [z] at w; omega
        · exact .inl w
      · split
        · rename_i z
          left
          have := hmin x hx2
          omega
        · rename_i z
          exact .inr ⟨w, x, List.mem_append_left _ (mem_erase hj hx2 (ne x hx2 (by rw [e1]; omega))), e1, e2⟩
theorem dj_end (he : ∀ e ∈ es, TOk n e) (h : DJ es s n t0 o []) : Tms es s n t0 o ∧ TFix es o := by
  refine ⟨⟨h.len, ?_, h.ach⟩, fun e hm hx => ?_⟩
  · rcases h.src with q | ⟨_, v, hv, _⟩
    · exact q
    · cases hv
  · rcases h.cl e hm hx with q | ⟨_, v, hv, _⟩
    · exact q
    · cases hv
end
end Go.Proofs.Ytfbdlmenhoagmaa

namespace Go.Proofs.Ytfbdlmenhoagmaa
open Go Sy
set_option linter.unusedVariables false
def nwB (m : Mp) (p : Nat → Bool) (o : List Int) (v : Vis) (i : Nat) : Bool := (gr m i).f == v.p && decide (gi o (gr m i).t.toNat < 0) && p i
def nwV (m : Mp) (v : Vis) (i : Nat) : Vis := ⟨(gr m i).t, lvT (gr m i) v.t⟩
def nwL (m : Mp) (p : Nat → Bool) (o : List Int) (v : Vis) (j : Nat) : List Vis := ((List.range j).filter (nwB m p o v)).map (nwV m v)
theorem nwL_succ (m : Mp) (p : Nat → Bool) (o : List Int) (v : Vis) (j : Nat) : nwL m p o v (j + 1) = if nwB m p o v j = true then nwL m p o v j ++ [nwV m v j] else nwL m p o v j := by
  unfold nwL
  rw [List.range_succ, List.filter_append, List.map_append]
  by_cases q : nwB m p o v j = true
  · rw [if_pos q]; simp [q]
  · rw [if_neg q]; simp [q]
theorem nwL_len (m : Mp) (p : Nat → Bool) (o : List Int) (v : Vis) (j : Nat) : (nwL m p o v j).length ≤ j := by
  unfold nwL
  rw [List.length_map]
  have := List.length_filter_le (nwB m p o v) (List.range j)
  rwa [List.length_range] at this
theorem nw_one {m : Mp} (h : OkM m) {p : Nat → Bool} {o : List Int} {v : Vis} (hv : 0 ≤ v.p) : ∀ x ∈ nwL m p o v m.rs.length, ∃ e ∈ tes m p m.rs.length, e.x = v.p.toNat ∧ x.p = e.y ∧ x.t = e.g v.t := fun x hx => by
  obtain ⟨i, hi, rfl⟩ := List.mem_map.1 hx
  rw [List.mem_filter, List.mem_range] at hi
  have hc := hi.2
  unfold nwB at hc
  simp only [Bool.and_eq_true, beq_iff_eq] at hc
  have ok := roadB_ok (h.r i hi.1)
  have := ok.f; have := ok.t
  refine ⟨tEd m i, tes_mem.2 ⟨i, hi.1, hc.2, rfl⟩, ?_, ?_, rfl⟩
  · show (gr m i).f.toNat = _; rw [hc.1.1]
  · show (gr m i).t = (((gr m i).t.toNat : Nat) : Int); omega
theorem nw_two {m : Mp} (h : OkM m) {p : Nat → Bool} {o : List Int} {v : Vis} (hv : 0 ≤ v.p) : ∀ e ∈ tes m p m.rs.length, e.x = v.p.toNat → gi o e.y = -1 → ∃ x ∈ nwL m p o v m.rs.length, x.p = e.y ∧ x.t = e.g v.t := fun e he h1 h2 => by
  obtain ⟨i, hi, hp, rfl⟩ := tes_mem.1 he
  have ok := roadB_ok (h.r i hi)
  have := ok.f; have := ok.t
  have h1 : (gr m i).f.toNat = v.p.toNat := h1
  have h2 : gi o (gr m i).t.toNat = -1 := h2
  refine ⟨nwV m v i, List.mem_map.2 ⟨i, List.mem_filter.2 ⟨List.mem_range.2 hi, ?_⟩, rfl⟩, ?_, rfl⟩
  · unfold nwB
    rw [h2, hp, show (gr m i).f = v.p by omega]; simp
  · show (gr m i).t = (((gr m i).t.toNat : Nat) : Int); omega
def uns (n : Nat) (o : List Int) : Nat := (List.range n).countP fun y => decide (gi o y < 0)
theorem uns_le (n : Nat) (o : List Int) : uns n o ≤ n := by
  have := List.countP_le_length (p := fun y => decide (gi o y < 0)) (l := List.range n)
  rwa [List.length_range] at this
theorem uns_set {n : Nat} {o : List Int} {y : Nat} {t : Int} (hl : o.length = n) (hy : y < n) (h1 : gi o y = -1) (ht : 0 ≤ t) : uns n (o.set y t) < uns n o :=
  countP_lt (fun z hz q => by
    rw [decide_eq_true_eq] at q ⊢
    rw [gi_set (by omega)] at q
    split at q
    · omega
    · exact q) ⟨y, List.mem_range.2 hy, by rw [decide_eq_true_eq, h1]; omega, by rw [decide_eq_false_iff_not, gi_set (by omega), if_pos rfl]; omega⟩
def OkV (l : List Vis) : Prop := ∀ i, 0 ≤ (gv l i).t ∧ (gv l i).t ≤ 4398046511104
structure QB (n : Nat) (t : Int) (o : List Int) (l : List Vis) : Prop where
  len : l.length + 256 * uns n o ≤ 1 + 256 * n
  bd : ∀ x ∈ l, 0 ≤ x.t ∧ x.t + 4320 * uns n o ≤ t + 4320 * n
theorem QB.okV {n : Nat} {t : Int} {o : List Int} {l : List Vis} (h : QB n t o l) (hn : n ≤ 64) (ht : t ≤ 2199023255552) : OkV l := fun i => by
  rcases Nat.lt_or_ge i l.length with q | q
  · have hm : gv l i ∈ l := by simp [gv, List.getD, q]
    have := h.bd _ hm
    omega
  · have : gv l i = dV := by simp [gv, List.getD, q]
    rw [this]
    show (0 : Int) ≤ 0 ∧ (0 : Int) ≤ _
    omega
theorem QB.erase {n : Nat} {t : Int} {o : List Int} {l : List Vis} (h : QB n t o l) {j : Nat} (hj : j < l.length) : QB n t o (l.eraseIdx j) := by
  have := h.len
  refine ⟨by rw [List.length_eraseIdx, if_pos hj]; omega, fun x hx => h.bd x (of_erase hx)⟩
theorem QB.settle {n : Nat} {t : Int} {o : List Int} {l : List Vis} {m : Mp} (hm : OkM m) (h : QB n t o l) {v : Vis} (hv : v ∈ l) (hl : o.length = n) (hy : v.p.toNat < n) (h1 : gi o v.p.toNat = -1) {j : Nat} (hj : j < l.length) {p : Nat → Bool} {o2 : List Int} {i : Nat} (hi : i ≤ m.rs.length) : QB n t (o.set v.p.toNat v.t) (l.eraseIdx j ++ nwL m p o2 v i) := by
  have h2 := h.len
  have h3 := h.bd v hv
  have h4 := uns_set hl hy h1 h3.1
  have h5 := nwL_len m p o2 v i
  have h6 := hm.nr
  refine ⟨by rw [List.length_append, List.length_eraseIdx, if_pos hj]; omega, fun x hx => ?_⟩
  rcases List.mem_append.1 hx with hx | hx
  · have := h.bd x (of_erase hx)
    omega
  · obtain ⟨k, hk, rfl⟩ := List.mem_map.1 hx
    rw [List.mem_filter, List.mem_range] at hk
    have hr := lvT_rng (roadB_ok (hm.r k (by omega))) v.t h3.1
    show 0 ≤ lvT (gr m k) v.t ∧ lvT (gr m k) v.t + _ ≤ _
    omega
theorem mv_min {l : List Vis} (x : Vis) (hx : x ∈ l) : (mv l l.length).t ≤ x.t := by
  obtain ⟨i, hi, rfl⟩ := List.mem_iff_getElem.1 hx
  have := mv_le l l.length i hi
  have e : gv l i = l[i] := by simp [gv, List.getD, hi]
  rwa [e] at this
end Go.Proofs.Ytfbdlmenhoagmaa

