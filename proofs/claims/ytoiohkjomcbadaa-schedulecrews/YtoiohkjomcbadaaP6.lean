/- For all crews with few legs (or far too many) and few times, both programs check the times alike and return the same best times: the law ScheduleCrews holds. -/
import Derived.Test.YtoiohkjomcbadaaP5
import Derived.Test.YtoiohkjomcbadaaRows
import Derived.ShutString
namespace Go.Proofs.Ytoiohkjomcbadaa
open Go Sy
set_option maxRecDepth 100000
set_option maxHeartbeats 4000000
set_option linter.unusedVariables false
set_option linter.unusedSimpArgs false
def bsC (ls : List Lg) (a b st : Int) : Nat → List Int
  | 0 => []
  | k + 1 => if tmO ls a b st (msC k) = true ∧ (bsC ls a b st k = [] ∨ bfC (tmL ls b st (msC k)) (bsC ls a b st k) < 0) then tmL ls b st (msC k) else bsC ls a b st k
def slN (l : List Int) : AV := if l = [] then .v (.slice none 0 0) else aI l
theorem tmL_len {ls : List Lg} {a b st : Int} {c : Nat → Bool} (h : tmO ls a b st c = true) : (tmL ls b st c).length = ls.length := by
  unfold tmO at h
  rw [Bool.and_eq_true] at h
  unfold tmL
  rw [if_pos h.1, lsF_len]
theorem bsC_len (ls : List Lg) (a b st : Int) : ∀ k, bsC ls a b st k = [] ∨ (bsC ls a b st k).length = ls.length
  | 0 => .inl rfl
  | k + 1 => by
    show (if _ then _ else _) = [] ∨ (if _ then _ else _ : List Int).length = _
    split
    · rename_i h; exact .inr (tmL_len h.1)
    · exact bsC_len ls a b st k
def crL (ls : List Lg) (a b st : Int) : List Int := if crE ls a b st = 0 ∧ ls.length ≠ 0 then bsC ls a b st (2 ^ ls.length) else []
def crF (ls : List Lg) (a b st : Int) : Int := if crE ls a b st = 0 then (if ls.length = 0 then 0 else if bsC ls a b st (2 ^ ls.length) = [] then 15 else 0) else crE ls a b st
theorem fn36 (ls : List Lg) (a b st : Int) (hl : ls.length ≤ 140737488355328) (hw : ∀ x ∈ ls, x.ws.length ≤ 140737488355328) : Sy.Fn Try.prog 36 [aL ls, iv a, iv b, iv st] (.tup [aI (crL ls a b st), iv (crF ls a b st)]) := by
  refine Fn_of_W mixed Xt36 rfl ?_
  have c76 := fn76 ls a b st hl hw
  have eL : crL ls a b st = if crE ls a b st = 0 ∧ ls.length ≠ 0 then bsC ls a b st (2 ^ ls.length) else [] := rfl
  have eF : crF ls a b st = if crE ls a b st = 0 then (if ls.length = 0 then 0 else if bsC ls a b st (2 ^ ls.length) = [] then 15 else 0) else crE ls a b st := rfl
  rw [eL, eF]
  by_cases h0 : crE ls a b st = 0
  rotate_left
  · rw [if_neg (fun q => h0 q.1), if_neg h0]
    generalize crE ls a b st = E at *
    repeat' (first | refine w1g ?_ | refine w1l ?_ | refine w1q ?_ | refine w1b ?_ | refine w1p ?_ | ((first | refine w1r ?_ | refine w1k ?_ | refine w1e ?_ | refine CallC.now (c76) ?_); (refine sy1 ?_; try exact True.intro)) | refine an2 ?_ | fail)
    refine W_cond (by rfl) (fun _ => ?_) (fun h => absurd (by simpa using h) h0)
    repeat' (first | refine w1g ?_ | refine w1l ?_ | refine w1q ?_ | refine w1b ?_ | refine w1p ?_ | ((first | refine w1r ?_ | refine w1k ?_ | refine w1e ?_); (refine sy1 ?_; try exact True.intro)) | refine an2 ?_ | fail)
    refine W_le (le_nil 8 1 0 cI rfl) ?_
    exact W_ret ⟨[_, _], ⟨rfl, rfl, rfl⟩, rfl⟩
  have h := crE_ok h0
  have hn := h.n
  have c82 := fun m hm => fn82 ls a b st m h0 hw hm
  rw [h0] at c76
  rw [if_pos h0]
  repeat' (first | refine w1g ?_ | refine w1l ?_ | refine w1q ?_ | refine w1b ?_ | refine w1p ?_ | ((first | refine w1r ?_ | refine w1k ?_ | refine w1e ?_ | refine CallC.now (c76) ?_); (refine sy1 ?_; try exact True.intro)) | refine an2 ?_ | fail)
  refine W_cond (by rfl) (fun h => by cases h) (fun _ => ?_)
  repeat' (first | refine w1g ?_ | refine w1l ?_ | refine w1q ?_ | refine w1b ?_ | refine w1p ?_ | ((first | refine w1r ?_ | refine w1k ?_ | refine w1e ?_); (refine sy1 ?_; try exact True.intro)) | refine an2 ?_ | fail)
  by_cases hz : ls.length = 0
  · rw [if_neg (fun q => q.2 hz), if_pos hz, show ((ls.length : Int) == 0) = true by rw [hz]; rfl]
    refine W_cond (by rfl) (fun _ => ?_) (fun h => by cases h)
    repeat' (first | refine w1g ?_ | refine w1l ?_ | refine w1q ?_ | refine w1b ?_ | refine w1p ?_ | ((first | refine w1r ?_ | refine w1k ?_ | refine w1e ?_); (refine sy1 ?_; try exact True.intro)) | refine an2 ?_ | fail)
    refine W_le (le_nil 8 1 0 cI rfl) ?_
    exact W_ret ⟨[_, _], ⟨rfl, rfl, rfl⟩, rfl⟩
  rw [if_pos ⟨h0, hz⟩, if_neg hz, show ((ls.length : Int) == 0) = false from beq_eq_false_iff_ne.2 (by omega)]
  refine W_cond (by rfl) (fun h => by cases h) (fun _ => ?_)
  repeat' (first | refine w1g ?_ | refine w1l ?_ | refine w1q ?_ | refine w1b ?_ | refine w1p ?_ | ((first | refine w1r ?_ | refine w1k ?_ | refine w1e ?_); (refine sy1 ?_; try exact True.intro)) | refine an2 ?_ | fail)
  obtain ⟨N, hN⟩ : ∃ N : Nat, 2 ^ ls.length = N := ⟨_, rfl⟩
  have hN1 : 0 < N ∧ N ≤ 4096 := by
    rw [← hN]
    exact ⟨Nat.pow_pos (by omega), Nat.le_trans (Nat.pow_le_pow_right (by omega) hn) (by decide)⟩
  have hwu : IntKind.u64.wrap (ls.length : Int) = ls.length := wrapU ⟨by omega, by omega⟩
  have hsh : IntKind.i64.wrap (1 * 2 ^ min ls.length IntKind.i64.bits) = (N : Int) := by
    rw [Nat.min_eq_left (show ls.length ≤ IntKind.i64.bits by show ls.length ≤ 64; omega), Int.one_mul, show (2 : Int) ^ ls.length = (N : Int) by rw [← hN]; push_cast; first | done | rfl]
    exact wrap64 ⟨by omega, by omega⟩
  rw [hN]
  refine W_loopU (fun k : Nat => [(12, slN (bsC ls a b st k)), (13, iv k)]) (fun k => []) (fun k => k ≤ N) (fun k => N - k) 0 (by omega) (by rfl) (by rfl) (fun k hk => ?_)
  have hbl := bsC_len ls a b st k
  have hbs : bsC ls a b st (k + 1) = if tmO ls a b st (msC k) = true ∧ (bsC ls a b st k = [] ∨ bfC (tmL ls b st (msC k)) (bsC ls a b st k) < 0) then tmL ls b st (msC k) else bsC ls a b st k := rfl
  have c82 := c82 k (by omega)
  have htl := tmL_len (ls := ls) (a := a) (b := b) (st := st) (c := msC k)
  obtain ⟨BS', hB'⟩ : ∃ l, bsC ls a b st (k + 1) = l := ⟨_, rfl⟩
  rw [hB'] at hbs
  generalize hBS : bsC ls a b st k = BS at *
  generalize tmO ls a b st (msC k) = TO at *
  generalize tmL ls b st (msC k) = TL at *
  (refine sy1 ?_; try exact True.intro)
  repeat' (first | refine w1g ?_ | refine w1l ?_ | refine w1q ?_ | refine w1b ?_ | refine w1p ?_ | ((first | refine w1r ?_ | refine w1k ?_ | refine w1e ?_); simp (maxSteps := 400000) (disch := omega) only [push_cast, ↓reduceIte, reduceCtorEq, Nat.reduceAdd, Nat.reduceSub, Nat.reduceEqDiff, Nat.reduceLeDiff, Nat.reduceLT, Nat.reduceBEq, Nat.reduceDiv, Nat.reduceMod, Nat.reducePow, Nat.reduceMul, Int.reduceToNat, Int.reduceLT, Int.reduceLE, hwu, hsh, Int.toNat_natCast]) | refine an2 ?_ | fail)
  refine W_condD (by rfl) (fun h5 => ?_) (fun h5 => ?_)
  · by_cases hB0 : BS = []
    · subst hB0
      rw [show slN [] = .v (.slice none 0 0) from rfl]
      have hli : ((ls.length : Int) - 1).toNat = ls.length - 1 := by omega
      have hrp : nth (List.replicate 1 (iv 0)) 0 = iv 0 := rfl
      repeat' (first | refine w1g ?_ | refine w1l ?_ | refine w1q ?_ | refine w1b ?_ | refine w1p ?_ | ((first | refine w1r ?_ | refine w1k ?_ | refine w1e ?_ | refine CallC.now (c82) ?_); simp (maxSteps := 400000) (disch := omega) only [push_cast, ↓reduceIte, reduceCtorEq, Nat.reduceAdd, Nat.reduceSub, Nat.reduceEqDiff, Nat.reduceLeDiff, Nat.reduceLT, Nat.reduceBEq, Nat.reduceDiv, Nat.reduceMod, Nat.reducePow, Nat.reduceMul, Int.reduceToNat, Int.reduceLT, Int.reduceLE, hwu, hsh, hli, hrp]) | refine an2 ?_ | fail)
      repeat (refine ⟨fun q => absurd q (by simp), ?_⟩)
      refine CallC.go (bv false) (fun hpc => absurd hpc (by simp [pc])) rfl ?_
      (refine sy1 ?_; try exact True.intro)
      repeat' (first | refine w1g ?_ | refine w1l ?_ | refine w1q ?_ | refine w1b ?_ | refine w1p ?_ | ((first | refine w1r ?_ | refine w1k ?_ | refine w1e ?_); (refine sy1 ?_; try exact True.intro)) | refine an2 ?_ | fail)
      cases TO
      · have hn1 : BS' = [] := by rw [hbs, if_neg (fun q => by cases q.1)]
        refine W_cond (by rfl) (fun h => by cases h) (fun _ => ?_)
        repeat' (first | refine w1g ?_ | refine w1l ?_ | refine w1q ?_ | refine w1b ?_ | refine w1p ?_ | ((first | refine w1r ?_ | refine w1k ?_ | refine w1e ?_); (refine sy1 ?_; try exact True.intro)) | refine an2 ?_ | fail)
        refine ⟨k + 1, by omega, by omega, by rfl, ?_⟩
        rw [hB', hn1, show slN [] = .v (.slice none 0 0) from rfl]
        (refine syE ?_; try exact True.intro)
      · have htl := htl rfl
        have hn1 : BS' = TL := by rw [hbs, if_pos ⟨rfl, .inl rfl⟩]
        refine W_cond (by rfl) (fun _ => ?_) (fun h => by cases h)
        repeat' (first | refine w1g ?_ | refine w1l ?_ | refine w1q ?_ | refine w1b ?_ | refine w1p ?_ | ((first | refine w1r ?_ | refine w1k ?_ | refine w1e ?_); (refine sy1 ?_; try exact True.intro)) | refine an2 ?_ | fail)
        refine ⟨k + 1, by omega, by omega, by rfl, ?_⟩
        rw [hB', hn1, show slN TL = aI TL by unfold slN; rw [if_neg (fun q => by rw [q] at htl; exact hz htl.symm)]]
        (refine syE ?_; try exact True.intro)
    · have hlen : BS.length = ls.length := by
        rcases hbl with q | q
        · exact absurd q hB0
        · exact q
      rw [show slN BS = aI BS by unfold slN; rw [if_neg hB0]]
      have hb0 : 0 < BS.length := by omega
      have hli : ((ls.length : Int) - 1).toNat = ls.length - 1 := by omega
      have hsl : slN BS = aI BS := by unfold slN; rw [if_neg hB0]
      cases TO
      · have hn1 : BS' = BS := by rw [hbs, if_neg (fun q => by cases q.1)]
        have c83 : Sy.Fn Try.prog 83 [aI BS, aI BS] (bv (decide (lxC BS BS < 0))) := fn83 BS BS rfl (by omega)
        repeat' (first | refine w1g ?_ | refine w1l ?_ | refine w1q ?_ | refine w1b ?_ | refine w1p ?_ | ((first | refine w1r ?_ | refine w1k ?_ | refine w1e ?_ | refine CallC.now (c82) ?_); simp (maxSteps := 400000) (disch := omega) only [push_cast, ↓reduceIte, reduceCtorEq, Nat.reduceAdd, Nat.reduceSub, Nat.reduceEqDiff, Nat.reduceLeDiff, Nat.reduceLT, Nat.reduceBEq, Nat.reduceDiv, Nat.reduceMod, Nat.reducePow, Nat.reduceMul, Int.reduceToNat, Int.reduceLT, Int.reduceLE, hwu, hsh, hli]) | refine an2 ?_ | (refine CallC.go (bv false) (fun hpc => absurd hpc (by simp [pc])) rfl ?_; simp (maxSteps := 400000) (disch := omega) only [push_cast, ↓reduceIte, reduceCtorEq, Nat.reduceAdd, Nat.reduceSub, Nat.reduceEqDiff, Nat.reduceLeDiff, Nat.reduceLT, Nat.reduceBEq, Nat.reduceDiv, Nat.reduceMod, Nat.reducePow, Nat.reduceMul, Int.reduceToNat, Int.reduceLT, Int.reduceLE, hwu, hsh, hli]) | fail)
        refine ⟨fun q => absurd q.2 (by simp), fun q => absurd q.2 (by simp), ?_⟩
        refine CallC.go (bv false) (fun hpc => absurd hpc (by simp [pc])) rfl ?_
        (refine sy1 ?_; try exact True.intro)
        repeat' (first | refine w1g ?_ | refine w1l ?_ | refine w1q ?_ | refine w1b ?_ | refine w1p ?_ | ((first | refine w1r ?_ | refine w1k ?_ | refine w1e ?_); (refine sy1 ?_; try exact True.intro)) | refine an2 ?_ | fail)
        refine W_cond (by rfl) (fun h => by cases h) (fun _ => ?_)
        repeat' (first | refine w1g ?_ | refine w1l ?_ | refine w1q ?_ | refine w1b ?_ | refine w1p ?_ | ((first | refine w1r ?_ | refine w1k ?_ | refine w1e ?_); (refine sy1 ?_; try exact True.intro)) | refine an2 ?_ | fail)
        refine ⟨k + 1, by omega, by omega, by rfl, ?_⟩
        rw [hB', hn1, hsl]
        (refine syE ?_; try exact True.intro)
      · have htl := htl rfl
        have c83 := fn83 TL BS (by omega) (by omega)
        have hbf : bfC TL BS = if cmI (gi TL (ls.length - 1)) (gi BS (ls.length - 1)) = 0 then lxC TL BS else cmI (gi TL (ls.length - 1)) (gi BS (ls.length - 1)) := by unfold bfC; rw [htl]
        have g1 : TL.getD (ls.length - 1) 0 = gi TL (ls.length - 1) := rfl
        have g2 : BS.getD (ls.length - 1) 0 = gi BS (ls.length - 1) := rfl
        have q1 := cm_lt (gi TL (ls.length - 1)) (gi BS (ls.length - 1))
        have q2 := cm_eq (gi TL (ls.length - 1)) (gi BS (ls.length - 1))
        have hl1 : ls.length - 1 < TL.length := by omega
        generalize gi TL (ls.length - 1) = x at *
        generalize gi BS (ls.length - 1) = y at *
        generalize lxC TL BS = V at *
        repeat' (first | refine w1g ?_ | refine w1l ?_ | refine w1q ?_ | refine w1b ?_ | refine w1p ?_ | ((first | refine w1r ?_ | refine w1k ?_ | refine w1e ?_ | refine CallC.now (c83) ?_ | refine CallC.now (c82) ?_); simp (maxSteps := 400000) (disch := omega) only [push_cast, ↓reduceIte, reduceCtorEq, Nat.reduceAdd, Nat.reduceSub, Nat.reduceEqDiff, Nat.reduceLeDiff, Nat.reduceLT, Nat.reduceBEq, Nat.reduceDiv, Nat.reduceMod, Nat.reducePow, Nat.reduceMul, Int.reduceToNat, Int.reduceLT, Int.reduceLE, hwu, hsh, hli, g1, g2]) | refine an2 ?_ | fail)
        have hcond : (decide (x < y) || x == y && decide (V < 0)) = decide (bfC TL BS < 0) := by
          rw [hbf, Bool.eq_iff_iff, Bool.or_eq_true, Bool.and_eq_true, decide_eq_true_eq, decide_eq_true_eq, decide_eq_true_eq, beq_iff_eq]
          split <;> omega
        rw [hcond]
        by_cases hb : bfC TL BS < 0
        · rw [if_pos ⟨rfl, .inr hb⟩] at hbs
          rw [decide_eq_true hb]
          refine W_cond (by rfl) (fun _ => ?_) (fun h => by cases h)
          repeat' (first | refine w1g ?_ | refine w1l ?_ | refine w1q ?_ | refine w1b ?_ | refine w1p ?_ | ((first | refine w1r ?_ | refine w1k ?_ | refine w1e ?_); (refine sy1 ?_; try exact True.intro)) | refine an2 ?_ | fail)
          refine ⟨k + 1, by omega, by omega, by rfl, ?_⟩
          rw [hB', hbs, show slN TL = aI TL by unfold slN; rw [if_neg (fun q => by rw [q] at hl1; exact absurd hl1 (Nat.not_lt_zero _))]]
          (refine syE ?_; try exact True.intro)
        · rw [if_neg (fun q => q.2.elim hB0 hb)] at hbs
          rw [decide_eq_false hb]
          refine W_cond (by rfl) (fun h => by cases h) (fun _ => ?_)
          repeat' (first | refine w1g ?_ | refine w1l ?_ | refine w1q ?_ | refine w1b ?_ | refine w1p ?_ | ((first | refine w1r ?_ | refine w1k ?_ | refine w1e ?_); (refine sy1 ?_; try exact True.intro)) | refine an2 ?_ | fail)
          refine ⟨k + 1, by omega, by omega, by rfl, ?_⟩
          rw [hB', hbs, hsl]
          (refine syE ?_; try exact True.intro)
  · obtain rfl : k = N := by omega
    rw [hBS]
    by_cases hB0 : BS = []
    · subst hB0
      rw [if_pos rfl, show slN [] = .v (.slice none 0 0) from rfl]
      repeat' (first | refine w1g ?_ | refine w1l ?_ | refine w1q ?_ | refine w1b ?_ | refine w1p ?_ | ((first | refine w1r ?_ | refine w1k ?_ | refine w1e ?_); (refine sy1 ?_; try exact True.intro)) | refine an2 ?_ | fail)
      refine W_cond (by rfl) (fun _ => ?_) (fun h => by cases h)
      repeat' (first | refine w1g ?_ | refine w1l ?_ | refine w1q ?_ | refine w1b ?_ | refine w1p ?_ | ((first | refine w1r ?_ | refine w1k ?_ | refine w1e ?_); (refine sy1 ?_; try exact True.intro)) | refine an2 ?_ | fail)
      refine W_le (le_nil 8 1 0 cI rfl) ?_
      exact W_ret ⟨[_, _], ⟨rfl, rfl, rfl⟩, rfl⟩
    · have hlen : BS.length = ls.length := by
        rcases hbl with q | q
        · exact absurd q hB0
        · exact q
      have hb0 : 0 < BS.length := by omega
      rw [if_neg hB0, show slN BS = aI BS by unfold slN; rw [if_neg hB0]]
      repeat' (first | refine w1g ?_ | refine w1l ?_ | refine w1q ?_ | refine w1b ?_ | refine w1p ?_ | ((first | refine w1r ?_ | refine w1k ?_ | refine w1e ?_); (refine sy1 ?_; try exact True.intro)) | refine an2 ?_ | fail)
      refine W_cond (by rfl) (fun h => by cases h) (fun _ => ?_)
      repeat' (first | refine w1g ?_ | refine w1l ?_ | refine w1q ?_ | refine w1b ?_ | refine w1p ?_ | ((first | refine w1r ?_ | refine w1k ?_ | refine w1e ?_); (refine sy1 ?_; try exact True.intro)) | refine an2 ?_ | fail)
      exact W_ret ⟨[_, _], ⟨rfl, rfl, rfl⟩, rfl⟩
end Go.Proofs.Ytoiohkjomcbadaa

namespace Go.Proofs.Ytoiohkjomcbadaa
open Go Sy
set_option linter.unusedVariables false
theorem cm_gt (x y : Int) : 0 < cmI x y ↔ y < x := by unfold cmI; repeat' split <;> omega
theorem lx_zero : ∀ {l m : List Int}, l.length = m.length → lxC l m = 0 → l = m
  | [], [], _, _ => rfl
  | [], y :: m, h, _ => by simp at h
  | x :: l, [], h, _ => by simp at h
  | x :: l, y :: m, h, hz => by
    have hz : (if cmI x y = 0 then lxC l m else cmI x y) = 0 := hz
    split at hz
    · rename_i q
      rw [cm_eq] at q
      rw [q, lx_zero (by simpa using h) hz]
    · rename_i q; exact absurd hz q
theorem lx_self : ∀ (l : List Int), lxC l l = 0
  | [] => rfl
  | x :: l => by
    show (if cmI x x = 0 then lxC l l else cmI x x) = 0
    rw [if_pos ((cm_eq x x).2 rfl)]
    exact lx_self l
theorem lx_anti : ∀ {l m : List Int}, l.length = m.length → (lxC l m < 0 ↔ 0 < lxC m l)
  | [], [], _ => by show (0 : Int) < 0 ↔ (0 : Int) < 0; omega
  | [], y :: m, h => by simp at h
  | x :: l, [], h => by simp at h
  | x :: l, y :: m, h => by
    show (if cmI x y = 0 then lxC l m else cmI x y) < 0 ↔ 0 < (if cmI y x = 0 then lxC m l else cmI y x)
    have e1 := cm_eq x y
    have e2 := cm_eq y x
    have e3 := cm_lt x y
    have e4 := cm_gt y x
    have ih := lx_anti (l := l) (m := m) (by simpa using h)
    by_cases q : x = y
    · rw [if_pos (e1.2 q), if_pos (e2.2 q.symm)]; exact ih
    · rw [if_neg (fun z => q (e1.1 z)), if_neg (fun z => q (e2.1 z).symm), e3, e4]
theorem lx_trans : ∀ {l m k : List Int}, l.length = m.length → m.length = k.length → lxC l m < 0 → lxC m k < 0 → lxC l k < 0
  | [], [], _, _, _, h, _ => absurd (show (0 : Int) < 0 from h) (by decide)
  | [], y :: m, _, h, _, _, _ => by simp at h
  | x :: l, [], _, h, _, _, _ => by simp at h
  | x :: l, y :: m, [], _, h, _, _ => by simp at h
  | x :: l, y :: m, z :: k, h1, h2, h3, h4 => by
    have h3 : (if cmI x y = 0 then lxC l m else cmI x y) < 0 := h3
    have h4 : (if cmI y z = 0 then lxC m k else cmI y z) < 0 := h4
    show (if cmI x z = 0 then lxC l k else cmI x z) < 0
    have a1 := cm_eq x y
    have a2 := cm_eq y z
    have a3 := cm_eq x z
    have b1 := cm_lt x y
    have b2 := cm_lt y z
    have b3 := cm_lt x z
    by_cases q1 : x = y
    · rw [if_pos (a1.2 q1)] at h3
      by_cases q2 : y = z
      · rw [if_pos (a2.2 q2)] at h4
        rw [if_pos (a3.2 (q1.trans q2))]
        exact lx_trans (by simpa using h1) (by simpa using h2) h3 h4
      · rw [if_neg (fun w => q2 (a2.1 w)), b2] at h4
        rw [if_neg (fun w => q2 (q1 ▸ a3.1 w)), b3]
        omega
    · rw [if_neg (fun w => q1 (a1.1 w)), b1] at h3
      have h5 : y ≤ z := by
        by_cases q2 : y = z
        · omega
        · rw [if_neg (fun w => q2 (a2.1 w)), b2] at h4; omega
      rw [if_neg (fun w => by have := a3.1 w; omega), b3]
      omega
theorem bf_zero {l m : List Int} (hl : l.length = m.length) (h : bfC l m = 0) : l = m := by
  unfold bfC at h
  split at h
  · exact lx_zero hl h
  · rename_i q; exact absurd h q
theorem bf_self (l : List Int) : bfC l l = 0 := by
  unfold bfC
  rw [if_pos ((cm_eq _ _).2 rfl)]
  exact lx_self l
theorem bf_anti {l m : List Int} (hl : l.length = m.length) : bfC l m < 0 ↔ 0 < bfC m l := by
  unfold bfC
  rw [← hl]
  have e1 := cm_eq (gi l (l.length - 1)) (gi m (l.length - 1))
  have e2 := cm_eq (gi m (l.length - 1)) (gi l (l.length - 1))
  have e3 := cm_lt (gi l (l.length - 1)) (gi m (l.length - 1))
  have e4 := cm_gt (gi m (l.length - 1)) (gi l (l.length - 1))
  by_cases q : gi l (l.length - 1) = gi m (l.length - 1)
  · rw [if_pos (e1.2 q), if_pos (e2.2 q.symm)]; exact lx_anti hl
  · rw [if_neg (fun z => q (e1.1 z)), if_neg (fun z => q (e2.1 z).symm), e3, e4]
theorem bf_trans {l m k : List Int} (h1 : l.length = m.length) (h2 : m.length = k.length) (h3 : bfC l m < 0) (h4 : bfC m k < 0) : bfC l k < 0 := by
  unfold bfC at h3 h4 ⊢
  rw [← h1] at h4
  have a1 := cm_eq (gi l (l.length - 1)) (gi m (l.length - 1))
  have a2 := cm_eq (gi m (l.length - 1)) (gi k (l.length - 1))
  have a3 := cm_eq (gi l (l.length - 1)) (gi k (l.length - 1))
  have b1 := cm_lt (gi l (l.length - 1)) (gi m (l.length - 1))
  have b2 := cm_lt (gi m (l.length - 1)) (gi k (l.length - 1))
  have b3 := cm_lt (gi l (l.length - 1)) (gi k (l.length - 1))
  have ht := lx_trans (k := k) h1 h2
  generalize gi l (l.length - 1) = x at *
  generalize gi m (l.length - 1) = y at *
  generalize gi k (l.length - 1) = z at *
  by_cases q1 : x = y
  · rw [if_pos (a1.2 q1)] at h3
    by_cases q2 : y = z
    · rw [if_pos (a2.2 q2)] at h4
      rw [if_pos (a3.2 (q1.trans q2))]
      exact ht h3 h4
    · rw [if_neg (fun w => q2 (a2.1 w)), b2] at h4
      rw [if_neg (fun w => q2 (q1 ▸ a3.1 w)), b3]
      omega
  · rw [if_neg (fun w => q1 (a1.1 w)), b1] at h3
    have h5 : y ≤ z := by
      by_cases q2 : y = z
      · omega
      · rw [if_neg (fun w => q2 (a2.1 w)), b2] at h4; omega
    rw [if_neg (fun w => by have := a3.1 w; omega), b3]
    omega
structure Bst (S : List Int → Prop) (r : List Int) : Prop where
  mem : r = [] ∨ S r
  le : ∀ s, S s → r ≠ [] ∧ ¬ bfC s r < 0
theorem bst_uniq {S : List Int → Prop} {n : Nat} (hS : ∀ s, S s → s.length = n) (h0 : 0 < n) {r t : List Int} (hr : Bst S r) (ht : Bst S t) : r = t := by
  rcases hr.mem with q | q
  · rcases ht.mem with z | z
    · rw [q, z]
    · exact absurd q (hr.le t z).1
  · rcases ht.mem with z | z
    · exact absurd z (ht.le r q).1
    · have e1 := (hr.le t z).2
      have e2 := (ht.le r q).2
      have hl : r.length = t.length := by rw [hS r q, hS t z]
      have e3 := bf_anti hl.symm
      have e4 : bfC t r = 0 := by
        have := bf_anti hl
        omega
      exact (bf_zero hl.symm e4).symm
theorem bst_step {S : List Int → Prop} {n : Nat} (hS : ∀ s, S s → s.length = n) (h0 : 0 < n) {r x : List Int} (hr : Bst S r) (hx : x.length = n) : Bst (fun s => S s ∨ s = x) (if r = [] ∨ bfC x r < 0 then x else r) := by
  have hxn : x ≠ [] := fun q => by rw [q] at hx; simp at hx; omega
  by_cases q : r = [] ∨ bfC x r < 0
  · rw [if_pos q]
    refine ⟨.inr (.inr rfl), fun s hs => ⟨hxn, ?_⟩⟩
    rcases hs with hs | rfl
    · rcases q with q | q
      · exact absurd q (hr.le s hs).1
      · intro z
        rcases hr.mem with w | w
        · exact (hr.le s hs).1 w
        · exact (hr.le s hs).2 (bf_trans (by rw [hS s hs, hx]) (by rw [hx, hS r w]) z q)
    · rw [bf_self]; exact Int.lt_irrefl _
  · rw [if_neg q]
    have q1 : r ≠ [] := fun z => q (.inl z)
    have q2 : ¬ bfC x r < 0 := fun z => q (.inr z)
    refine ⟨hr.mem.imp id .inl, fun s hs => ⟨q1, ?_⟩⟩
    rcases hs with hs | rfl
    · exact (hr.le s hs).2
    · exact q2
theorem bst_congr {S T : List Int → Prop} {r : List Int} (h : ∀ s, S s ↔ T s) (hr : Bst S r) : Bst T r := ⟨hr.mem.imp id (h r).1, fun s hs => hr.le s ((h s).2 hs)⟩
theorem bsC_best {ls : List Lg} {a b st : Int} (h0 : 0 < ls.length) : ∀ k, Bst (fun s => ∃ m, m < k ∧ tmO ls a b st (msC m) = true ∧ s = tmL ls b st (msC m)) (bsC ls a b st k)
  | 0 => ⟨.inl rfl, fun s ⟨m, hm, _⟩ => absurd hm (Nat.not_lt_zero m)⟩
  | k + 1 => by
    have ih := bsC_best (ls := ls) (a := a) (b := b) (st := st) h0 k
    have hl : ∀ s, (∃ m, m < k ∧ tmO ls a b st (msC m) = true ∧ s = tmL ls b st (msC m)) → s.length = ls.length := fun s ⟨m, _, h1, h2⟩ => by rw [h2]; exact tmL_len h1
    show Bst _ (if tmO ls a b st (msC k) = true ∧ (bsC ls a b st k = [] ∨ bfC (tmL ls b st (msC k)) (bsC ls a b st k) < 0) then tmL ls b st (msC k) else bsC ls a b st k)
    by_cases ht : tmO ls a b st (msC k) = true
    · have := bst_step hl h0 ih (tmL_len ht)
      have e : (if tmO ls a b st (msC k) = true ∧ (bsC ls a b st k = [] ∨ bfC (tmL ls b st (msC k)) (bsC ls a b st k) < 0) then tmL ls b st (msC k) else bsC ls a b st k) = (if bsC ls a b st k = [] ∨ bfC (tmL ls b st (msC k)) (bsC ls a b st k) < 0 then tmL ls b st (msC k) else bsC ls a b st k) := by
        by_cases q : bsC ls a b st k = [] ∨ bfC (tmL ls b st (msC k)) (bsC ls a b st k) < 0
        · rw [if_pos ⟨ht, q⟩, if_pos q]
        · rw [if_neg (fun z => q z.2), if_neg q]
      rw [e]
      refine bst_congr (fun s => ?_) this
      constructor
      · rintro (⟨m, h1, h2, h3⟩ | rfl)
        · exact ⟨m, by omega, h2, h3⟩
        · exact ⟨k, by omega, ht, rfl⟩
      · rintro ⟨m, h1, h2, h3⟩
        rcases Nat.lt_or_ge m k with q | q
        · exact .inl ⟨m, q, h2, h3⟩
        · obtain rfl : m = k := by omega
          exact .inr h3
    · rw [if_neg (fun q => ht q.1)]
      refine bst_congr (fun s => ?_) ih
      constructor
      · rintro ⟨m, h1, h2, h3⟩
        exact ⟨m, by omega, h2, h3⟩
      · rintro ⟨m, h1, h2, h3⟩
        rcases Nat.lt_or_ge m k with q | q
        · exact ⟨m, q, h2, h3⟩
        · obtain rfl : m = k := by omega
          exact absurd h2 ht
end Go.Proofs.Ytoiohkjomcbadaa

namespace Go.Proofs.Ytoiohkjomcbadaa
open Go Sy
set_option linter.unusedVariables false
def dvI (ls : List Lg) (b st : Int) (c : Nat → Bool) : Nat → Int
  | 0 => 0
  | i + 1 => (if 0 < i ∧ b ≤ atC ls b st c i - frC ls b st c i then 0 else dvI ls b st c i) + (gl ls i).mi
section
variable {ls : List Lg} {a b st : Int} {c : Nat → Bool}
theorem pe_fr (z : Int) {i : Nat} (hi : i < ls.length) (h : 0 < i) : peC ls z (lsF ls.length (atC ls b st c)) i = frC ls b st c i := by
  obtain ⟨k, rfl⟩ : ∃ k, i = k + 1 := ⟨i - 1, by omega⟩
  unfold peC
  rw [if_neg (by omega), Nat.add_sub_cancel, lsF_get (by omega)]
  rfl
theorem dv_eq : ∀ i, i ≤ ls.length → dvC ls b (lsF ls.length (atC ls b st c)) i = dvI ls b st c i
  | 0, _ => rfl
  | i + 1, hi => by
    have ih := dv_eq i (by omega)
    show (if 0 < i ∧ b ≤ gi (lsF ls.length (atC ls b st c)) i - peC ls 0 (lsF ls.length (atC ls b st c)) i then 0 else dvC ls b (lsF ls.length (atC ls b st c)) i) + (gl ls i).mi = (if 0 < i ∧ b ≤ atC ls b st c i - frC ls b st c i then 0 else dvI ls b st c i) + (gl ls i).mi
    rw [ih, lsF_get (show i < ls.length by omega)]
    by_cases h : 0 < i
    · rw [pe_fr 0 (by omega) h]
    · rw [if_neg (fun q => h q.1), if_neg (fun q => h q.1)]
theorem at_ok (h : OkC ls a b st) {i : Nat} (hi : i < ls.length) (h0 : 0 ≤ atC ls b st c i) : frC ls b st c i ≤ atC ls b st c i ∧ fitW (gl ls i).mi (atC ls b st c i) (gl ls i).ws := by
  have hm := h.m i hi
  have hb := h.rb
  have e : atC ls b st c i = fstW (gl ls i).mi (if 0 < i ∧ c i = true then frC ls b st c i + b else frC ls b st c i) (gl ls i).ws := rfl
  rcases fst_fit (mi := (gl ls i).mi) (fr := if 0 < i ∧ c i = true then frC ls b st c i + b else frC ls b st c i) (h.k i hi) (Int.le_refl 0) (by omega) with q | ⟨q1, q2, q3⟩
  · rw [e, q] at h0; exact absurd h0 (by decide)
  · rw [← e] at q2 q3
    refine ⟨?_, q3⟩
    split at q2 <;> omega
theorem li_iff : liC ls b st c = true ↔ ∀ i, i < ls.length → 0 ≤ atC ls b st c i := by
  unfold liC
  rw [List.all_eq_true]
  exact ⟨fun h i hi => of_decide_eq_true (h i (List.mem_range.2 hi)), fun h i hi => decide_eq_true (h i (List.mem_range.1 hi))⟩
theorem fst_neg {p : Nat → Bool} {n : Nat} : ¬ 0 ≤ fstI p n ↔ ∀ i, i < n → p i = false := by
  constructor
  · intro h
    rcases fstI_cases p n with ⟨_, q⟩ | ⟨i, hi, q, _⟩
    · exact q
    · omega
  · intro h
    rw [fstI_none h]; decide
theorem tmO_iff (h0 : crE ls a b st = 0) : tmO ls a b st c = true ↔ (∀ i, i < ls.length → 0 ≤ atC ls b st c i) ∧ ∀ i, i < ls.length → dvI ls b st c (i + 1) ≤ a := by
  have h := crE_ok h0
  have hlen := lsF_len ls.length (atC ls b st c)
  unfold tmO
  rw [Bool.and_eq_true, li_iff, decide_eq_true_eq]
  have key : (∀ i, i < ls.length → 0 ≤ atC ls b st c i) → (ckE ls a b st (lsF ls.length (atC ls b st c)) = 0 ↔ ∀ i, i < ls.length → dvI ls b st c (i + 1) ≤ a) := fun hp => by
    have hb1 : ∀ i, i < ls.length → b1C ls st (lsF ls.length (atC ls b st c)) i = false := fun i hi => by
      obtain ⟨q1, q2⟩ := at_ok h hi (hp i hi)
      unfold b1C
      rw [lsF_get hi, fitB_iff.2 q2, Bool.not_true, Bool.or_false, decide_eq_false_iff_not]
      rcases Nat.eq_zero_or_pos i with z | z
      · subst z; show ¬ atC ls b st c 0 < st; have : frC ls b st c 0 = st := rfl; omega
      · rw [pe_fr st hi z]; omega
    unfold ckE
    rw [if_pos h0, if_pos hlen, if_neg (fst_neg.2 hb1)]
    constructor
    · intro q i hi
      have h2 : ¬ 0 ≤ fstI (b2C ls a b (lsF ls.length (atC ls b st c))) ls.length := fun z => by rw [if_pos z] at q; cases q
      have h3 := fst_neg.1 h2 i hi
      unfold b2C at h3
      rw [decide_eq_false_iff_not, dv_eq (i + 1) (by omega)] at h3
      omega
    · intro q
      rw [if_neg (fst_neg.2 fun i hi => ?_)]
      unfold b2C
      rw [decide_eq_false_iff_not, dv_eq (i + 1) (by omega)]
      have := q i hi
      omega
  constructor
  · rintro ⟨h1, h2⟩; exact ⟨h1, (key h1).1 h2⟩
  · rintro ⟨h1, h2⟩; exact ⟨h1, (key h1).2 h2⟩
end
theorem fr_congr {ls : List Lg} {b st : Int} {c d : Nat → Bool} : ∀ n, (∀ i, 0 < i → i < n → c i = d i) → (frC ls b st c n = frC ls b st d n ∧ ∀ i, i < n → atC ls b st c i = atC ls b st d i)
  | 0, _ => ⟨rfl, fun i hi => absurd hi (Nat.not_lt_zero i)⟩
  | n + 1, h => by
    obtain ⟨h1, h2⟩ := fr_congr (ls := ls) (b := b) (st := st) n fun i h0 hi => h i h0 (by omega)
    have e : atC ls b st c n = atC ls b st d n := by
      show stC ls b c n (frC ls b st c n) = stC ls b d n (frC ls b st d n)
      unfold stC
      rw [h1]
      by_cases q : 0 < n
      · rw [h n q (by omega)]
      · rw [if_neg (fun z => q z.1), if_neg (fun z => q z.1)]
    refine ⟨?_, fun i hi => ?_⟩
    · show atC ls b st c n + (gl ls n).mi = atC ls b st d n + (gl ls n).mi
      rw [e]
    · rcases Nat.lt_or_ge i n with q | q
      · exact h2 i q
      · obtain rfl : i = n := by omega
        exact e
theorem ms_ex (c : Nat → Bool) : ∀ n, ∃ m, m < 2 ^ n ∧ ∀ i, i < n → msC m i = c i
  | 0 => ⟨0, by decide, fun i hi => absurd hi (Nat.not_lt_zero i)⟩
  | n + 1 => by
    obtain ⟨m, h1, h2⟩ := ms_ex c n
    refine ⟨m + (if c n = true then 2 ^ n else 0), ?_, fun i hi => ?_⟩
    · rw [Nat.pow_succ]; split <;> omega
    · have hp : 0 < 2 ^ n := Nat.pow_pos (by omega)
      rcases Nat.lt_or_ge i n with q | q
      · rw [← h2 i q]
        unfold msC
        obtain ⟨k, hk⟩ : ∃ k, 2 ^ n = 2 ^ i * (2 * k) := ⟨2 ^ (n - i - 1), by
          rw [← Nat.pow_succ', ← Nat.pow_add]; congr 1; omega⟩
        have hpi : 0 < 2 ^ i := Nat.pow_pos (by omega)
        congr 1
        split
        · rw [hk, Nat.add_mul_div_left _ _ hpi, Nat.add_mul_mod_self_left]
        · rw [Nat.add_zero]
      · obtain rfl : i = n := by omega
        unfold msC
        cases hc : c i
        · rw [if_neg (by decide), Nat.add_zero, Nat.div_eq_of_lt h1]; rfl
        · rw [if_pos rfl, Nat.add_div_right _ hp, Nat.div_eq_of_lt h1]; rfl
end Go.Proofs.Ytoiohkjomcbadaa

namespace Go.Proofs.Ytoiohkjomcbadaa
open Go Sy
set_option linter.unusedVariables false
def AlwC (ls : List Lg) (a b st : Int) (s : List Int) : Prop := ∃ c, (∀ i, i < ls.length → 0 ≤ atC ls b st c i) ∧ (∀ i, i < ls.length → dvI ls b st c (i + 1) ≤ a) ∧ s = lsF ls.length (atC ls b st c)
theorem alw_len {ls : List Lg} {a b st : Int} {s : List Int} (h : AlwC ls a b st s) : s.length = ls.length := by
  obtain ⟨c, _, _, rfl⟩ := h
  exact lsF_len _ _
theorem dvI_congr {ls : List Lg} {b st : Int} {c d : Nat → Bool} (h : ∀ i, 0 < i → i < ls.length → c i = d i) : ∀ i, i ≤ ls.length → dvI ls b st c i = dvI ls b st d i
  | 0, _ => rfl
  | i + 1, hi => by
    have ih := dvI_congr (ls := ls) (b := b) (st := st) h i (by omega)
    have h1 := (fr_congr (ls := ls) (b := b) (st := st) i fun k h0 hk => h k h0 (by omega)).1
    have h2 := (fr_congr (ls := ls) (b := b) (st := st) (i + 1) fun k h0 hk => h k h0 (by omega)).2 i (by omega)
    show (if 0 < i ∧ b ≤ atC ls b st c i - frC ls b st c i then 0 else dvI ls b st c i) + (gl ls i).mi = (if 0 < i ∧ b ≤ atC ls b st d i - frC ls b st d i then 0 else dvI ls b st d i) + (gl ls i).mi
    rw [ih, h1, h2]
theorem crL_best {ls : List Lg} {a b st : Int} (h0 : crE ls a b st = 0) (hn : 0 < ls.length) : Bst (AlwC ls a b st) (crL ls a b st) := by
  have h1 := bsC_best (ls := ls) (a := a) (b := b) (st := st) hn (2 ^ ls.length)
  have e : crL ls a b st = bsC ls a b st (2 ^ ls.length) := by unfold crL; rw [if_pos ⟨h0, by omega⟩]
  rw [e]
  refine bst_congr (fun s => ?_) h1
  constructor
  · rintro ⟨m, hm, ho, rfl⟩
    obtain ⟨q1, q2⟩ := (tmO_iff h0).1 ho
    exact ⟨msC m, q1, q2, by unfold tmL; rw [if_pos (li_iff.2 q1)]⟩
  · rintro ⟨c, q1, q2, rfl⟩
    obtain ⟨m, hm, hc⟩ := ms_ex c ls.length
    have hcc : ∀ i, 0 < i → i < ls.length → msC m i = c i := fun i _ hi => hc i hi
    have hat := (fr_congr (ls := ls) (b := b) (st := st) ls.length hcc).2
    have q3 : ∀ i, i < ls.length → 0 ≤ atC ls b st (msC m) i := fun i hi => by rw [hat i hi]; exact q1 i hi
    refine ⟨m, hm, (tmO_iff h0).2 ⟨q3, fun i hi => by rw [dvI_congr hcc (i + 1) (by omega)]; exact q2 i hi⟩, ?_⟩
    unfold tmL
    rw [if_pos (li_iff.2 q3)]
    exact (lsF_congr fun i hi => hat i hi).symm
theorem crF_iff {ls : List Lg} {a b st : Int} (h0 : crE ls a b st = 0) (hn : 0 < ls.length) : crF ls a b st = if crL ls a b st = [] then 15 else 0 := by
  have e : crL ls a b st = bsC ls a b st (2 ^ ls.length) := by unfold crL; rw [if_pos ⟨h0, by omega⟩]
  rw [e]
  unfold crF
  rw [if_pos h0, if_neg (by omega)]
end Go.Proofs.Ytoiohkjomcbadaa

namespace Go.Proofs.Ytoiohkjomcbadaa
open Go Sy
set_option linter.unusedVariables false
def nwC (ls : List Lg) (b : Int) (i : Nat) (t d x : Int) : Int := (if 0 < i ∧ b ≤ x - t then 0 else d) + (gl ls i).mi
def tryC (ls : List Lg) (a b : Int) (rec : List Int → List Int → Int → Int → List Int) (B ts : List Int) (t d fr : Int) : List Int :=
  if 0 ≤ fstW (gl ls ts.length).mi fr (gl ls ts.length).ws ∧ nwC ls b ts.length t d (fstW (gl ls ts.length).mi fr (gl ls ts.length).ws) ≤ a then rec B (ts ++ [fstW (gl ls ts.length).mi fr (gl ls ts.length).ws]) (fstW (gl ls ts.length).mi fr (gl ls ts.length).ws + (gl ls ts.length).mi) (nwC ls b ts.length t d (fstW (gl ls ts.length).mi fr (gl ls ts.length).ws)) else B
def goC (ls : List Lg) (a b : Int) : Nat → List Int → List Int → Int → Int → List Int
  | 0, B, ts, _, _ => if B = [] ∨ bfC ts B < 0 then ts else B
  | k + 1, B, ts, t, d => if 0 < ts.length then tryC ls a b (goC ls a b k) (tryC ls a b (goC ls a b k) B ts t d t) ts t d (t + b) else tryC ls a b (goC ls a b k) B ts t d t
def Cnt (ls : List Lg) (a b : Int) : Nat → List Int → Int → Int → List Int → Prop
  | 0, ts, _, _, s => s = ts
  | k + 1, ts, t, d, s => ∃ x, ((x = fstW (gl ls ts.length).mi t (gl ls ts.length).ws) ∨ (0 < ts.length ∧ x = fstW (gl ls ts.length).mi (t + b) (gl ls ts.length).ws)) ∧ 0 ≤ x ∧ nwC ls b ts.length t d x ≤ a ∧ Cnt ls a b k (ts ++ [x]) (x + (gl ls ts.length).mi) (nwC ls b ts.length t d x) s
theorem cnt_len {ls : List Lg} {a b : Int} : ∀ (k : Nat) (ts : List Int) (t d : Int) (s : List Int), Cnt ls a b k ts t d s → s.length = ts.length + k
  | 0, ts, t, d, s, h => by have h : s = ts := h; rw [h]; rfl
  | k + 1, ts, t, d, s, ⟨x, _, _, _, h⟩ => by rw [cnt_len k _ _ _ _ h, List.length_append, List.length_singleton]; omega
theorem goC_best {ls : List Lg} {a b : Int} (h0 : 0 < ls.length) : ∀ (k : Nat) (B ts : List Int) (t d : Int) (S : List Int → Prop), ts.length + k = ls.length → (∀ s, S s → s.length = ls.length) → Bst S B → Bst (fun s => S s ∨ Cnt ls a b k ts t d s) (goC ls a b k B ts t d)
  | 0, B, ts, t, d, S, hl, hS, hB => bst_step hS h0 hB (by omega)
  | k + 1, B, ts, t, d, S, hl, hS, hB => by
    have key : ∀ (fr : Int) (B : List Int) (S : List Int → Prop), (∀ s, S s → s.length = ls.length) → Bst S B →
        Bst (fun s => S s ∨ (0 ≤ fstW (gl ls ts.length).mi fr (gl ls ts.length).ws ∧ nwC ls b ts.length t d (fstW (gl ls ts.length).mi fr (gl ls ts.length).ws) ≤ a ∧ Cnt ls a b k (ts ++ [fstW (gl ls ts.length).mi fr (gl ls ts.length).ws]) (fstW (gl ls ts.length).mi fr (gl ls ts.length).ws + (gl ls ts.length).mi) (nwC ls b ts.length t d (fstW (gl ls ts.length).mi fr (gl ls ts.length).ws)) s)) (tryC ls a b (goC ls a b k) B ts t d fr) := fun fr B S hS hB => by
      unfold tryC
      generalize fstW (gl ls ts.length).mi fr (gl ls ts.length).ws = x
      by_cases q : 0 ≤ x ∧ nwC ls b ts.length t d x ≤ a
      · rw [if_pos q]
        refine bst_congr (fun s => ?_) (goC_best h0 k B (ts ++ [x]) (x + (gl ls ts.length).mi) (nwC ls b ts.length t d x) S (by rw [List.length_append, List.length_singleton]; omega) hS hB)
        exact ⟨fun z => z.imp id fun w => ⟨q.1, q.2, w⟩, fun z => z.imp id fun w => w.2.2⟩
      · rw [if_neg q]
        refine bst_congr (fun s => ⟨.inl, fun z => z.elim id fun w => absurd ⟨w.1, w.2.1⟩ q⟩) hB
    have h1 := key t B S hS hB
    have hS1 : ∀ s, (S s ∨ (0 ≤ fstW (gl ls ts.length).mi t (gl ls ts.length).ws ∧ nwC ls b ts.length t d (fstW (gl ls ts.length).mi t (gl ls ts.length).ws) ≤ a ∧ Cnt ls a b k (ts ++ [fstW (gl ls ts.length).mi t (gl ls ts.length).ws]) (fstW (gl ls ts.length).mi t (gl ls ts.length).ws + (gl ls ts.length).mi) (nwC ls b ts.length t d (fstW (gl ls ts.length).mi t (gl ls ts.length).ws)) s)) → s.length = ls.length := fun s hs => by
      rcases hs with hs | ⟨_, _, hs⟩
      · exact hS s hs
      · rw [cnt_len _ _ _ _ _ hs, List.length_append, List.length_singleton]; omega
    show Bst _ (if 0 < ts.length then _ else _)
    by_cases q : 0 < ts.length
    · rw [if_pos q]
      refine bst_congr (fun s => ?_) (key (t + b) _ _ hS1 h1)
      constructor
      · rintro ((hs | ⟨h1, h2, h3⟩) | ⟨h1, h2, h3⟩)
        · exact .inl hs
        · exact .inr ⟨_, .inl rfl, h1, h2, h3⟩
        · exact .inr ⟨_, .inr ⟨q, rfl⟩, h1, h2, h3⟩
      · rintro (hs | ⟨x, rfl | ⟨_, rfl⟩, h1, h2, h3⟩)
        · exact .inl (.inl hs)
        · exact .inl (.inr ⟨h1, h2, h3⟩)
        · exact .inr ⟨h1, h2, h3⟩
    · rw [if_neg q]
      refine bst_congr (fun s => ?_) h1
      constructor
      · rintro (hs | ⟨h1, h2, h3⟩)
        · exact .inl hs
        · exact .inr ⟨_, .inl rfl, h1, h2, h3⟩
      · rintro (hs | ⟨x, rfl | ⟨q2, rfl⟩, h1, h2, h3⟩)
        · exact .inl hs
        · exact .inr ⟨h1, h2, h3⟩
        · exact absurd q2 q
theorem lsF_succ (n : Nat) (f : Nat → Int) : lsF (n + 1) f = lsF n f ++ [f n] := by unfold lsF; rw [List.range_succ, List.map_append]; rfl
theorem cnt_alw {ls : List Lg} {a b st : Int} : ∀ (k i : Nat), i + k = ls.length → ∀ (c : Nat → Bool) (s : List Int), Cnt ls a b k (lsF i (atC ls b st c)) (frC ls b st c i) (dvI ls b st c i) s → (∀ j, j < i → 0 ≤ atC ls b st c j) → (∀ j, j < i → dvI ls b st c (j + 1) ≤ a) → AlwC ls a b st s
  | 0, i, hi, c, s, hs, h1, h2 => by
    have hs : s = lsF i (atC ls b st c) := hs
    obtain rfl : i = ls.length := by omega
    exact ⟨c, h1, h2, hs⟩
  | k + 1, i, hi, c, s, ⟨x, hx, h0, hn, hs⟩, h1, h2 => by
    rw [lsF_len] at hx hn hs
    obtain ⟨r, hr, hxr⟩ : ∃ r : Bool, (r = true → 0 < i) ∧ x = fstW (gl ls i).mi (if r = true then frC ls b st c i + b else frC ls b st c i) (gl ls i).ws := by
      rcases hx with hx | ⟨q, hx⟩
      · exact ⟨false, fun q => (by cases q), hx⟩
      · exact ⟨true, fun _ => q, hx⟩
    obtain ⟨c1, hc1⟩ : ∃ c1 : Nat → Bool, c1 = fun j => if j = i then r else c j := ⟨_, rfl⟩
    have hcc : ∀ j, 0 < j → j < i → c j = c1 j := fun j _ hj => by rw [hc1]; exact (if_neg (by omega)).symm
    have hci : c1 i = r := by rw [hc1]; exact if_pos rfl
    obtain ⟨f1, f2⟩ := fr_congr (ls := ls) (b := b) (st := st) i hcc
    have hx1 : atC ls b st c1 i = x := by
      show stC ls b c1 i (frC ls b st c1 i) = x
      unfold stC
      rw [← f1, hci, hxr]
      cases r
      · rw [if_neg (fun q => by cases q.2), if_neg (by decide)]
      · rw [if_pos ⟨hr rfl, rfl⟩, if_pos rfl]
    have hd : ∀ j, j ≤ i → dvI ls b st c j = dvI ls b st c1 j := fun j => by
      induction j with
      | zero => intro _; rfl
      | succ j ih =>
        intro hj
        have g1 := (fr_congr (ls := ls) (b := b) (st := st) j fun k h0 hk => hcc k h0 (by omega)).1
        show (if 0 < j ∧ b ≤ atC ls b st c j - frC ls b st c j then 0 else dvI ls b st c j) + (gl ls j).mi = (if 0 < j ∧ b ≤ atC ls b st c1 j - frC ls b st c1 j then 0 else dvI ls b st c1 j) + (gl ls j).mi
        rw [ih (by omega), g1, f2 j (by omega)]
    have hd1 : dvI ls b st c1 (i + 1) = nwC ls b i (frC ls b st c i) (dvI ls b st c i) x := by
      show (if 0 < i ∧ b ≤ atC ls b st c1 i - frC ls b st c1 i then 0 else dvI ls b st c1 i) + (gl ls i).mi = _
      rw [hx1, ← f1, ← hd i (Nat.le_refl _)]
      rfl
    refine cnt_alw k (i + 1) (by omega) c1 s ?_ (fun j hj => ?_) (fun j hj => ?_)
    · rw [hd1, lsF_succ, hx1, ← lsF_congr (f := atC ls b st c) fun j hj => f2 j hj]
      have e : frC ls b st c1 (i + 1) = x + (gl ls i).mi := by
        show atC ls b st c1 i + (gl ls i).mi = _
        rw [hx1]
      rw [e]
      exact hs
    · rcases Nat.lt_or_ge j i with q | q
      · rw [← f2 j q]; exact h1 j q
      · obtain rfl : j = i := by omega
        rw [hx1]; exact h0
    · rcases Nat.lt_or_ge j i with q | q
      · rw [← hd (j + 1) (by omega)]; exact h2 j q
      · obtain rfl : j = i := by omega
        rw [hd1]; exact hn
theorem alw_cnt {ls : List Lg} {a b st : Int} {c : Nat → Bool} (h1 : ∀ j, j < ls.length → 0 ≤ atC ls b st c j) (h2 : ∀ j, j < ls.length → dvI ls b st c (j + 1) ≤ a) : ∀ (k i : Nat), i + k = ls.length → Cnt ls a b k (lsF i (atC ls b st c)) (frC ls b st c i) (dvI ls b st c i) (lsF ls.length (atC ls b st c))
  | 0, i, hi => by
    obtain rfl : i = ls.length := by omega
    rfl
  | k + 1, i, hi => by
    refine ⟨atC ls b st c i, ?_, h1 i (by omega), ?_, ?_⟩
    · rw [lsF_len]
      by_cases q : 0 < i ∧ c i = true
      · refine .inr ⟨q.1, ?_⟩
        show stC ls b c i (frC ls b st c i) = _
        unfold stC
        rw [if_pos q]
      · refine .inl ?_
        show stC ls b c i (frC ls b st c i) = _
        unfold stC
        rw [if_neg q]
    · rw [lsF_len]; exact h2 i (by omega)
    · rw [lsF_len, ← lsF_succ]
      exact alw_cnt h1 h2 k (i + 1) (by omega)
theorem goC_crL {ls : List Lg} {a b st : Int} (h0 : crE ls a b st = 0) (hn : 0 < ls.length) : goC ls a b ls.length [] [] st 0 = crL ls a b st := by
  have hb : Bst (fun _ => False) [] := ⟨.inl rfl, fun s hs => hs.elim⟩
  have h1 := goC_best (a := a) (b := b) hn ls.length [] [] st 0 (fun _ => False) (by simp) (fun s hs => hs.elim) hb
  have h2 : Bst (AlwC ls a b st) (goC ls a b ls.length [] [] st 0) := by
    refine bst_congr (fun s => ⟨fun hs => ?_, fun hs => ?_⟩) h1
    · rcases hs with hs | hs
      · exact hs.elim
      · exact cnt_alw ls.length 0 (by omega) (fun _ => false) s hs (fun j hj => absurd hj (Nat.not_lt_zero j)) (fun j hj => absurd hj (Nat.not_lt_zero j))
    · obtain ⟨c, q1, q2, rfl⟩ := hs
      exact .inr (alw_cnt q1 q2 ls.length 0 (by omega))
  exact bst_uniq (fun s hs => alw_len hs) hn h2 (crL_best h0 hn)
theorem goC_len {ls : List Lg} {a b : Int} : ∀ (k : Nat) (B ts : List Int) (t d : Int), ts.length + k = ls.length → (B = [] ∨ B.length = ls.length) → goC ls a b k B ts t d = [] ∨ (goC ls a b k B ts t d).length = ls.length
  | 0, B, ts, t, d, hl, hB => by
    show (if _ then ts else B) = [] ∨ (if _ then ts else B).length = _
    split
    · exact .inr (by omega)
    · exact hB
  | k + 1, B, ts, t, d, hl, hB => by
    have key : ∀ (fr : Int) (B : List Int), (B = [] ∨ B.length = ls.length) → tryC ls a b (goC ls a b k) B ts t d fr = [] ∨ (tryC ls a b (goC ls a b k) B ts t d fr).length = ls.length := fun fr B hB => by
      unfold tryC
      split
      · exact goC_len k _ _ _ _ (by rw [List.length_append, List.length_singleton]; omega) hB
      · exact hB
    rw [show goC ls a b (k + 1) B ts t d = if 0 < ts.length then tryC ls a b (goC ls a b k) (tryC ls a b (goC ls a b k) B ts t d t) ts t d (t + b) else tryC ls a b (goC ls a b k) B ts t d t from rfl]
    split
    · exact key _ _ (key _ _ hB)
    · exact key _ _ hB
end Go.Proofs.Ytoiohkjomcbadaa

namespace Go.Proofs.Ytoiohkjomcbadaa
open Go Sy
set_option maxRecDepth 100000
set_option maxHeartbeats 4000000
set_option linter.unusedVariables false
set_option linter.unusedSimpArgs false
theorem bq_l {k s : Nat} (h : k < s) : (k == s) = false := beq_eq_false_iff_ne.2 (by omega)
theorem bq_r {k s : Nat} (h : s < k) : (k == s) = false := beq_eq_false_iff_ne.2 (by omega)
theorem ls_l {k s : Nat} {m : Mem} {b : Blk} (h : k < s) : lm (setm m s b) k = lm m k := lm_set_other _ _ (by omega)
theorem ls_r {k s : Nat} {m : Mem} {b : Blk} (h : s < k) : lm (setm m s b) k = lm m k := lm_set_other _ _ (by omega)
theorem finN_of_finO {rv : List RV} {T n : Nat} {α : Type} {d : α} {F : α → List AV} {l : List α} (hp : ∀ x ∈ l, pureAll (F x) = true) : ∀ e s, FinO rv T n d F l e s → FinN rv (.sl n d F l) e s := fun e s q => by
  have key : ∀ k st, lm s.mem k = some (.row st T n d F l) → pack ([AV.row k st].map (view (lm s.mem) 4)) = .sl n d F l ∧ newL (lm s.mem) [AV.row k st] := fun k st h => by
    refine ⟨by simp only [List.map_cons, List.map_nil, view, h, if_true, pack], ⟨?_, trivial⟩⟩
    simp only [newB, h]
    exact hp
  cases e with
  | e id => exact q.elim
  | n => obtain ⟨k, st, h1, h2⟩ := q; exact ⟨_, h1, key k st h2⟩
  | r => obtain ⟨k, st, h1, h2⟩ := q; exact ⟨_, h1, key k st h2⟩
theorem w80 (l : List Int) (hl : l.length ≤ 1000000) : W Try.prog 8 Xn80_0 (init [aI l]) (FinO [.t 2] 2 1 0 cI l) := by
  repeat (first | refine WK_go ?_ | refine W_seqL ?_ | refine W_seq ?_ | refine W_block ?_)
  refine W_regL ?_
  (refine sy1 ?_; try exact True.intro)
  repeat (first | refine WK_go ?_ | refine W_seqL ?_ | refine W_seq ?_ | refine W_block ?_)
  refine W_regX [1] ?_
  simp (maxSteps := 400000) (disch := omega) only [push_cast, ↓reduceIte, reduceCtorEq, Nat.reduceAdd, Nat.reduceSub, Nat.reduceEqDiff, Nat.reduceLeDiff, Nat.reduceLT, Nat.reduceBEq, Nat.reduceDiv, Nat.reduceMod, Nat.reducePow, Nat.reduceMul, Int.reduceToNat, Int.reduceLT, Int.reduceLE, chainX, SpM, List.take_succ_cons, List.take_zero, List.drop_succ_cons, List.drop_zero]
  refine ⟨[], rfl, 1, Int, 0, cI, l, rfl, fun b hb => ?_⟩
  (refine sy1 ?_; try exact True.intro)
  cases b
  · refine W_cond (by rfl) (fun h => by cases h) (fun _ => ?_)
    repeat' (first | refine w1g ?_ | refine w1l ?_ | refine w1q ?_ | refine w1b ?_ | refine w1p ?_ | ((first | refine w1r ?_ | refine w1k ?_ | refine w1e ?_); (refine sy1 ?_; try exact True.intro)) | refine an2 ?_ | fail)
    refine ⟨rfl, trivial, Int, 0, cI, [], rfl, by omega, fun x _ => ⟨rfl, rfl⟩, rfl, ?_⟩
    (refine sy1 ?_; try exact True.intro)
    refine ⟨rfl, ⟨Nat.le_of_ble_eq_true rfl, rfl⟩, trivial, l, rfl, by first | omega | (simp; omega), by first | omega | (simp; omega), ?_⟩
    (refine sy1 ?_; try exact True.intro)
    exact W_ret ⟨_, _, ⟨rfl, rfl⟩, rfl⟩
  · refine W_cond (by rfl) (fun _ => ?_) (fun h => by cases h)
    have e : l = [] := by
      cases l with
      | nil => rfl
      | cons x r => have := hb (by simp); cases this
    subst e
    repeat' (first | refine w1g ?_ | refine w1l ?_ | refine w1q ?_ | refine w1b ?_ | refine w1p ?_ | ((first | refine w1r ?_ | refine w1k ?_ | refine w1e ?_); (refine sy1 ?_; try exact True.intro)) | refine an2 ?_ | fail)
    refine W_le (le_adopt 2 2 1 0 cI (by omega) rfl) ?_
    (refine sy1 ?_; try exact True.intro)
    exact W_ret ⟨_, _, ⟨rfl, rfl⟩, rfl⟩
theorem fw80 (l : List Int) (hl : l.length ≤ 1000000) : FnN Try.prog 80 [aI l] (aI l) :=
  FnN_of_W mixed Xt80 rfl (W_mono' (w80 l hl) (finN_of_finO fun x _ => rfl))
def mG (ls : List Lg) (a b st : Int) (B : List Int) : Mem := [(10, .cells [aL ls, iv a, iv b, iv st]), (20, .cells [slN B]), (21, .cells [.cq 78 [] [.fp [aL ls] 0, .own 20 0, .fp [iv b] 0, .fp [iv a] 0, .own 21 0]])]
theorem mG_bas (ls : List Lg) (a b st : Int) (B : List Int) : Bas 60 (mG ls a b st B) := bas_of rfl
abbrev i78P (ls : List Lg) (a b st : Int) (k : Nat) : Prop := ∀ (ts : List Int) (t d : Int) (B : List Int), ts.length + k = ls.length → (B = [] ∨ B.length = ls.length) → (0 ≤ t ∧ t ≤ 1099511648000) → (0 ≤ d ∧ d ≤ 10080) →
  ∀ (tm : List (Nat × AV)) (R : Mem) (nx kt st1 : Nat), Opq 60 R nx → 60 ≤ kt → kt < nx → lm R kt = some (.row st1 2 1 0 cI ts) → Inl Try.prog 78 [.row kt st1, iv t, iv d, .fp [aL ls] 0, .own 20 0, .fp [iv b] 0, .fp [iv a] 0, .own 21 0] ⟨tm, mG ls a b st B ++ R, nx⟩ (MidX 60 tm nx R fun r B' => r = pack [] ∧ B' = mG ls a b st (goC ls a b k B ts t d))
theorem i81 {ls : List Lg} {a b st : Int} (h : OkC ls a b st) {k : Nat} (ih : i78P ls a b st k) (ts : List Int) (t d fr : Int) (B : List Int) (hl : ts.length + (k + 1) = ls.length) (hB : B = [] ∨ B.length = ls.length) (ht : 0 ≤ t ∧ t ≤ 1099511648000) (hd : 0 ≤ d ∧ d ≤ 10080) (hf : 0 ≤ fr ∧ fr ≤ 1099511698000)
    {tm : List (Nat × AV)} {R : Mem} {nx ki kt st1 : Nat} (hR : Opq 60 R nx) (hk : ki < nx) (hki : lm R ki = some (.cells [iv ts.length])) (hk0 : 60 ≤ ki) (hk2 : 60 ≤ kt) (hkt : kt < nx) (hkr1 : lm R kt = some (.row st1 2 1 0 cI ts)) :
    Inl Try.prog 81 [iv fr, .fp [aL ls] 0, .own ki 0, .fp [iv d] 0, .fp [iv t] 0, .fp [iv b] 0, .fp [iv a] 0, .own 21 0, .fq [.row kt st1] 0] ⟨tm, mG ls a b st B ++ R, nx⟩ (MidX 60 tm nx R fun r B' => r = pack [] ∧ B' = mG ls a b st (tryC ls a b (goC ls a b k) B ts t d fr)) := by
  refine Inl_opqE mixed Xt81 rfl hR (mG_bas ls a b st B) (fun R' nx' hR' hlt hE => ?_)
  have hkt' : lm R' kt = some (.row st1 2 1 0 cI ts) := (hE kt hkt).trans hkr1
  have hN := hR'.n
  have hkr : lm R' ki = some (.cells [iv ts.length]) := (hE ki hk).trans hki
  have hi : ts.length < ls.length := by omega
  have hm := h.m _ hi
  have hw := h.w _ hi
  have hn := h.n
  have hra := h.ra
  have hrb := h.rb
  have c64 := fn64 (gl ls ts.length).ws (gl ls ts.length).mi fr (by omega) (h.k _ hi) ⟨by omega, by omega⟩ ⟨by omega, by omega⟩
  have hgl : ls.getD ts.length dLg = gl ls ts.length := rfl
  have hV : fstV (gl ls ts.length).mi fr (gl ls ts.length).ws = if 0 ≤ fstW (gl ls ts.length).mi fr (gl ls ts.length).ws then fstW (gl ls ts.length).mi fr (gl ls ts.length).ws else 0 := rfl
  have hX : fstW (gl ls ts.length).mi fr (gl ls ts.length).ws = -1 ∨ (0 ≤ fstW (gl ls ts.length).mi fr (gl ls ts.length).ws ∧ fstW (gl ls ts.length).mi fr (gl ls ts.length).ws ≤ 1099511627776) := by
    rcases fst_fit (mi := (gl ls ts.length).mi) (fr := fr) (h.k _ hi) (Int.le_refl 0) (by omega) with q | q
    · exact .inl q
    · exact .inr (fit_rng (h.k _ hi) (by omega) (fitB_iff.2 q.2.2))
  have hT : tryC ls a b (goC ls a b k) B ts t d fr = if 0 ≤ fstW (gl ls ts.length).mi fr (gl ls ts.length).ws ∧ nwC ls b ts.length t d (fstW (gl ls ts.length).mi fr (gl ls ts.length).ws) ≤ a then goC ls a b k B (ts ++ [fstW (gl ls ts.length).mi fr (gl ls ts.length).ws]) (fstW (gl ls ts.length).mi fr (gl ls ts.length).ws + (gl ls ts.length).mi) (nwC ls b ts.length t d (fstW (gl ls ts.length).mi fr (gl ls ts.length).ws)) else B := rfl
  have hnw : ∀ x, nwC ls b ts.length t d x = (if 0 < ts.length ∧ b ≤ x - t then 0 else d) + (gl ls ts.length).mi := fun x => rfl
  rw [hT]
  clear hT
  generalize hG : goC ls a b k = GO at *
  rw [hV] at c64
  generalize fstW (gl ls ts.length).mi fr (gl ls ts.length).ws = x at *
  obtain ⟨nw, hnx⟩ : ∃ nw, nw = nwC ls b ts.length t d x := ⟨_, rfl⟩
  have hnw := hnw x
  rw [← hnx] at hnw ⊢
  have hnr : 0 ≤ nw ∧ nw ≤ 20160 := by rw [hnw]; split <;> omega
  generalize (gl ls ts.length) = g at *
  obtain ⟨y, hy⟩ : ∃ y, y = if 0 ≤ x then x else 0 := ⟨_, rfl⟩
  rw [← hy] at c64
  have hyr : 0 ≤ y ∧ y ≤ 1099511627776 := by rw [hy]; split <;> omega
  obtain ⟨KK, hKK⟩ : ∃ KK : AV → Mem → Prop, KK = fun r B' => r = pack [] ∧ B' = mG ls a b st (if 0 ≤ x ∧ nw ≤ a then GO B (ts ++ [x]) (x + g.mi) nw else B) := ⟨_, rfl⟩
  rw [← hKK]
  simp (maxSteps := 400000) (disch := omega) only [push_cast, ↓reduceIte, reduceCtorEq, Nat.reduceAdd, Nat.reduceSub, Nat.reduceEqDiff, Nat.reduceLeDiff, Nat.reduceLT, Nat.reduceBEq, Nat.reduceDiv, Nat.reduceMod, Nat.reducePow, Nat.reduceMul, Int.reduceToNat, Int.reduceLT, Int.reduceLE, initT, mG, List.cons_append, List.nil_append]
  repeat' (first | refine w1g ?_ | refine w1l ?_ | refine w1q ?_ | refine w1b ?_ | refine w1p ?_ | ((first | refine w1r ?_ | refine w1k ?_ | refine w1e ?_ | refine CallC.now (c64) ?_); simp (maxSteps := 400000) (disch := omega) only [push_cast, ↓reduceIte, reduceCtorEq, Nat.reduceAdd, Nat.reduceSub, Nat.reduceEqDiff, Nat.reduceLeDiff, Nat.reduceLT, Nat.reduceBEq, Nat.reduceDiv, Nat.reduceMod, Nat.reducePow, Nat.reduceMul, Int.reduceToNat, Int.reduceLT, Int.reduceLE, ne_l, ne_r, bq_l, bq_r, ls_l, ls_r, lm_set_same, hkr, hgl]) | refine an2 ?_ | fail)
  obtain ⟨c, hc⟩ : ∃ c : Bool, (decide (b ≤ y - t) && decide (0 < (ts.length : Int))) = c := ⟨_, rfl⟩
  rw [hc]
  obtain ⟨d0, hd0⟩ : ∃ d0, d0 = if c = true then 0 else d := ⟨_, rfl⟩
  have hd1 : 0 ≤ d0 ∧ d0 ≤ 10080 := by rw [hd0]; split <;> omega
  have hdn : 0 ≤ x → d0 + g.mi = nw := fun q => by
    rw [if_pos q] at hy
    rw [hd0, hnw, ← hc, hy]
    congr 1
    by_cases z : 0 < ts.length ∧ b ≤ x - t
    · rw [if_pos z, if_pos (by rw [Bool.and_eq_true, decide_eq_true_eq, decide_eq_true_eq]; omega)]
    · rw [if_neg z, if_neg (by rw [Bool.and_eq_true, decide_eq_true_eq, decide_eq_true_eq]; omega)]
  have hcn : (decide (0 ≤ x) && decide (d0 + g.mi ≤ a)) = decide (0 ≤ x ∧ nw ≤ a) := by
    by_cases z : 0 ≤ x
    · rw [hdn z, Bool.eq_iff_iff, Bool.and_eq_true, decide_eq_true_eq, decide_eq_true_eq, decide_eq_true_eq]
    · rw [decide_eq_false z, Bool.false_and]; exact (decide_eq_false (fun q => z q.1)).symm
  clear hnw hc
  cases c
  · refine W_cond (by rfl) (fun h => by cases h) (fun _ => ?_)
    obtain rfl : d0 = d := hd0
    repeat' (first | refine w1g ?_ | refine w1l ?_ | refine w1q ?_ | refine w1b ?_ | refine w1p ?_ | ((first | refine w1r ?_ | refine w1k ?_ | refine w1e ?_); simp (maxSteps := 400000) (disch := omega) only [push_cast, ↓reduceIte, reduceCtorEq, Nat.reduceAdd, Nat.reduceSub, Nat.reduceEqDiff, Nat.reduceLeDiff, Nat.reduceLT, Nat.reduceBEq, Nat.reduceDiv, Nat.reduceMod, Nat.reducePow, Nat.reduceMul, Int.reduceToNat, Int.reduceLT, Int.reduceLE, ne_l, ne_r, bq_l, bq_r, ls_l, ls_r, lm_set_same, hkr, hgl]) | refine an2 ?_ | fail)
    rw [hcn]
    by_cases hok : 0 ≤ x ∧ nw ≤ a
    · rw [decide_eq_true hok]
      refine W_cond (by rfl) (fun _ => ?_) (fun h => by cases h)
      rw [if_pos hok.1] at hy
      subst hy
      rw [hdn hok.1]
      rw [if_pos hok] at hKK
      repeat' (first | refine w1g ?_ | refine w1l ?_ | refine w1q ?_ | refine w1b ?_ | refine w1p ?_ | ((first | refine W_regS 14 (by decide) (by decide) ?_ | refine w1r ?_ | refine w1k ?_ | refine w1e ?_); simp (maxSteps := 400000) (disch := omega) only [push_cast, ↓reduceIte, reduceCtorEq, Nat.reduceAdd, Nat.reduceSub, Nat.reduceEqDiff, Nat.reduceLeDiff, Nat.reduceLT, Nat.reduceBEq, Nat.reduceDiv, Nat.reduceMod, Nat.reducePow, Nat.reduceMul, Int.reduceToNat, Int.reduceLT, Int.reduceLE, ne_l, ne_r, bq_l, bq_r, ls_l, ls_r, lm_set_same, hkr, hgl, hkt']) | refine an2 ?_ | fail)
      refine CallC.row (fo80 ts (by omega)) ?_
      simp (maxSteps := 400000) (disch := omega) only [push_cast, ↓reduceIte, reduceCtorEq, Nat.reduceAdd, Nat.reduceSub, Nat.reduceEqDiff, Nat.reduceLeDiff, Nat.reduceLT, Nat.reduceBEq, Nat.reduceDiv, Nat.reduceMod, Nat.reducePow, Nat.reduceMul, Int.reduceToNat, Int.reduceLT, Int.reduceLE, ne_l, ne_r, bq_l, bq_r, ls_l, ls_r, lm_set_same, hkr, hgl, hkt']
      refine ⟨rfl, trivial, Int, 0, cI, [y], rfl, by omega, fun x _ => ⟨rfl, rfl⟩, rfl, ?_⟩
      simp (maxSteps := 400000) (disch := omega) only [push_cast, ↓reduceIte, reduceCtorEq, Nat.reduceAdd, Nat.reduceSub, Nat.reduceEqDiff, Nat.reduceLeDiff, Nat.reduceLT, Nat.reduceBEq, Nat.reduceDiv, Nat.reduceMod, Nat.reducePow, Nat.reduceMul, Int.reduceToNat, Int.reduceLT, Int.reduceLE, ne_l, ne_r, bq_l, bq_r, ls_l, ls_r, lm_set_same, hkr, hgl, hkt']
      refine ⟨rfl, ⟨by dsimp only; omega, (hasM_iff _ _).2 (by simp (disch := omega) [lm, ne_l, ne_r, ls_l, ls_r, lm_set_same])⟩, trivial, [y], rfl, by first | omega | (simp; omega), by first | omega | (simp; omega), ?_⟩
      simp (maxSteps := 400000) (disch := omega) only [push_cast, ↓reduceIte, reduceCtorEq, Nat.reduceAdd, Nat.reduceSub, Nat.reduceEqDiff, Nat.reduceLeDiff, Nat.reduceLT, Nat.reduceBEq, Nat.reduceDiv, Nat.reduceMod, Nat.reducePow, Nat.reduceMul, Int.reduceToNat, Int.reduceLT, Int.reduceLE, ne_l, ne_r, bq_l, bq_r, ls_l, ls_r, lm_set_same, hkr, hgl, hkt']
      refine ⟨⟨by omega, by omega⟩, ?_⟩
      have hX2 := fun (k1 k2 N2 : Nat) (g1 g2 g3 : Blk) (q1 : nx' ≤ k1) (q2 : nx' ≤ k2) (q3 : k1 < N2) (q4 : k2 < N2) => ((((Ext.refl hR').put (g := g1) q1 q3 (by omega)).put (g := g2) q2 q4 (Nat.le_refl _)).put (g := g3) q1 q3 (Nat.le_refl _))
      refine CallC.inl (Inl_le' (ih (ts ++ [y]) (y + g.mi) nw B (by rw [List.length_append, List.length_singleton]; omega) hB ⟨by omega, by omega⟩ ⟨by omega, by omega⟩ _ _ _ _ _ (Ext.opq (hX2 _ _ _ _ _ _ (by omega) (by omega) (by omega) (by omega)) hR') (by omega) (by omega) (lm_set_same _ _ _)) (fun r s' hs2 => ?_))
      obtain ⟨B', R3, nx3, hB', hX3, ⟨rfl, rfl⟩, hl⟩ := hs2
      refine ⟨_, ?_, hl⟩
      rw [hG]
      (refine sy1 ?_; try exact True.intro)
      exact ⟨[], _, R3, rfl, sameM.refl _, mG_bas _ _ _ _ _, ((hX2 _ _ _ _ _ _ (by omega) (by omega) (by omega) (by omega)).trans hX3).up (by first | omega | (dsimp only; omega)), by rw [hKK]; exact ⟨rfl, rfl⟩⟩
    · rw [decide_eq_false hok]
      refine W_cond (by rfl) (fun h => by cases h) (fun _ => ?_)
      rw [if_neg hok] at hKK
      refine W_skip ?_
      exact ⟨[], _, R', rfl, sameM.refl _, mG_bas ls a b st B, (Ext.refl hR').up (by first | omega | (dsimp only; omega)), by rw [hKK]; exact ⟨rfl, rfl⟩⟩
  · refine W_cond (by rfl) (fun _ => ?_) (fun h => by cases h)
    obtain rfl : d0 = 0 := hd0
    repeat' (first | refine w1g ?_ | refine w1l ?_ | refine w1q ?_ | refine w1b ?_ | refine w1p ?_ | ((first | refine w1r ?_ | refine w1k ?_ | refine w1e ?_); simp (maxSteps := 400000) (disch := omega) only [push_cast, ↓reduceIte, reduceCtorEq, Nat.reduceAdd, Nat.reduceSub, Nat.reduceEqDiff, Nat.reduceLeDiff, Nat.reduceLT, Nat.reduceBEq, Nat.reduceDiv, Nat.reduceMod, Nat.reducePow, Nat.reduceMul, Int.reduceToNat, Int.reduceLT, Int.reduceLE, ne_l, ne_r, bq_l, bq_r, ls_l, ls_r, lm_set_same, hkr, hgl]) | refine an2 ?_ | fail)
    rw [hcn]
    by_cases hok : 0 ≤ x ∧ nw ≤ a
    · rw [decide_eq_true hok]
      refine W_cond (by rfl) (fun _ => ?_) (fun h => by cases h)
      rw [if_pos hok.1] at hy
      subst hy
      rw [hdn hok.1]
      rw [if_pos hok] at hKK
      repeat' (first | refine w1g ?_ | refine w1l ?_ | refine w1q ?_ | refine w1b ?_ | refine w1p ?_ | ((first | refine W_regS 14 (by decide) (by decide) ?_ | refine w1r ?_ | refine w1k ?_ | refine w1e ?_); simp (maxSteps := 400000) (disch := omega) only [push_cast, ↓reduceIte, reduceCtorEq, Nat.reduceAdd, Nat.reduceSub, Nat.reduceEqDiff, Nat.reduceLeDiff, Nat.reduceLT, Nat.reduceBEq, Nat.reduceDiv, Nat.reduceMod, Nat.reducePow, Nat.reduceMul, Int.reduceToNat, Int.reduceLT, Int.reduceLE, ne_l, ne_r, bq_l, bq_r, ls_l, ls_r, lm_set_same, hkr, hgl, hkt']) | refine an2 ?_ | fail)
      refine CallC.row (fo80 ts (by omega)) ?_
      simp (maxSteps := 400000) (disch := omega) only [push_cast, ↓reduceIte, reduceCtorEq, Nat.reduceAdd, Nat.reduceSub, Nat.reduceEqDiff, Nat.reduceLeDiff, Nat.reduceLT, Nat.reduceBEq, Nat.reduceDiv, Nat.reduceMod, Nat.reducePow, Nat.reduceMul, Int.reduceToNat, Int.reduceLT, Int.reduceLE, ne_l, ne_r, bq_l, bq_r, ls_l, ls_r, lm_set_same, hkr, hgl, hkt']
      refine ⟨rfl, trivial, Int, 0, cI, [y], rfl, by omega, fun x _ => ⟨rfl, rfl⟩, rfl, ?_⟩
      simp (maxSteps := 400000) (disch := omega) only [push_cast, ↓reduceIte, reduceCtorEq, Nat.reduceAdd, Nat.reduceSub, Nat.reduceEqDiff, Nat.reduceLeDiff, Nat.reduceLT, Nat.reduceBEq, Nat.reduceDiv, Nat.reduceMod, Nat.reducePow, Nat.reduceMul, Int.reduceToNat, Int.reduceLT, Int.reduceLE, ne_l, ne_r, bq_l, bq_r, ls_l, ls_r, lm_set_same, hkr, hgl, hkt']
      refine ⟨rfl, ⟨by dsimp only; omega, (hasM_iff _ _).2 (by simp (disch := omega) [lm, ne_l, ne_r, ls_l, ls_r, lm_set_same])⟩, trivial, [y], rfl, by first | omega | (simp; omega), by first | omega | (simp; omega), ?_⟩
      simp (maxSteps := 400000) (disch := omega) only [push_cast, ↓reduceIte, reduceCtorEq, Nat.reduceAdd, Nat.reduceSub, Nat.reduceEqDiff, Nat.reduceLeDiff, Nat.reduceLT, Nat.reduceBEq, Nat.reduceDiv, Nat.reduceMod, Nat.reducePow, Nat.reduceMul, Int.reduceToNat, Int.reduceLT, Int.reduceLE, ne_l, ne_r, bq_l, bq_r, ls_l, ls_r, lm_set_same, hkr, hgl, hkt']
      refine ⟨⟨by omega, by omega⟩, ?_⟩
      have hX2 := fun (k1 k2 N2 : Nat) (g1 g2 g3 : Blk) (q1 : nx' ≤ k1) (q2 : nx' ≤ k2) (q3 : k1 < N2) (q4 : k2 < N2) => ((((Ext.refl hR').put (g := g1) q1 q3 (by omega)).put (g := g2) q2 q4 (Nat.le_refl _)).put (g := g3) q1 q3 (Nat.le_refl _))
      refine CallC.inl (Inl_le' (ih (ts ++ [y]) (y + g.mi) nw B (by rw [List.length_append, List.length_singleton]; omega) hB ⟨by omega, by omega⟩ ⟨by omega, by omega⟩ _ _ _ _ _ (Ext.opq (hX2 _ _ _ _ _ _ (by omega) (by omega) (by omega) (by omega)) hR') (by omega) (by omega) (lm_set_same _ _ _)) (fun r s' hs2 => ?_))
      obtain ⟨B', R3, nx3, hB', hX3, ⟨rfl, rfl⟩, hl⟩ := hs2
      refine ⟨_, ?_, hl⟩
      rw [hG]
      (refine sy1 ?_; try exact True.intro)
      exact ⟨[], _, R3, rfl, sameM.refl _, mG_bas _ _ _ _ _, ((hX2 _ _ _ _ _ _ (by omega) (by omega) (by omega) (by omega)).trans hX3).up (by first | omega | (dsimp only; omega)), by rw [hKK]; exact ⟨rfl, rfl⟩⟩
    · rw [decide_eq_false hok]
      refine W_cond (by rfl) (fun h => by cases h) (fun _ => ?_)
      rw [if_neg hok] at hKK
      refine W_skip ?_
      exact ⟨[], _, R', rfl, sameM.refl _, mG_bas ls a b st B, (Ext.refl hR').up (by first | omega | (dsimp only; omega)), by rw [hKK]; exact ⟨rfl, rfl⟩⟩
theorem i78 {ls : List Lg} {a b st : Int} (h : OkC ls a b st) (hn0 : 0 < ls.length) : ∀ k, i78P ls a b st k := by
  intro k
  induction k with
  | zero =>
    intro ts t d B hl hB ht hd tm R nx kt st1 hR hk2 hkt hkr1
    refine Inl_opqE mixed Xt78 rfl hR (mG_bas ls a b st B) (fun R' nx' hR' hlt hE => ?_)
    have hkt' : lm R' kt = some (.row st1 2 1 0 cI ts) := (hE kt hkt).trans hkr1
    have hN := hR'.n
    have hn := h.n
    have hts : ts ≠ [] := fun q => by rw [q] at hl; simp at hl; omega
    have hG : goC ls a b 0 B ts t d = if B = [] ∨ bfC ts B < 0 then ts else B := rfl
    obtain ⟨KK, hKK⟩ : ∃ KK : AV → Mem → Prop, KK = fun r B' => r = pack [] ∧ B' = mG ls a b st (goC ls a b 0 B ts t d) := ⟨_, rfl⟩
    rw [← hKK]
    rw [hG] at hKK
    have e : (((ts.length : Int)) == (ls.length : Int)) = true := by rw [beq_iff_eq]; omega
    have hslt : slN ts = aI ts := by unfold slN; rw [if_neg hts]
    have cN := fw80 ts (by omega)
    simp (maxSteps := 400000) (disch := omega) only [push_cast, ↓reduceIte, reduceCtorEq, Nat.reduceAdd, Nat.reduceSub, Nat.reduceEqDiff, Nat.reduceLeDiff, Nat.reduceLT, Nat.reduceBEq, Nat.reduceDiv, Nat.reduceMod, Nat.reducePow, Nat.reduceMul, Int.reduceToNat, Int.reduceLT, Int.reduceLE, initT, mG, List.cons_append, List.nil_append]
    repeat' (first | refine w1g ?_ | refine w1l ?_ | refine w1q ?_ | refine w1b ?_ | refine w1p ?_ | ((first | refine w1r ?_ | refine w1k ?_ | refine w1e ?_); simp (maxSteps := 400000) (disch := omega) only [push_cast, ↓reduceIte, reduceCtorEq, Nat.reduceAdd, Nat.reduceSub, Nat.reduceEqDiff, Nat.reduceLeDiff, Nat.reduceLT, Nat.reduceBEq, Nat.reduceDiv, Nat.reduceMod, Nat.reducePow, Nat.reduceMul, Int.reduceToNat, Int.reduceLT, Int.reduceLE, ne_l, ne_r, bq_l, bq_r, ls_l, ls_r, lm_set_same, hkt', e]) | refine an2 ?_ | fail)
    refine W_cond (by rfl) (fun _ => ?_) (fun h => by cases h)
    by_cases hB0 : B = []
    · subst hB0
      rw [if_pos (.inl rfl)] at hKK
      rw [show slN [] = .v (.slice none 0 0) from rfl]
      repeat' (first | refine w1g ?_ | refine w1l ?_ | refine w1q ?_ | refine w1b ?_ | refine w1p ?_ | ((first | refine w1r ?_ | refine w1k ?_ | refine w1e ?_); simp (maxSteps := 400000) (disch := omega) only [push_cast, ↓reduceIte, reduceCtorEq, Nat.reduceAdd, Nat.reduceSub, Nat.reduceEqDiff, Nat.reduceLeDiff, Nat.reduceLT, Nat.reduceBEq, Nat.reduceDiv, Nat.reduceMod, Nat.reducePow, Nat.reduceMul, Int.reduceToNat, Int.reduceLT, Int.reduceLE, ne_l, ne_r, bq_l, bq_r, ls_l, ls_r, lm_set_same, hkt']) | refine an2 ?_ | fail)
      refine CallC.go (bv false) (fun hpc => absurd hpc (by simp [pc])) rfl ?_
      simp (maxSteps := 400000) (disch := omega) only [push_cast, ↓reduceIte, reduceCtorEq, Nat.reduceAdd, Nat.reduceSub, Nat.reduceEqDiff, Nat.reduceLeDiff, Nat.reduceLT, Nat.reduceBEq, Nat.reduceDiv, Nat.reduceMod, Nat.reducePow, Nat.reduceMul, Int.reduceToNat, Int.reduceLT, Int.reduceLE, ne_l, ne_r, bq_l, bq_r, ls_l, ls_r, lm_set_same, hkt']
      repeat' (first | refine w1g ?_ | refine w1l ?_ | refine w1q ?_ | refine w1b ?_ | refine w1p ?_ | ((first | refine w1r ?_ | refine w1k ?_ | refine w1e ?_); simp (maxSteps := 400000) (disch := omega) only [push_cast, ↓reduceIte, reduceCtorEq, Nat.reduceAdd, Nat.reduceSub, Nat.reduceEqDiff, Nat.reduceLeDiff, Nat.reduceLT, Nat.reduceBEq, Nat.reduceDiv, Nat.reduceMod, Nat.reducePow, Nat.reduceMul, Int.reduceToNat, Int.reduceLT, Int.reduceLE, ne_l, ne_r, bq_l, bq_r, ls_l, ls_r, lm_set_same, hkt']) | refine an2 ?_ | fail)
      refine W_cond (by rfl) (fun _ => ?_) (fun h => by cases h)
      repeat' (first | refine w1g ?_ | refine w1l ?_ | refine w1q ?_ | refine w1b ?_ | refine w1p ?_ | ((first | refine w1r ?_ | refine w1k ?_ | refine w1e ?_); simp (maxSteps := 400000) (disch := omega) only [push_cast, ↓reduceIte, reduceCtorEq, Nat.reduceAdd, Nat.reduceSub, Nat.reduceEqDiff, Nat.reduceLeDiff, Nat.reduceLT, Nat.reduceBEq, Nat.reduceDiv, Nat.reduceMod, Nat.reducePow, Nat.reduceMul, Int.reduceToNat, Int.reduceLT, Int.reduceLE, ne_l, ne_r, bq_l, bq_r, ls_l, ls_r, lm_set_same, hkt']) | refine an2 ?_ | fail)
      refine CallC.new _ (fun _ => ⟨trivial, cN⟩) ?_
      simp (maxSteps := 400000) (disch := omega) only [push_cast, ↓reduceIte, reduceCtorEq, Nat.reduceAdd, Nat.reduceSub, Nat.reduceEqDiff, Nat.reduceLeDiff, Nat.reduceLT, Nat.reduceBEq, Nat.reduceDiv, Nat.reduceMod, Nat.reducePow, Nat.reduceMul, Int.reduceToNat, Int.reduceLT, Int.reduceLE, ne_l, ne_r, bq_l, bq_r, ls_l, ls_r, lm_set_same, hkt']
      repeat' (first | refine w1g ?_ | refine w1l ?_ | refine w1q ?_ | refine w1b ?_ | refine w1p ?_ | ((first | refine w1r ?_ | refine w1k ?_ | refine w1e ?_); simp (maxSteps := 400000) (disch := omega) only [push_cast, ↓reduceIte, reduceCtorEq, Nat.reduceAdd, Nat.reduceSub, Nat.reduceEqDiff, Nat.reduceLeDiff, Nat.reduceLT, Nat.reduceBEq, Nat.reduceDiv, Nat.reduceMod, Nat.reducePow, Nat.reduceMul, Int.reduceToNat, Int.reduceLT, Int.reduceLE, ne_l, ne_r, bq_l, bq_r, ls_l, ls_r, lm_set_same, hkt']) | refine an2 ?_ | fail)
      refine W_ret ?_
      exact ⟨[], mG ls a b st ts, _, rfl, (by unfold mG; rw [hslt]; exact sameM.refl _), mG_bas ls a b st ts, (((Ext.refl hR').put (nx2 := nx' + 8) (by omega) (by omega) (by omega)).up (by first | omega | (dsimp only; omega))), by rw [hKK]; exact ⟨rfl, rfl⟩⟩
    · have hBl : B.length = ls.length := hB.resolve_left hB0
      have c79 := fn79 ts B (by omega) (by omega) (by omega)
      have hslB : slN B = aI B := by unfold slN; rw [if_neg hB0]
      rw [hslB]
      repeat (first | refine WK_go ?_ | refine W_seqL ?_ | refine W_seq ?_ | refine W_block ?_)
      refine W_regX [1] ?_
      simp (maxSteps := 400000) (disch := omega) only [push_cast, ↓reduceIte, reduceCtorEq, Nat.reduceAdd, Nat.reduceSub, Nat.reduceEqDiff, Nat.reduceLeDiff, Nat.reduceLT, Nat.reduceBEq, Nat.reduceDiv, Nat.reduceMod, Nat.reducePow, Nat.reduceMul, Int.reduceToNat, Int.reduceLT, Int.reduceLE, chainX, SpM, List.take_succ_cons, List.take_zero, List.drop_succ_cons, List.drop_zero]
      refine ⟨[], rfl, 1, Int, 0, cI, B, rfl, fun b0 hb0 => ?_⟩
      obtain rfl : b0 = false := hb0 (List.length_pos_iff.2 hB0)
      simp (maxSteps := 400000) (disch := omega) only [push_cast, ↓reduceIte, reduceCtorEq, Nat.reduceAdd, Nat.reduceSub, Nat.reduceEqDiff, Nat.reduceLeDiff, Nat.reduceLT, Nat.reduceBEq, Nat.reduceDiv, Nat.reduceMod, Nat.reducePow, Nat.reduceMul, Int.reduceToNat, Int.reduceLT, Int.reduceLE, ne_l, ne_r, bq_l, bq_r, ls_l, ls_r, lm_set_same, hkt']
      refine CallC.go (bv (decide (bfC ts B < 0))) (fun _ => ⟨trivial, c79⟩) rfl ?_
      simp (maxSteps := 400000) (disch := omega) only [push_cast, ↓reduceIte, reduceCtorEq, Nat.reduceAdd, Nat.reduceSub, Nat.reduceEqDiff, Nat.reduceLeDiff, Nat.reduceLT, Nat.reduceBEq, Nat.reduceDiv, Nat.reduceMod, Nat.reducePow, Nat.reduceMul, Int.reduceToNat, Int.reduceLT, Int.reduceLE, ne_l, ne_r, bq_l, bq_r, ls_l, ls_r, lm_set_same, hkt']
      by_cases hbf : bfC ts B < 0
      · rw [if_pos (.inr hbf)] at hKK
        rw [decide_eq_true hbf]
        refine W_cond (by rfl) (fun _ => ?_) (fun h => by cases h)
        repeat' (first | refine w1g ?_ | refine w1l ?_ | refine w1q ?_ | refine w1b ?_ | refine w1p ?_ | ((first | refine w1r ?_ | refine w1k ?_ | refine w1e ?_); simp (maxSteps := 400000) (disch := omega) only [push_cast, ↓reduceIte, reduceCtorEq, Nat.reduceAdd, Nat.reduceSub, Nat.reduceEqDiff, Nat.reduceLeDiff, Nat.reduceLT, Nat.reduceBEq, Nat.reduceDiv, Nat.reduceMod, Nat.reducePow, Nat.reduceMul, Int.reduceToNat, Int.reduceLT, Int.reduceLE, ne_l, ne_r, bq_l, bq_r, ls_l, ls_r, lm_set_same, hkt']) | refine an2 ?_ | fail)
        refine CallC.new _ (fun _ => ⟨trivial, cN⟩) ?_
        simp (maxSteps := 400000) (disch := omega) only [push_cast, ↓reduceIte, reduceCtorEq, Nat.reduceAdd, Nat.reduceSub, Nat.reduceEqDiff, Nat.reduceLeDiff, Nat.reduceLT, Nat.reduceBEq, Nat.reduceDiv, Nat.reduceMod, Nat.reducePow, Nat.reduceMul, Int.reduceToNat, Int.reduceLT, Int.reduceLE, ne_l, ne_r, bq_l, bq_r, ls_l, ls_r, lm_set_same, hkt']
        repeat' (first | refine w1g ?_ | refine w1l ?_ | refine w1q ?_ | refine w1b ?_ | refine w1p ?_ | ((first | refine w1r ?_ | refine w1k ?_ | refine w1e ?_); simp (maxSteps := 400000) (disch := omega) only [push_cast, ↓reduceIte, reduceCtorEq, Nat.reduceAdd, Nat.reduceSub, Nat.reduceEqDiff, Nat.reduceLeDiff, Nat.reduceLT, Nat.reduceBEq, Nat.reduceDiv, Nat.reduceMod, Nat.reducePow, Nat.reduceMul, Int.reduceToNat, Int.reduceLT, Int.reduceLE, ne_l, ne_r, bq_l, bq_r, ls_l, ls_r, lm_set_same, hkt']) | refine an2 ?_ | fail)
        refine W_ret ?_
        exact ⟨[], mG ls a b st ts, _, rfl, (by unfold mG; rw [hslt]; exact sameM.refl _), mG_bas ls a b st ts, (((Ext.refl hR').put (nx2 := nx' + 8) (by omega) (by omega) (by omega)).up (by first | omega | (dsimp only; omega))), by rw [hKK]; exact ⟨rfl, rfl⟩⟩
      · rw [if_neg (fun q => q.elim hB0 hbf)] at hKK
        rw [decide_eq_false hbf]
        refine W_cond (by rfl) (fun h => by cases h) (fun _ => ?_)
        repeat' (first | refine w1g ?_ | refine w1l ?_ | refine w1q ?_ | refine w1b ?_ | refine w1p ?_ | ((first | refine w1r ?_ | refine w1k ?_ | refine w1e ?_); simp (maxSteps := 400000) (disch := omega) only [push_cast, ↓reduceIte, reduceCtorEq, Nat.reduceAdd, Nat.reduceSub, Nat.reduceEqDiff, Nat.reduceLeDiff, Nat.reduceLT, Nat.reduceBEq, Nat.reduceDiv, Nat.reduceMod, Nat.reducePow, Nat.reduceMul, Int.reduceToNat, Int.reduceLT, Int.reduceLE, ne_l, ne_r, bq_l, bq_r, ls_l, ls_r, lm_set_same, hkt']) | refine an2 ?_ | fail)
        refine W_ret ?_
        exact ⟨[], mG ls a b st B, _, rfl, (by unfold mG; rw [hslB]; exact sameM.refl _), mG_bas ls a b st B, (((Ext.refl hR').put (nx2 := nx' + 8) (by omega) (by omega) (by omega)).up (by first | omega | (dsimp only; omega))), by rw [hKK]; exact ⟨rfl, rfl⟩⟩
  | succ k ih =>
    intro ts t d B hl hB ht hd tm R nx kt st1 hR hk2 hkt hkr1
    refine Inl_opqE mixed Xt78 rfl hR (mG_bas ls a b st B) (fun R' nx' hR' hlt hE => ?_)
    have hkt' : lm R' kt = some (.row st1 2 1 0 cI ts) := (hE kt hkt).trans hkr1
    have hN := hR'.n
    have hn := h.n
    have hrb := h.rb
    have hG : goC ls a b (k + 1) B ts t d = if 0 < ts.length then tryC ls a b (goC ls a b k) (tryC ls a b (goC ls a b k) B ts t d t) ts t d (t + b) else tryC ls a b (goC ls a b k) B ts t d t := rfl
    obtain ⟨KK, hKK⟩ : ∃ KK : AV → Mem → Prop, KK = fun r B' => r = pack [] ∧ B' = mG ls a b st (goC ls a b (k + 1) B ts t d) := ⟨_, rfl⟩
    rw [← hKK]
    rw [hG] at hKK
    have e : (((ts.length : Int)) == (ls.length : Int)) = false := by rw [beq_eq_false_iff_ne]; omega
    have hl1 : tryC ls a b (goC ls a b k) B ts t d t = [] ∨ (tryC ls a b (goC ls a b k) B ts t d t).length = ls.length := by
      unfold tryC
      split
      · exact goC_len k _ _ _ _ (by rw [List.length_append, List.length_singleton]; omega) hB
      · exact hB
    have I1 := fun tm R nx ki hR hk hki hk0 hkt2 hkr => i81 h ih ts t d t B (by omega) hB ht hd ⟨by omega, by omega⟩ (tm := tm) (R := R) (nx := nx) (ki := ki) (kt := kt) (st1 := st1) hR hk hki hk0 hk2 hkt2 hkr
    have I2 := fun tm R nx ki hR hk hki hk0 hkt2 hkr => i81 h ih ts t d (t + b) (tryC ls a b (goC ls a b k) B ts t d t) (by omega) hl1 ht hd ⟨by omega, by omega⟩ (tm := tm) (R := R) (nx := nx) (ki := ki) (kt := kt) (st1 := st1) hR hk hki hk0 hk2 hkt2 hkr
    generalize hB1 : tryC ls a b (goC ls a b k) B ts t d t = B1 at *
    generalize hB2 : tryC ls a b (goC ls a b k) B1 ts t d (t + b) = B2 at *
    simp (maxSteps := 400000) (disch := omega) only [push_cast, ↓reduceIte, reduceCtorEq, Nat.reduceAdd, Nat.reduceSub, Nat.reduceEqDiff, Nat.reduceLeDiff, Nat.reduceLT, Nat.reduceBEq, Nat.reduceDiv, Nat.reduceMod, Nat.reducePow, Nat.reduceMul, Int.reduceToNat, Int.reduceLT, Int.reduceLE, initT, mG, List.cons_append, List.nil_append]
    repeat' (first | refine w1g ?_ | refine w1l ?_ | refine w1q ?_ | refine w1b ?_ | refine w1p ?_ | ((first | refine w1r ?_ | refine w1k ?_ | refine w1e ?_); simp (maxSteps := 400000) (disch := omega) only [push_cast, ↓reduceIte, reduceCtorEq, Nat.reduceAdd, Nat.reduceSub, Nat.reduceEqDiff, Nat.reduceLeDiff, Nat.reduceLT, Nat.reduceBEq, Nat.reduceDiv, Nat.reduceMod, Nat.reducePow, Nat.reduceMul, Int.reduceToNat, Int.reduceLT, Int.reduceLE, ne_l, ne_r, bq_l, bq_r, ls_l, ls_r, lm_set_same, hkt', e]) | refine an2 ?_ | fail)
    refine W_cond (by rfl) (fun h => by cases h) (fun _ => ?_)
    repeat' (first | refine w1g ?_ | refine w1l ?_ | refine w1q ?_ | refine w1b ?_ | refine w1p ?_ | ((first | refine w1r ?_ | refine w1k ?_ | refine w1e ?_); simp (maxSteps := 400000) (disch := omega) only [push_cast, ↓reduceIte, reduceCtorEq, Nat.reduceAdd, Nat.reduceSub, Nat.reduceEqDiff, Nat.reduceLeDiff, Nat.reduceLT, Nat.reduceBEq, Nat.reduceDiv, Nat.reduceMod, Nat.reducePow, Nat.reduceMul, Int.reduceToNat, Int.reduceLT, Int.reduceLE, ne_l, ne_r, bq_l, bq_r, ls_l, ls_r, lm_set_same, hkt', e]) | refine an2 ?_ | fail)
    have hX1 := fun (k1 N2 : Nat) (g1 : Blk) (q1 : nx' ≤ k1) (q3 : k1 < N2) => (Ext.refl hR').put (g := g1) q1 q3 (by omega)
    refine CallC.inl (Inl_le' (I1 _ _ _ _ (Ext.opq (hX1 _ _ _ (by omega) (by omega)) hR') (by omega) (lm_set_same _ _ _) (by omega) (by omega) (by rw [lm_set_other _ _ (by omega)]; exact hkt')) (fun r s' hs2 => ?_))
    obtain ⟨B', R3, nx3, hB', hX3, ⟨rfl, rfl⟩, hl⟩ := hs2
    refine ⟨_, ?_, hl⟩
    have hki3 : lm R3 (nx' + 1 + 1 + 1 + 1 + 1) = some (.cells [iv ts.length]) := (hX3.eq _ (by omega)).trans (lm_set_same _ _ _)
    have hkt3 : lm R3 kt = some (.row st1 2 1 0 cI ts) := (hX3.eq _ (by omega)).trans ((lm_set_other _ _ (by omega)).trans hkt')
    have hX4 := (hX1 _ _ _ (by omega) (by omega)).trans hX3
    have hn3 := hX3.n
    clear hX3 hl
    simp (maxSteps := 400000) (disch := omega) only [push_cast, ↓reduceIte, reduceCtorEq, Nat.reduceAdd, Nat.reduceSub, Nat.reduceEqDiff, Nat.reduceLeDiff, Nat.reduceLT, Nat.reduceBEq, Nat.reduceDiv, Nat.reduceMod, Nat.reducePow, Nat.reduceMul, Int.reduceToNat, Int.reduceLT, Int.reduceLE, mG, List.cons_append, List.nil_append]
    repeat' (first | refine w1g ?_ | refine w1l ?_ | refine w1q ?_ | refine w1b ?_ | refine w1p ?_ | ((first | refine w1r ?_ | refine w1k ?_ | refine w1e ?_); simp (maxSteps := 400000) (disch := omega) only [push_cast, ↓reduceIte, reduceCtorEq, Nat.reduceAdd, Nat.reduceSub, Nat.reduceEqDiff, Nat.reduceLeDiff, Nat.reduceLT, Nat.reduceBEq, Nat.reduceDiv, Nat.reduceMod, Nat.reducePow, Nat.reduceMul, Int.reduceToNat, Int.reduceLT, Int.reduceLE, ne_l, ne_r, bq_l, bq_r, ls_l, ls_r, lm_set_same, hki3, hkt3]) | refine an2 ?_ | fail)
    by_cases h0 : 0 < ts.length
    · rw [if_pos h0] at hKK
      rw [show decide (0 < (ts.length : Int)) = true from decide_eq_true (by omega)]
      refine W_cond (by rfl) (fun _ => ?_) (fun h => by cases h)
      repeat' (first | refine w1g ?_ | refine w1l ?_ | refine w1q ?_ | refine w1b ?_ | refine w1p ?_ | ((first | refine w1r ?_ | refine w1k ?_ | refine w1e ?_); simp (maxSteps := 400000) (disch := omega) only [push_cast, ↓reduceIte, reduceCtorEq, Nat.reduceAdd, Nat.reduceSub, Nat.reduceEqDiff, Nat.reduceLeDiff, Nat.reduceLT, Nat.reduceBEq, Nat.reduceDiv, Nat.reduceMod, Nat.reducePow, Nat.reduceMul, Int.reduceToNat, Int.reduceLT, Int.reduceLE, ne_l, ne_r, bq_l, bq_r, ls_l, ls_r, lm_set_same, hki3, hkt3]) | refine an2 ?_ | fail)
      refine CallC.inl (Inl_le' (I2 _ _ _ _ (Ext.opq (hX4.up ?_) hR') (by omega) hki3 (by omega) (by omega) hkt3) (fun r s' hs2 => ?_))
      rotate_left
      · obtain ⟨B', R5, nx5, hB', hX5, ⟨rfl, rfl⟩, hl⟩ := hs2
        refine ⟨_, ?_, hl⟩
        (refine sy1 ?_; try exact True.intro)
        exact ⟨[], _, R5, rfl, sameM.refl _, mG_bas ls a b st B2, ((hX4.up (by omega)).trans hX5).up (by first | omega | (dsimp only; omega)), by rw [hKK]; exact ⟨rfl, rfl⟩⟩
      · omega
    · rw [if_neg h0] at hKK
      rw [show decide (0 < (ts.length : Int)) = false from decide_eq_false (by omega)]
      refine W_cond (by rfl) (fun h => by cases h) (fun _ => ?_)
      refine W_skip ?_
      exact ⟨[], mG ls a b st B1, R3, rfl, (by unfold mG; exact sameM.refl _), mG_bas ls a b st B1, hX4.up (by first | omega | (dsimp only; omega)), by rw [hKK]; exact ⟨rfl, rfl⟩⟩
end Go.Proofs.Ytoiohkjomcbadaa

namespace Go.Proofs.Ytoiohkjomcbadaa
open Go Sy
set_option maxRecDepth 100000
set_option maxHeartbeats 4000000
set_option linter.unusedVariables false
set_option linter.unusedSimpArgs false
theorem fn35 (ls : List Lg) (a b st : Int) (hl : ls.length ≤ 140737488355328) (hw : ∀ x ∈ ls, x.ws.length ≤ 140737488355328) : Sy.Fn Try.prog 35 [aL ls, iv a, iv b, iv st] (.tup [aI (crL ls a b st), iv (crF ls a b st)]) := by
  refine Fn_of_W mixed Xt35 rfl ?_
  have c74 := fn74 ls a b st hl hw
  have eL : crL ls a b st = if crE ls a b st = 0 ∧ ls.length ≠ 0 then bsC ls a b st (2 ^ ls.length) else [] := rfl
  have eF : crF ls a b st = if crE ls a b st = 0 then (if ls.length = 0 then 0 else if bsC ls a b st (2 ^ ls.length) = [] then 15 else 0) else crE ls a b st := rfl
  by_cases h0 : crE ls a b st = 0
  rotate_left
  · rw [eL, eF, if_neg (fun q => h0 q.1), if_neg h0]
    generalize crE ls a b st = E at *
    repeat' (first | refine w1g ?_ | refine w1l ?_ | refine w1q ?_ | refine w1b ?_ | refine w1p ?_ | ((first | refine w1r ?_ | refine w1k ?_ | refine w1e ?_ | refine CallC.now (c74) ?_); (refine sy1 ?_; try exact True.intro)) | refine an2 ?_ | fail)
    refine W_cond (by rfl) (fun _ => ?_) (fun h => absurd (by simpa using h) h0)
    repeat' (first | refine w1g ?_ | refine w1l ?_ | refine w1q ?_ | refine w1b ?_ | refine w1p ?_ | ((first | refine w1r ?_ | refine w1k ?_ | refine w1e ?_); (refine sy1 ?_; try exact True.intro)) | refine an2 ?_ | fail)
    refine W_le (le_nil 8 1 0 cI rfl) ?_
    exact W_ret ⟨[_, _], ⟨rfl, rfl, rfl⟩, rfl⟩
  have h := crE_ok h0
  rw [h0] at c74
  repeat' (first | refine w1g ?_ | refine w1l ?_ | refine w1q ?_ | refine w1b ?_ | refine w1p ?_ | ((first | refine w1r ?_ | refine w1k ?_ | refine w1e ?_ | refine CallC.now (c74) ?_); (refine sy1 ?_; try exact True.intro)) | refine an2 ?_ | fail)
  refine W_cond (by rfl) (fun h => by cases h) (fun _ => ?_)
  repeat' (first | refine w1g ?_ | refine w1l ?_ | refine w1q ?_ | refine w1b ?_ | refine w1p ?_ | ((first | refine w1r ?_ | refine w1k ?_ | refine w1e ?_); (refine sy1 ?_; try exact True.intro)) | refine an2 ?_ | fail)
  by_cases hz : ls.length = 0
  · rw [eL, eF, if_neg (fun q => q.2 hz), if_pos h0, if_pos hz, show ((ls.length : Int) == 0) = true by rw [hz]; rfl]
    refine W_cond (by rfl) (fun _ => ?_) (fun h => by cases h)
    repeat' (first | refine w1g ?_ | refine w1l ?_ | refine w1q ?_ | refine w1b ?_ | refine w1p ?_ | ((first | refine w1r ?_ | refine w1k ?_ | refine w1e ?_); (refine sy1 ?_; try exact True.intro)) | refine an2 ?_ | fail)
    refine W_le (le_nil 8 1 0 cI rfl) ?_
    exact W_ret ⟨[_, _], ⟨rfl, rfl, rfl⟩, rfl⟩
  rw [show ((ls.length : Int) == 0) = false from beq_eq_false_iff_ne.2 (by omega)]
  have hn0 : 0 < ls.length := by omega
  have hs := h.s
  have hI := i78 h hn0 ls.length [] st 0 [] (by simp) (.inl rfl) ⟨by omega, by omega⟩ ⟨by omega, by omega⟩
  rw [goC_crL h0 hn0] at hI
  have hF := crF_iff h0 hn0
  generalize hX : crL ls a b st = X at *
  generalize hY : crF ls a b st = Y at *
  clear eL eF hX hY
  refine W_cond (by rfl) (fun h => by cases h) (fun _ => ?_)
  repeat' (first | refine w1g ?_ | refine w1l ?_ | refine w1q ?_ | refine w1b ?_ | refine w1p ?_ | ((first | refine w1r ?_ | refine w1k ?_ | refine w1e ?_); (refine sy1 ?_; try exact True.intro)) | refine an2 ?_ | fail)
  refine CallC.inl (Inl_sameM (mG ls a b st []) 60 (sameM.refl _) (mG_bas ls a b st []) (Inl_adopt 2 1 0 cI (by omega) (Inl_sameM (mG ls a b st [] ++ [(60, .row 0 2 1 0 cI [])]) 61 (fun k => (by have := sm_push (R := []) (g := .row 0 2 1 0 cI ([] : List Int)) (mG_bas ls a b st []) (Nat.le_refl 60) k; rw [List.append_nil] at this; exact this.symm)) (((opq_nil 60).push _).mem (mG_bas ls a b st [])) (Inl_le' (hI _ _ _ _ _ ((opq_nil 60).push _) (Nat.le_refl 60) (Nat.lt_succ_self 60) rfl) (fun r s' hs2 => ?_)))))
  obtain ⟨B', R3, nx3, hB', hX3, ⟨rfl, rfl⟩, hl2⟩ := hs2
  refine ⟨_, ?_, hl2⟩
  clear hl2 hI
  by_cases hX0 : X = []
  · subst hX0
    rw [if_pos rfl] at hF
    subst hF
    have hsl0 : slN [] = .v (.slice none 0 0) := rfl
    simp (maxSteps := 400000) (disch := omega) only [push_cast, ↓reduceIte, reduceCtorEq, Nat.reduceAdd, Nat.reduceSub, Nat.reduceEqDiff, Nat.reduceLeDiff, Nat.reduceLT, Nat.reduceBEq, Nat.reduceDiv, Nat.reduceMod, Nat.reducePow, Nat.reduceMul, Int.reduceToNat, Int.reduceLT, Int.reduceLE, mG, List.cons_append, List.nil_append, hsl0]
    repeat' (first | refine w1g ?_ | refine w1l ?_ | refine w1q ?_ | refine w1b ?_ | refine w1p ?_ | ((first | refine w1r ?_ | refine w1k ?_ | refine w1e ?_); simp (maxSteps := 400000) (disch := omega) only [push_cast, ↓reduceIte, reduceCtorEq, Nat.reduceAdd, Nat.reduceSub, Nat.reduceEqDiff, Nat.reduceLeDiff, Nat.reduceLT, Nat.reduceBEq, Nat.reduceDiv, Nat.reduceMod, Nat.reducePow, Nat.reduceMul, Int.reduceToNat, Int.reduceLT, Int.reduceLE, hsl0]) | refine an2 ?_ | fail)
    refine W_cond (by rfl) (fun _ => ?_) (fun h => by cases h)
    repeat' (first | refine w1g ?_ | refine w1l ?_ | refine w1q ?_ | refine w1b ?_ | refine w1p ?_ | ((first | refine w1r ?_ | refine w1k ?_ | refine w1e ?_); (refine sy1 ?_; try exact True.intro)) | refine an2 ?_ | fail)
    refine W_le (le_nil 8 1 0 cI rfl) ?_
    exact W_ret ⟨[_, _], ⟨rfl, rfl, rfl⟩, rfl⟩
  · rw [if_neg hX0] at hF
    subst hF
    have hslX : slN X = aI X := by unfold slN; rw [if_neg hX0]
    simp (maxSteps := 400000) (disch := omega) only [push_cast, ↓reduceIte, reduceCtorEq, Nat.reduceAdd, Nat.reduceSub, Nat.reduceEqDiff, Nat.reduceLeDiff, Nat.reduceLT, Nat.reduceBEq, Nat.reduceDiv, Nat.reduceMod, Nat.reducePow, Nat.reduceMul, Int.reduceToNat, Int.reduceLT, Int.reduceLE, mG, List.cons_append, List.nil_append, hslX]
    repeat (first | refine WK_go ?_ | refine W_seqL ?_ | refine W_seq ?_ | refine W_block ?_)
    refine W_regX [1] ?_
    simp (maxSteps := 400000) (disch := omega) only [push_cast, ↓reduceIte, reduceCtorEq, Nat.reduceAdd, Nat.reduceSub, Nat.reduceEqDiff, Nat.reduceLeDiff, Nat.reduceLT, Nat.reduceBEq, Nat.reduceDiv, Nat.reduceMod, Nat.reducePow, Nat.reduceMul, Int.reduceToNat, Int.reduceLT, Int.reduceLE, chainX, SpM, List.take_succ_cons, List.take_zero, List.drop_succ_cons, List.drop_zero]
    refine ⟨[], rfl, 1, Int, 0, cI, X, rfl, fun b0 hb0 => ?_⟩
    obtain rfl : b0 = false := hb0 (List.length_pos_iff.2 hX0)
    (refine sy1 ?_; try exact True.intro)
    refine W_cond (by rfl) (fun h => by cases h) (fun _ => ?_)
    repeat' (first | refine w1g ?_ | refine w1l ?_ | refine w1q ?_ | refine w1b ?_ | refine w1p ?_ | ((first | refine w1r ?_ | refine w1k ?_ | refine w1e ?_); (refine sy1 ?_; try exact True.intro)) | refine an2 ?_ | fail)
    exact W_ret ⟨[_, _], ⟨rfl, rfl, rfl⟩, rfl⟩
end Go.Proofs.Ytoiohkjomcbadaa

namespace Go.Proofs.Ytoiohkjomcbadaa
open Go Sy
set_option linter.unusedVariables false
theorem cr_len {ls : List Lg} {a b st : Int} (h : crL ls a b st ≠ []) : (crL ls a b st).length = ls.length := by
  unfold crL at h ⊢
  split at h
  · rename_i q
    rw [if_pos q]
    exact (bsC_len ls a b st (2 ^ ls.length)).resolve_left h
  · exact absurd rfl h
end Go.Proofs.Ytoiohkjomcbadaa

namespace Go.Proofs.Ytoiohkjomcbadaa
open Go Sy
set_option maxRecDepth 100000
set_option maxHeartbeats 4000000
set_option linter.unusedVariables false
set_option linter.unusedSimpArgs false
end Go.Proofs.Ytoiohkjomcbadaa

namespace Go.Proofs.Ytoiohkjomcbadaa
open Go Sy
set_option maxRecDepth 100000
set_option maxHeartbeats 4000000
set_option linter.unusedVariables false
set_option linter.unusedSimpArgs false
theorem hv_ok {ls : List Lg} (h : hvB ls = false) : ls.length ≤ 20 ∧ ∀ x ∈ ls, x.ws.length ≤ 40 := by
  unfold hvB at h
  rw [Bool.or_eq_false_iff, Bool.or_eq_false_iff, decide_eq_false_iff_not, List.any_eq_false] at h
  refine ⟨by omega, fun x hx => ?_⟩
  have := h.2 x hx
  rw [decide_eq_true_eq] at this
  omega
theorem fn8 (ls : List Lg) (a b st : Int) (l : List Int) (h1 : ls.length ≤ 140737488355328) (h2 : l.length ≤ 140737488355328) : Sy.Fn Try.prog 8 [aL ls, iv a, iv b, iv st, aI l] (bv true) := by
  refine Fn_of_W mixed Xt8 rfl ?_
  have c13 := fn13
  have c32 := fn32 ls h1
  by_cases hq : hvB ls = false ∧ l.length ≤ 40
  rotate_left
  · have e : (hvB ls || decide ((40 : Int) < (l.length : Int))) = true := by
      cases hg : hvB ls
      · rw [Bool.false_or, decide_eq_true_eq]
        have : ¬ l.length ≤ 40 := fun z => hq ⟨hg, z⟩
        omega
      · rfl
    generalize hvB ls = b0 at *
    repeat' (first | refine w1g ?_ | refine w1l ?_ | refine w1q ?_ | refine w1b ?_ | refine w1p ?_ | ((first | refine w1r ?_ | refine w1k ?_ | refine w1e ?_ | refine CallC.now (c32) ?_); (refine sy1 ?_; try exact True.intro)) | refine an2 ?_ | fail)
    rw [e]
    refine W_cond (by rfl) (fun _ => ?_) (fun h => by cases h)
    repeat' (first | refine w1g ?_ | refine w1l ?_ | refine w1q ?_ | refine w1b ?_ | refine w1p ?_ | ((first | refine w1r ?_ | refine w1k ?_ | refine w1e ?_ | refine CallC.now (c13) ?_); (refine sy1 ?_; try exact True.intro)) | refine an2 ?_ | fail)
    exact W_ret ⟨[_], ⟨rfl, rfl⟩, rfl⟩
  obtain ⟨q1, q2⟩ := hq
  obtain ⟨w1, w2⟩ := hv_ok q1
  have hw : ∀ x ∈ ls, x.ws.length ≤ 140737488355328 := fun x hx => by have := w2 x hx; omega
  have c33 := fn33 ls a b st l h1 hw h2
  have c34 := fn34 ls a b st l h1 hw h2
  have c35 := fn35 ls a b st h1 hw
  have c36 := fn36 ls a b st h1 hw
  rw [q1] at c32
  have e1 : decide ((40 : Int) < (l.length : Int)) = false := decide_eq_false (by omega)
  have hcl : (crL ls a b st).length ≤ 20 := by
    by_cases z : crL ls a b st = []
    · rw [z]; simp
    · rw [cr_len z]; exact w1
  have c22 := fn22 (crL ls a b st) (crL ls a b st) (by omega) (by omega) rfl
  generalize crL ls a b st = CL at *
  generalize crF ls a b st = CF at *
  generalize ckE ls a b st l = E1 at *
  generalize ckI ls a b st l = I1 at *
  repeat' (first | refine w1g ?_ | refine w1l ?_ | refine w1q ?_ | refine w1b ?_ | refine w1p ?_ | ((first | refine w1r ?_ | refine w1k ?_ | refine w1e ?_ | refine CallC.now (c32) ?_); simp (maxSteps := 400000) (disch := omega) only [push_cast, ↓reduceIte, reduceCtorEq, Nat.reduceAdd, Nat.reduceSub, Nat.reduceEqDiff, Nat.reduceLeDiff, Nat.reduceLT, Nat.reduceBEq, Nat.reduceDiv, Nat.reduceMod, Nat.reducePow, Nat.reduceMul, Int.reduceToNat, Int.reduceLT, Int.reduceLE, e1]) | refine an2 ?_ | fail)
  refine W_cond (by rfl) (fun h => by cases h) (fun _ => ?_)
  repeat' (first | refine w1g ?_ | refine w1l ?_ | refine w1q ?_ | refine w1b ?_ | refine w1p ?_ | ((first | refine w1r ?_ | refine w1k ?_ | refine w1e ?_ | refine CallC.now (c33) ?_ | refine CallC.now (c34) ?_ | refine CallC.now (c35) ?_ | refine CallC.now (c36) ?_ | refine CallC.now (c22) ?_ | refine CallC.now (c13) ?_); simp (maxSteps := 400000) (disch := omega) only [push_cast, ↓reduceIte, reduceCtorEq, Nat.reduceAdd, Nat.reduceSub, Nat.reduceEqDiff, Nat.reduceLeDiff, Nat.reduceLT, Nat.reduceBEq, Nat.reduceDiv, Nat.reduceMod, Nat.reducePow, Nat.reduceMul, Int.reduceToNat, Int.reduceLT, Int.reduceLE, beq_self_eq_true]) | refine an2 ?_ | fail)
  exact W_ret ⟨[_], ⟨rfl, rfl⟩, rfl⟩
end Go.Proofs.Ytoiohkjomcbadaa

namespace Go.Proofs.Ytoiohkjomcbadaa
open Go Sy Go.ChangeShapes Go.WideShapes Go.RowKit
set_option maxRecDepth 100000
set_option linter.unusedVariables false
theorem own : ownKnob Try.prog.godebug = none := by kernel_rfl
theorem laidOut : laidOutB Try.prog = true := by kernel_rfl
theorem walk8 (W : World) (v0 v1 v2 v3 v4 : Value) (ls : List Lg) (a : Int) (b : Int) (st : Int) (l : List Int) (h0 : fsat (inW W) W (aL ls) v0) (h1 : fsat (inW W) W (iv a) v1) (h2 : fsat (inW W) W (iv b) v2) (h3 : fsat (inW W) W (iv st) v3) (h4 : fsat (inW W) W (aI l) v4) (ols : ls.length * 32 ≤ 140737488351232 ∧ ∀ t ∈ ls, OL t) (oa : I64 a) (ob : I64 b) (ost : I64 st) (ol : l.length * 8 ≤ 140737488351232 ∧ ∀ x ∈ l, I64 x) :
    Calls Try.prog 8 #[v0, v1, v2, v3, v4] W fun e w' => e = .returned (.bool true) ∧ Below W.heap.size W w' := by
  have hf : Sy.Fn Try.prog 8 [aL ls, iv a, iv b, iv st, aI l] (bv true) := fn8 ls a b st l (by have := ols.1; omega) (by have := ol.1; omega)
  refine (hf.2 (inW W) W [v0, v1, v2, v3, v4] (fun b hb => hb) ?_).mono ?_
  · simp only [fsatT]
    exact ⟨v0, _, rfl, h0, v1, _, rfl, h1, v2, _, rfl, h2, v3, _, rfl, h3, v4, _, rfl, h4, rfl⟩
  · rintro e w' ⟨v, rfl, hb, hv⟩
    simp only [fsat] at hv
    exact ⟨by rw [hv], hb⟩
theorem lifted8 (os : Os) (started : os.Started) (H : Type) (enc : TypeId × Value → H) :
    ReturnsInHanded {} Try.checked os 8 .any (Rows.scheduleCrewsSpec.pre6 enc Try.prog Try.f8 Rows.scheduleCrewsRow.domain false) (Rows.scheduleCrewsSpec.post enc Try.prog Try.f8 false true false false) := by
  refine returnsInHanded_of_change_sized (C := Try.checked) own started (by kernel_rfl) Try.func8
    (ChangeSpec.witness6 (enc := enc) (C := Try.checked) false ⟨#[], #[.slice none 0 0, .int .i64 0, .int .i64 0, .int .i64 0, .slice none 0 0], []⟩ 8 (by kernel_rfl) (by kernel_rfl) (by kernel_rfl) (by kernel_rfl)) ?_
  intro W base args ds gs before hval0 hW hcnd hsz _
  have hval : ∀ (j : Nat) t v, Try.f8.params[j]? = some t → args[j]? = some v → Value.okWide Try.prog W .any base t v := hval0
  have hW' := hW
  obtain ⟨p, q, hA0, hV, rfl, hfz, hnd⟩ := hW
  have hA : DataW.TrodAll enc Try.prog W 0 (fun _ => true) true Try.f8.params.toList args.toList ds p := hA0
  rw [Try.params8] at hA hval
  obtain ⟨v0, vs0, d0, ds0, p0, q0, hargs, rfl, rfl, h0, r0⟩ := trodAll_cons hA
  obtain ⟨v1, vs1, d1, ds1, p1, q1, rfl, rfl, rfl, h1, r1⟩ := trodAll_cons r0
  obtain ⟨v2, vs2, d2, ds2, p2, q2, rfl, rfl, rfl, h2, r2⟩ := trodAll_cons r1
  obtain ⟨v3, vs3, d3, ds3, p3, q3, rfl, rfl, rfl, h3, r3⟩ := trodAll_cons r2
  obtain ⟨v4, vs4, d4, ds4, p4, q4, rfl, rfl, rfl, h4, r4⟩ := trodAll_cons r3
  obtain ⟨rfl, rfl, rfl⟩ := trodAll_nil r4
  obtain rfl : args = #[v0, v1, v2, v3, v4] := by cases args; simp_all
  obtain ⟨rfl, rfl⟩ := trodVars_none hV
  have hs : ∀ (j : Nat) t (d : DataW H), [66, 2, 2, 2, 24][j]? = some t → [d0, d1, d2, d3, d4][j]? = some d → ∀ n ∈ d.weights Try.prog t, n ≤ reachBytes := fun j t d ht hd n hn => by
    have hall := List.all_eq_true.1 hsz n (DataW.weights_mem_each (j := j) (t := t) (d := d) (by rw [Try.params8]; simpa using (List.getElem?_append_left (l₂ := _) (by have := (List.getElem?_eq_some_iff.1 ht).1; simpa using this)).trans ht) (by simpa using (List.getElem?_append_left (l₂ := _) (by have := (List.getElem?_eq_some_iff.1 hd).1; simpa using this)).trans hd) n hn)
    simpa using hall
  have lt0 : ∀ x ∈ p0, x.block < W.heap.size := by obtain ⟨m, hm⟩ := h0; exact DataW.trod_lt m _ _ _ hm
  have lt1 : ∀ x ∈ p1, x.block < W.heap.size := by obtain ⟨m, hm⟩ := h1; exact DataW.trod_lt m _ _ _ hm
  have lt2 : ∀ x ∈ p2, x.block < W.heap.size := by obtain ⟨m, hm⟩ := h2; exact DataW.trod_lt m _ _ _ hm
  have lt3 : ∀ x ∈ p3, x.block < W.heap.size := by obtain ⟨m, hm⟩ := h3; exact DataW.trod_lt m _ _ _ hm
  have lt4 : ∀ x ∈ p4, x.block < W.heap.size := by obtain ⟨m, hm⟩ := h4; exact DataW.trod_lt m _ _ _ hm
  obtain ⟨ls, ols, s0⟩ := k66.arg1 (by kernel_rfl) (hval 0 66 v0 rfl rfl) h0 (hs 0 66 d0 rfl rfl)
  obtain ⟨a, oa, s1⟩ := k2.arg1 (by kernel_rfl) (hval 1 2 v1 rfl rfl) h1 (hs 1 2 d1 rfl rfl)
  obtain ⟨b, ob, s2⟩ := k2.arg1 (by kernel_rfl) (hval 2 2 v2 rfl rfl) h2 (hs 2 2 d2 rfl rfl)
  obtain ⟨st, ost, s3⟩ := k2.arg1 (by kernel_rfl) (hval 3 2 v3 rfl rfl) h3 (hs 3 2 d3 rfl rfl)
  obtain ⟨l, ol, s4⟩ := k24.arg1 (by kernel_rfl) (hval 4 24 v4 rfl rfl) h4 (hs 4 24 d4 rfl rfl)
  clear hA0 hval0
  refine (walk8 W v0 v1 v2 v3 v4 ls a b st l s0 s1 s2 s3 s4 ols oa ob ost ol).mono fun e W' ⟨he, bel⟩ => ?_
  subst he
  exact ⟨_, rfl, _, _, _, [], _, [], hW', trodAll_mk1 (shut_bool Try.underlying4 _), (trodAll_cons_mk (Below.trod laidOut (by kernel_rfl) (of_decide_eq_true (by kernel_rfl)) h0 bel lt0) (trodAll_cons_mk (Below.trod laidOut (by kernel_rfl) (of_decide_eq_true (by kernel_rfl)) h1 bel lt1) (trodAll_cons_mk (Below.trod laidOut (by kernel_rfl) (of_decide_eq_true (by kernel_rfl)) h2 bel lt2) (trodAll_cons_mk (Below.trod laidOut (by kernel_rfl) (of_decide_eq_true (by kernel_rfl)) h3 bel lt3) (trodAll_cons_mk (Below.trod laidOut (by kernel_rfl) (of_decide_eq_true (by kernel_rfl)) h4 bel lt4) trodAll_mk0))))), rfl, bel.frame _, fun h => by cases h⟩
theorem over8 : Rows.scheduleCrewsRow.holds Try.pinned (OpenSpec.ofChange Rows.scheduleCrewsSpec) :=
  OpenClaim.holds_of_wide 8 Try.f8 rfl rfl rfl rfl rfl rfl rfl ⟨rfl, rfl, rfl, rfl, rfl⟩ rfl rfl rfl rfl rfl (by kernel_rfl) Try.func8 (by kernel_rfl)
    (of_decide_eq_true (by kernel_rfl)) (by unfold Func.isWrapper; first | (rw [if_pos (by decide +kernel)]; kernel_rfl) | (rw [if_neg (by decide +kernel)]; exact ⟨rfl, rfl⟩))
    (fun os started H enc _ => lifted8 os started H enc)
theorem schedule_crews_holds : Rows.ScheduleCrewsSaid := over8
end Go.Proofs.Ytoiohkjomcbadaa

