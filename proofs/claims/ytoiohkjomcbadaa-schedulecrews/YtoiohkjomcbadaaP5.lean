/- Part 5 of the proof of: For all crews with few legs (or far too many) and few times, both programs check the times alike and return the same best times: the law ScheduleCrews holds. -/
import Derived.Test.YtoiohkjomcbadaaP4
namespace Go.Proofs.Ytoiohkjomcbadaa
open Go Sy
set_option maxRecDepth 100000
set_option maxHeartbeats 4000000
set_option linter.unusedVariables false
set_option linter.unusedSimpArgs false
theorem w58 (j : Jb) (t : Int) (h : j.ts.length ≤ 30) : W Try.prog 26 Xn58_0 (init [aJ j, iv t]) (FinO [.t 4] 3 1 0 cI (memT j t)) := by
  repeat' (first | refine w1g ?_ | refine w1l ?_ | refine w1q ?_ | refine w1b ?_ | refine w1p ?_ | ((first | refine w1r ?_ | refine w1k ?_ | refine w1e ?_); (refine sy1 ?_; try exact True.intro)) | refine an2 ?_ | fail)
  refine W_le (le_adopt 5 3 1 0 cI (by omega) rfl) ?_
  (refine sy1 ?_; try exact True.intro)
  refine W_loopU (fun i : Nat => [(5, .row 7 (memK j t i).length), (11, iv i)]) (fun i => [(7, .row (memK j t i).length 3 1 0 cI (memK j t i))]) (fun i => i ≤ j.ts.length) (fun i => j.ts.length - i) 0 (by omega) (by rfl) (by rfl) (fun i hi => ?_)
  have hl := memK_len j t i
  have hs := memK_succ j t i
  have hm : isM j t i = ((gt j.ts i).tm == t) := rfl
  have hgt : j.ts.getD i dTk = gt j.ts i := rfl
  (refine sy1 ?_; try exact True.intro)
  repeat' (first | refine w1g ?_ | refine w1l ?_ | refine w1q ?_ | refine w1b ?_ | refine w1p ?_ | ((first | refine w1r ?_ | refine w1k ?_ | refine w1e ?_); (refine sy1 ?_; try exact True.intro)) | refine an2 ?_ | fail)
  refine W_condD (by rfl) (fun h5 => ?_) (fun h5 => ?_)
  · have hlt : i < j.ts.length := by omega
    rw [hm] at hs
    generalize gt j.ts i = x at hs hgt hm
    repeat' (first | refine w1g ?_ | refine w1l ?_ | refine w1q ?_ | refine w1b ?_ | refine w1p ?_ | ((first | refine w1r ?_ | refine w1k ?_ | refine w1e ?_); simp (maxSteps := 400000) (disch := omega) only [push_cast, ↓reduceIte, reduceCtorEq, Nat.reduceAdd, Nat.reduceSub, Nat.reduceEqDiff, Nat.reduceLeDiff, Nat.reduceLT, Nat.reduceBEq, Nat.reduceDiv, Nat.reduceMod, Nat.reducePow, Nat.reduceMul, Int.reduceToNat, Int.reduceLT, Int.reduceLE, hgt]) | refine an2 ?_ | fail)
    refine W_cond (by rfl) (fun hb => ?_) (fun hb => ?_)
    · rw [hb, if_pos rfl] at hs
      repeat' (first | refine w1g ?_ | refine w1l ?_ | refine w1q ?_ | refine w1b ?_ | refine w1p ?_ | ((first | refine w1r ?_ | refine w1k ?_ | refine w1e ?_); (refine sy1 ?_; try exact True.intro)) | refine an2 ?_ | fail)
      refine ⟨rfl, trivial, Int, 0, cI, [(i : Int)], rfl, by omega, fun x _ => ⟨rfl, rfl⟩, rfl, ?_⟩
      (refine sy1 ?_; try exact True.intro)
      refine ⟨rfl, ⟨Nat.le_of_ble_eq_true rfl, rfl⟩, trivial, [(i : Int)], rfl, by first | omega | (simp; omega), by first | omega | (simp; omega), ?_⟩
      (refine sy1 ?_; try exact True.intro)
      repeat' (first | refine w1g ?_ | refine w1l ?_ | refine w1q ?_ | refine w1b ?_ | refine w1p ?_ | ((first | refine w1r ?_ | refine w1k ?_ | refine w1e ?_); (refine sy1 ?_; try exact True.intro)) | refine an2 ?_ | fail)
      refine ⟨i + 1, by omega, by omega, by rfl, ?_⟩
      rw [hs, List.length_append]
      (refine syE ?_; try exact True.intro)
    · rw [hb, if_neg (by decide), List.append_nil] at hs
      repeat' (first | refine w1g ?_ | refine w1l ?_ | refine w1q ?_ | refine w1b ?_ | refine w1p ?_ | ((first | refine w1r ?_ | refine w1k ?_ | refine w1e ?_); (refine sy1 ?_; try exact True.intro)) | refine an2 ?_ | fail)
      refine ⟨i + 1, by omega, by omega, by rfl, ?_⟩
      rw [hs]
      (refine syE ?_; try exact True.intro)
  · obtain rfl : i = j.ts.length := by omega
    repeat' (first | refine w1g ?_ | refine w1l ?_ | refine w1q ?_ | refine w1b ?_ | refine w1p ?_ | ((first | refine w1r ?_ | refine w1k ?_ | refine w1e ?_); (refine sy1 ?_; try exact True.intro)) | refine an2 ?_ | fail)
    exact W_ret ⟨_, _, ⟨rfl, rfl⟩, rfl⟩
theorem fn58 (j : Jb) (t : Int) (h : j.ts.length ≤ 30) : Sy.Fn Try.prog 58 [aJ j, iv t] (aI (memT j t)) := Fn_of_W mixed Xt58 rfl (W_mono' (w58 j t h) fin_of_finO)
theorem eq_at {a b : List Int} (hl : a.length = b.length) (h : ∀ i, i < a.length → a.getD i 0 = b.getD i 0) : a = b := by
  apply List.ext_getElem hl
  intro i h1 h2
  have := h i h1
  simpa [List.getD, List.getElem?_eq_getElem h1, List.getElem?_eq_getElem h2] using this
theorem fn92 (a b : List Int) (hl : a.length ≤ 140737488355328) : Sy.Fn Try.prog 92 [aI a, aI b] (bv (decide (a = b))) := by
  refine Fn_of_W mixed Xt92 rfl ?_
  repeat' (first | refine w1g ?_ | refine w1l ?_ | refine w1q ?_ | refine w1b ?_ | refine w1p ?_ | ((first | refine w1r ?_ | refine w1k ?_ | refine w1e ?_); (refine sy1 ?_; try exact True.intro)) | refine an2 ?_ | fail)
  refine W_cond (by rfl) (fun hb => ?_) (fun hb => ?_)
  · have e : a ≠ b := fun q => by rw [q] at hb; simp at hb
    rw [decide_eq_false e]
    repeat' (first | refine w1g ?_ | refine w1l ?_ | refine w1q ?_ | refine w1b ?_ | refine w1p ?_ | ((first | refine w1r ?_ | refine w1k ?_ | refine w1e ?_); (refine sy1 ?_; try exact True.intro)) | refine an2 ?_ | fail)
    exact W_ret ⟨[_], ⟨rfl, rfl⟩, rfl⟩
  have hab : a.length = b.length := by
    have := bne_eq_false_iff_eq.1 hb
    omega
  repeat' (first | refine w1g ?_ | refine w1l ?_ | refine w1q ?_ | refine w1b ?_ | refine w1p ?_ | ((first | refine w1r ?_ | refine w1k ?_ | refine w1e ?_); (refine sy1 ?_; try exact True.intro)) | refine an2 ?_ | fail)
  refine W_loopU (fun i : Nat => [(13, iv i)]) (fun i => []) (fun i => i ≤ a.length ∧ ∀ k, k < i → a.getD k 0 = b.getD k 0) (fun i => a.length - i) 0 ⟨by omega, fun j hj => by omega⟩ (by rfl) (by rfl) (fun i hi => ?_)
  obtain ⟨hi, hall⟩ := hi
  (refine sy1 ?_; try exact True.intro)
  repeat' (first | refine w1g ?_ | refine w1l ?_ | refine w1q ?_ | refine w1b ?_ | refine w1p ?_ | ((first | refine w1r ?_ | refine w1k ?_ | refine w1e ?_); (refine sy1 ?_; try exact True.intro)) | refine an2 ?_ | fail)
  refine W_condD (by rfl) (fun h5 => ?_) (fun h5 => ?_)
  · have hlt : i < a.length := by omega
    repeat' (first | refine w1g ?_ | refine w1l ?_ | refine w1q ?_ | refine w1b ?_ | refine w1p ?_ | ((first | refine w1r ?_ | refine w1k ?_ | refine w1e ?_); (refine sy1 ?_; try exact True.intro)) | refine an2 ?_ | fail)
    refine W_cond (by rfl) (fun hb => ?_) (fun hb => ?_)
    · have e : a ≠ b := fun q => by rw [q] at hb; simp at hb
      rw [decide_eq_false e]
      repeat' (first | refine w1g ?_ | refine w1l ?_ | refine w1q ?_ | refine w1b ?_ | refine w1p ?_ | ((first | refine w1r ?_ | refine w1k ?_ | refine w1e ?_); (refine sy1 ?_; try exact True.intro)) | refine an2 ?_ | fail)
      exact W_ret ⟨[_], ⟨rfl, rfl⟩, rfl⟩
    · repeat' (first | refine w1g ?_ | refine w1l ?_ | refine w1q ?_ | refine w1b ?_ | refine w1p ?_ | ((first | refine w1r ?_ | refine w1k ?_ | refine w1e ?_); (refine sy1 ?_; try exact True.intro)) | refine an2 ?_ | fail)
      refine ⟨i + 1, ⟨by omega, up_all hall (bne_eq_false_iff_eq.1 hb)⟩, by omega, by rfl, ?_⟩
      (refine syE ?_; try exact True.intro)
  · rw [decide_eq_true (eq_at hab (fun k hk => hall k (by omega)))]
    repeat' (first | refine w1g ?_ | refine w1l ?_ | refine w1q ?_ | refine w1b ?_ | refine w1p ?_ | ((first | refine w1r ?_ | refine w1k ?_ | refine w1e ?_); (refine sy1 ?_; try exact True.intro)) | refine an2 ?_ | fail)
    exact W_ret ⟨[_], ⟨rfl, rfl⟩, rfl⟩
theorem fn94 (l : List Int) : Sy.Fn Try.prog 94 [aI l] (.clo 125 [] [.fp [aI l] 0]) := by
  refine Fn_of_W mixed Xt94 rfl ?_
  repeat' (first | refine w1g ?_ | refine w1l ?_ | refine w1q ?_ | refine w1b ?_ | refine w1p ?_ | ((first | refine w1r ?_ | refine w1k ?_ | refine w1e ?_); (refine sy1 ?_; try exact True.intro)) | refine an2 ?_ | fail)
  exact W_ret ⟨[_], ⟨rfl, rfl⟩, rfl⟩
theorem take_succ_getD (l : List Int) (i : Nat) (h : i < l.length) : l.take (i + 1) = l.take i ++ [l.getD i 0] := by
  rw [List.take_add_one, List.getD]
  simp [List.getElem?_eq_getElem h]
theorem fo134 (l : List Int) (hl : l.length ≤ 1000000) : FnO Try.prog 134 [.v (.slice none 0 0), .clo 125 [] [.fp [aI l] 0]] 3 1 0 cI l := by
  refine FnO_of_W mixed Xt134 rfl (fun x _ => rfl) ?_
  repeat' (first | refine w1g ?_ | refine w1l ?_ | refine w1q ?_ | refine w1b ?_ | refine w1p ?_ | ((first | refine w1r ?_ | refine w1k ?_ | refine w1e ?_); (refine sy1 ?_; try exact True.intro)) | refine an2 ?_ | fail)
  refine W_rfn (.inl rfl) (fun lp R hR => Inl_of_W mixed Xt125 rfl (fun vs => ?_))
  (refine sy1 ?_; try exact True.intro)
  repeat' (first | refine w1g ?_ | refine w1l ?_ | refine w1q ?_ | refine w1b ?_ | refine w1p ?_ | ((first | refine w1r ?_ | refine w1k ?_ | refine w1e ?_); (refine sy1 ?_; try exact True.intro)) | refine an2 ?_ | fail)
  refine W_le (le_adoptC 0 0 3 1 (0 : Int) cI (by omega) _ rfl rfl (by simp)) ?_
  (refine sy1 ?_; try exact True.intro)
  refine W_loopU (fun i : Nat => [(7, iv i)]) (fun i => [(0, .cells [.row 8 i]), (8, .row i 3 1 0 cI (l.take i))]) (fun i => i ≤ l.length) (fun i => l.length - i) 0 (by omega) (by rfl) (by rfl) (fun i hi => ?_)
  (refine sy1 ?_; try exact True.intro)
  repeat' (first | refine w1g ?_ | refine w1l ?_ | refine w1q ?_ | refine w1b ?_ | refine w1p ?_ | ((first | refine w1r ?_ | refine w1k ?_ | refine w1e ?_); (refine sy1 ?_; try exact True.intro)) | refine an2 ?_ | fail)
  refine W_condD (by rfl) (fun h5 => ?_) (fun h5 => ?_)
  · have hlt : i < l.length := by omega
    have e4 := take_succ_getD l i hlt
    have hlen : (l.take i).length = i := by rw [List.length_take]; omega
    obtain ⟨x, hx⟩ : ∃ x, l.getD i 0 = x := ⟨_, rfl⟩
    rw [hx] at e4
    generalize l.take i = y at *
    repeat' (first | refine w1g ?_ | refine w1l ?_ | refine w1q ?_ | refine w1b ?_ | refine w1p ?_ | ((first | refine w1r ?_ | refine w1k ?_ | refine w1e ?_); simp (maxSteps := 400000) (disch := omega) only [push_cast, ↓reduceIte, reduceCtorEq, Nat.reduceAdd, Nat.reduceSub, Nat.reduceEqDiff, Nat.reduceLeDiff, Nat.reduceLT, Nat.reduceBEq, Nat.reduceDiv, Nat.reduceMod, Nat.reducePow, Nat.reduceMul, Int.reduceToNat, Int.reduceLT, Int.reduceLE, hx]) | refine an2 ?_ | fail)
    refine StopC.yld (fun hpc => ⟨trivial, Yl_of_W (k := 3) mixed hR rfl rfl rfl (fun vs2 => ?_)⟩) (fun hpc => absurd (by simp [pc]) hpc)
    (refine sy1 ?_; try exact True.intro)
    repeat' (first | refine w1g ?_ | refine w1l ?_ | refine w1q ?_ | refine w1b ?_ | refine w1p ?_ | ((first | refine w1r ?_ | refine w1k ?_ | refine w1e ?_); (refine sy1 ?_; try exact True.intro)) | refine an2 ?_ | fail)
    refine ⟨_, rfl, ?_⟩
    (refine sy1 ?_; try exact True.intro)
    repeat' (first | refine w1g ?_ | refine w1l ?_ | refine w1q ?_ | refine w1b ?_ | refine w1p ?_ | ((first | refine w1r ?_ | refine w1k ?_ | refine w1e ?_); (refine sy1 ?_; try exact True.intro)) | refine an2 ?_ | fail)
    refine ⟨rfl, trivial, Int, 0, cI, [x], rfl, by omega, fun x _ => ⟨rfl, rfl⟩, rfl, ?_⟩
    (refine sy1 ?_; try exact True.intro)
    refine ⟨rfl, ⟨Nat.le_of_ble_eq_true rfl, rfl⟩, trivial, [x], rfl, by first | omega | (simp; omega), by first | omega | (simp; omega), ?_⟩
    (refine sy1 ?_; try exact True.intro)
    refine ⟨_, _, rfl, rfl, ?_⟩
    (refine sy1 ?_; try exact True.intro)
    refine W_cond (by rfl) (fun h => by cases h) (fun _ => ?_)
    repeat' (first | refine w1g ?_ | refine w1l ?_ | refine w1q ?_ | refine w1b ?_ | refine w1p ?_ | ((first | refine w1r ?_ | refine w1k ?_ | refine w1e ?_); (refine sy1 ?_; try exact True.intro)) | refine an2 ?_ | fail)
    refine ⟨i + 1, by omega, by omega, by rfl, ?_⟩
    rw [e4]
    (refine syE ?_; try exact True.intro)
  · obtain rfl : i = l.length := by omega
    rw [List.take_length]
    repeat' (first | refine w1g ?_ | refine w1l ?_ | refine w1q ?_ | refine w1b ?_ | refine w1p ?_ | ((first | refine w1r ?_ | refine w1k ?_ | refine w1e ?_); (refine sy1 ?_; try exact True.intro)) | refine an2 ?_ | fail)
    refine ⟨_, _, rfl, rfl, ⟨_, _, rfl, by rw [hR.st]; simp, ?_⟩⟩
    rw [hR.pe]
    simp (maxSteps := 400000) (disch := omega) only [push_cast, ↓reduceIte, reduceCtorEq, Nat.reduceAdd, Nat.reduceSub, Nat.reduceEqDiff, Nat.reduceLeDiff, Nat.reduceLT, Nat.reduceBEq, Nat.reduceDiv, Nat.reduceMod, Nat.reducePow, Nat.reduceMul, Int.reduceToNat, Int.reduceLT, Int.reduceLE, EndP]
    repeat' (first | refine w1g ?_ | refine w1l ?_ | refine w1q ?_ | refine w1b ?_ | refine w1p ?_ | ((first | refine w1r ?_ | refine w1k ?_ | refine w1e ?_); (refine sy1 ?_; try exact True.intro)) | refine an2 ?_ | fail)
    exact W_ret ⟨_, _, ⟨rfl, rfl⟩, rfl⟩
theorem fo123 (l : List Int) (hl : l.length ≤ 1000000) : FnO Try.prog 123 [.clo 125 [] [.fp [aI l] 0]] 3 1 0 cI l := by
  refine FnO_of_W mixed Xt123 rfl (fun x _ => rfl) ?_
  have c := fo134 l hl
  repeat' (first | refine w1g ?_ | refine w1l ?_ | refine w1q ?_ | refine w1b ?_ | refine w1p ?_ | ((first | refine w1r ?_ | refine w1k ?_ | refine w1e ?_); (refine sy1 ?_; try exact True.intro)) | refine an2 ?_ | (refine CallC.inl (Inl_of_FnO c (by rfl) ?_); (refine sy1 ?_; try exact True.intro)) | fail)
  exact W_ret ⟨_, _, ⟨rfl, rfl⟩, rfl⟩
def laysSr : Go.Shelf.Ren := ⟨fun x => if x = 125 then 136 else if x = 128 then 148 else if x = 129 then 149 else if x = 189 then 124 else if x = 215 then 156 else if x = 216 then 145 else if x = 257 then 135 else if x = 294 then 139 else if x = 295 then 140 else if x = 296 then 141 else if x = 297 then 142 else if x = 298 then 143 else if x = 299 then 144 else if x = 300 then 146 else if x = 301 then 147 else if x = 328 then 151 else if x = 329 then 152 else if x = 330 then 153 else if x = 331 then 154 else if x = 332 then 155 else if x = 343 then 158 else x, fun x => if x = 0 then 0 else if x = 3 then 3 else if x = 4 then 4 else if x = 5 then 5 else if x = 9 then 9 else if x = 28 then 52 else if x = 46 then 125 else if x = 51 then 181 else if x = 53 then 183 else if x = 131 then 178 else if x = 182 then 172 else if x = 183 then 173 else if x = 218 then 184 else if x = 222 then 188 else if x = 228 then 190 else if x = 229 then 191 else x, fun x => x⟩
theorem laysS : Go.Proofs.Lays.n189 Try.prog laysSr := {
  mixed := mixed
  f125 := by kernel_rfl
  f128 := by kernel_rfl
  f129 := by kernel_rfl
  f189 := by kernel_rfl
  f215 := by kernel_rfl
  f216 := by kernel_rfl
  f257 := by kernel_rfl
  f294 := by kernel_rfl
  f295 := by kernel_rfl
  f296 := by kernel_rfl
  f297 := by kernel_rfl
  f298 := by kernel_rfl
  f299 := by kernel_rfl
  f300 := by kernel_rfl
  f301 := by kernel_rfl
  f328 := by kernel_rfl
  f329 := by kernel_rfl
  f330 := by kernel_rfl
  f331 := by kernel_rfl
  f332 := by kernel_rfl
  f343 := by kernel_rfl
  t0 := by kernel_rfl
  a0 := fun w => by kernel_rfl
  z0 := fun w => by kernel_rfl
  v0 := fun w => by kernel_rfl
  t3 := by kernel_rfl
  a3 := fun w => by kernel_rfl
  z3 := fun w => by kernel_rfl
  v3 := fun w => by kernel_rfl
  t4 := by kernel_rfl
  a4 := fun w => by kernel_rfl
  z4 := fun w => by kernel_rfl
  v4 := fun w => by kernel_rfl
  t5 := by kernel_rfl
  a5 := fun w => by kernel_rfl
  z5 := fun w => by kernel_rfl
  v5 := fun w => by kernel_rfl
  t9 := by kernel_rfl
  a9 := fun w => by kernel_rfl
  z9 := fun w => by kernel_rfl
  v9 := fun w => by kernel_rfl
  t28 := by kernel_rfl
  a28 := fun w => by kernel_rfl
  z28 := fun w => by kernel_rfl
  v28 := fun w => by kernel_rfl
  t46 := by kernel_rfl
  a46 := fun w => by kernel_rfl
  z46 := fun w => by kernel_rfl
  v46 := fun w => by kernel_rfl
  t51 := by kernel_rfl
  a51 := fun w => by kernel_rfl
  z51 := fun w => by kernel_rfl
  v51 := fun w => by kernel_rfl
  t53 := by kernel_rfl
  a53 := fun w => by kernel_rfl
  z53 := fun w => by kernel_rfl
  v53 := fun w => by kernel_rfl
  t131 := by kernel_rfl
  a131 := fun w => by kernel_rfl
  z131 := fun w => by kernel_rfl
  v131 := fun w => by kernel_rfl
  t182 := by kernel_rfl
  a182 := fun w => by kernel_rfl
  z182 := fun w => by kernel_rfl
  v182 := fun w => by kernel_rfl
  t183 := by kernel_rfl
  a183 := fun w => by kernel_rfl
  z183 := fun w => by kernel_rfl
  v183 := fun w => by kernel_rfl
  t218 := by kernel_rfl
  a218 := fun w => by kernel_rfl
  z218 := fun w => by kernel_rfl
  v218 := fun w => by kernel_rfl
  t222 := by kernel_rfl
  a222 := fun w => by kernel_rfl
  z222 := fun w => by kernel_rfl
  v222 := fun w => by kernel_rfl
  t228 := by kernel_rfl
  a228 := fun w => by kernel_rfl
  z228 := fun w => by kernel_rfl
  v228 := fun w => by kernel_rfl
  t229 := by kernel_rfl
  a229 := fun w => by kernel_rfl
  z229 := fun w => by kernel_rfl
  v229 := fun w => by kernel_rfl }
theorem sort_body : hasBody Try.prog (laysSr.f 189) = true := by kernel_rfl
theorem fn93 (l : List Int) (hl : l.length ≤ 1000000) : Sy.Fn Try.prog 93 [.clo 125 [] [.fp [aI l] 0]] (aI (srt l)) := by
  refine Fn_of_W mixed Xt93 rfl ?_
  have c := fo123 l hl
  repeat' (first | refine w1g ?_ | refine w1l ?_ | refine w1q ?_ | refine w1b ?_ | refine w1p ?_ | ((first | refine w1r ?_ | refine w1k ?_ | refine w1e ?_); (refine sy1 ?_; try exact True.intro)) | refine an2 ?_ | (refine CallC.inl (Inl_of_FnO c (by rfl) ?_); (refine sy1 ?_; try exact True.intro)) | fail)
  refine CallC.inl (Inl_sortI laysS sort_body (k := 2) (st := 0) (T := 3) (d := 0) (F := cI) (l := l) (fun x => rfl) (by rfl) (by omega) ?_)
  (refine sy1 ?_; try exact True.intro)
  repeat' (first | refine w1g ?_ | refine w1l ?_ | refine w1q ?_ | refine w1b ?_ | refine w1p ?_ | ((first | refine w1r ?_ | refine w1k ?_ | refine w1e ?_); (refine sy1 ?_; try exact True.intro)) | refine an2 ?_ | fail)
  exact W_ret ⟨[_], ⟨rfl, rfl⟩, rfl⟩
theorem ord_no {j : Jb} {o : List (List Int)} {t : Nat} (ht : t < o.length) (h : rowB j t (o.getD t []) = false) : ordB j o = false := by
  unfold ordB
  rw [← Bool.not_eq_true, List.all_eq_true]
  intro q
  rw [q t (List.mem_range.2 ht)] at h; cases h
theorem ord_yes {j : Jb} {o : List (List Int)} (h : ∀ t, t < o.length → rowB j t (o.getD t []) = true) : ordB j o = true := by
  unfold ordB
  rw [List.all_eq_true]
  exact fun t ht => h t (List.mem_range.1 ht)
structure Go' (o : List (List Int)) : Prop where
  n : o.length ≤ 20
  r : ∀ t, t < o.length → (o.getD t []).length ≤ 40
theorem fn40 (j : Jb) (o : List (List Int)) (h : Gj j) (ho : Go' o) : Sy.Fn Try.prog 40 [aJ j, aO o] (iv (chkO j o)) := by
  refine Fn_of_W mixed Xt40 rfl ?_
  have c39 := fn39 j h
  have hn := ho.n
  have hm := h.m
  have ht := h.t
  have e : chkO j o = if chkJ j = 0 then (if o.length = j.tm.length then (if ordB j o = true then 0 else 2) else 17) else chkJ j := rfl
  generalize chkO j o = E at *
  generalize chkJ j = E1 at *
  repeat' (first | refine w1g ?_ | refine w1l ?_ | refine w1q ?_ | refine w1b ?_ | refine w1p ?_ | ((first | refine w1r ?_ | refine w1k ?_ | refine w1e ?_ | refine CallC.now (c39) ?_); (refine sy1 ?_; try exact True.intro)) | refine an2 ?_ | fail)
  refine W_cond (by rfl) (fun hb => ?_) (fun hb => ?_)
  · rw [if_neg (by simpa using hb)] at e
    rw [e]
    repeat' (first | refine w1g ?_ | refine w1l ?_ | refine w1q ?_ | refine w1b ?_ | refine w1p ?_ | ((first | refine w1r ?_ | refine w1k ?_ | refine w1e ?_); (refine sy1 ?_; try exact True.intro)) | refine an2 ?_ | fail)
    exact W_ret ⟨[_], ⟨rfl, rfl⟩, rfl⟩
  rw [if_pos (by simpa using hb)] at e
  repeat' (first | refine w1g ?_ | refine w1l ?_ | refine w1q ?_ | refine w1b ?_ | refine w1p ?_ | ((first | refine w1r ?_ | refine w1k ?_ | refine w1e ?_); (refine sy1 ?_; try exact True.intro)) | refine an2 ?_ | fail)
  refine W_cond (by rfl) (fun hb => ?_) (fun hb => ?_)
  · rw [if_neg (by have := bne_iff_ne.1 hb; omega)] at e
    rw [e]
    repeat' (first | refine w1g ?_ | refine w1l ?_ | refine w1q ?_ | refine w1b ?_ | refine w1p ?_ | ((first | refine w1r ?_ | refine w1k ?_ | refine w1e ?_); (refine sy1 ?_; try exact True.intro)) | refine an2 ?_ | fail)
    exact W_ret ⟨[_], ⟨rfl, rfl⟩, rfl⟩
  rw [if_pos (by have := bne_eq_false_iff_eq.1 hb; omega)] at e
  rw [e]
  clear hb
  repeat' (first | refine w1g ?_ | refine w1l ?_ | refine w1q ?_ | refine w1b ?_ | refine w1p ?_ | ((first | refine w1r ?_ | refine w1k ?_ | refine w1e ?_); (refine sy1 ?_; try exact True.intro)) | refine an2 ?_ | fail)
  refine W_loopU (fun i : Nat => [(21, iv i)]) (fun i => []) (fun i => i ≤ o.length ∧ ∀ k, k < i → rowB j k (o.getD k []) = true) (fun i => o.length - i) 0 ⟨by omega, fun j hj => by omega⟩ (by rfl) (by rfl) (fun i hi => ?_)
  obtain ⟨hi, hall⟩ := hi
  (refine sy1 ?_; try exact True.intro)
  repeat' (first | refine w1g ?_ | refine w1l ?_ | refine w1q ?_ | refine w1b ?_ | refine w1p ?_ | ((first | refine w1r ?_ | refine w1k ?_ | refine w1e ?_); (refine sy1 ?_; try exact True.intro)) | refine an2 ?_ | fail)
  refine W_condD (by rfl) (fun h5 => ?_) (fun h5 => ?_)
  · have hlt : i < o.length := by omega
    have hr := ho.r i hlt
    have c94 := fn94 (o.getD i [])
    have c93 := fn93 (o.getD i []) (by omega)
    have c58 := fn58 j i ht
    have c92 := fn92 (srt (o.getD i [])) (memT j i) (by unfold srt; rw [List.length_mergeSort]; omega)
    have hrb : decide (srt (o.getD i []) = memT j i) = rowB j i (o.getD i []) := rfl
    rw [hrb] at c92
    have hno := @up_all _ i hall
    have hon := fun q => ord_no (j := j) (o := o) hlt q
    generalize rowB j i (o.getD i []) = b at *
    generalize srt (o.getD i []) = sl at *
    repeat' (first | refine w1g ?_ | refine w1l ?_ | refine w1q ?_ | refine w1b ?_ | refine w1p ?_ | ((first | refine w1r ?_ | refine w1k ?_ | refine w1e ?_ | refine CallC.now (c94) ?_ | refine CallC.now (c93) ?_ | refine CallC.now (c58) ?_ | refine CallC.now (c92) ?_); (refine sy1 ?_; try exact True.intro)) | refine an2 ?_ | fail)
    refine W_cond (by rfl) (fun hb => ?_) (fun hb => ?_)
    · rw [hon (by simpa using hb), if_neg (by decide)]
      repeat' (first | refine w1g ?_ | refine w1l ?_ | refine w1q ?_ | refine w1b ?_ | refine w1p ?_ | ((first | refine w1r ?_ | refine w1k ?_ | refine w1e ?_); (refine sy1 ?_; try exact True.intro)) | refine an2 ?_ | fail)
      exact W_ret ⟨[_], ⟨rfl, rfl⟩, rfl⟩
    · repeat' (first | refine w1g ?_ | refine w1l ?_ | refine w1q ?_ | refine w1b ?_ | refine w1p ?_ | ((first | refine w1r ?_ | refine w1k ?_ | refine w1e ?_); (refine sy1 ?_; try exact True.intro)) | refine an2 ?_ | fail)
      refine ⟨i + 1, ⟨by omega, hno (by simpa using hb)⟩, by omega, by rfl, ?_⟩
      (refine syE ?_; try exact True.intro)
  · rw [ord_yes (fun k hk => hall k (by omega)), if_pos rfl]
    repeat' (first | refine w1g ?_ | refine w1l ?_ | refine w1q ?_ | refine w1b ?_ | refine w1p ?_ | ((first | refine w1r ?_ | refine w1k ?_ | refine w1e ?_); (refine sy1 ?_; try exact True.intro)) | refine an2 ?_ | fail)
    exact W_ret ⟨[_], ⟨rfl, rfl⟩, rfl⟩
end Go.Proofs.Ytoiohkjomcbadaa

namespace Go.Proofs.Ytoiohkjomcbadaa
open Go Sy
set_option maxRecDepth 100000
set_option maxHeartbeats 4000000
set_option linter.unusedVariables false
set_option linter.unusedSimpArgs false
end Go.Proofs.Ytoiohkjomcbadaa

namespace Go.Proofs.Ytoiohkjomcbadaa
open Go Sy
set_option maxRecDepth 100000
set_option maxHeartbeats 4000000
set_option linter.unusedVariables false
set_option linter.unusedSimpArgs false
theorem fo103 (l : List Af) (hl : l.length ≤ 1000000) : FnO Try.prog 103 [aA l] 39 3 dAf cA l := by
  refine FnO_of_W mixed Xt103 rfl (fun x _ => rfl) ?_
  repeat (first | refine WK_go ?_ | refine W_seqL ?_ | refine W_seq ?_ | refine W_block ?_)
  refine W_regL ?_
  (refine sy1 ?_; try exact True.intro)
  repeat (first | refine WK_go ?_ | refine W_seqL ?_ | refine W_seq ?_ | refine W_block ?_)
  refine W_regX [1] ?_
  simp (maxSteps := 400000) (disch := omega) only [push_cast, ↓reduceIte, reduceCtorEq, Nat.reduceAdd, Nat.reduceSub, Nat.reduceEqDiff, Nat.reduceLeDiff, Nat.reduceLT, Nat.reduceBEq, Nat.reduceDiv, Nat.reduceMod, Nat.reducePow, Nat.reduceMul, Int.reduceToNat, Int.reduceLT, Int.reduceLE, chainX, SpM, List.take_succ_cons, List.take_zero, List.drop_succ_cons, List.drop_zero]
  refine ⟨[], rfl, 3, Af, dAf, cA, l, rfl, fun b hb => ?_⟩
  (refine sy1 ?_; try exact True.intro)
  cases b
  · refine W_cond (by rfl) (fun h => by cases h) (fun _ => ?_)
    repeat' (first | refine w1g ?_ | refine w1l ?_ | refine w1q ?_ | refine w1b ?_ | refine w1p ?_ | ((first | refine w1r ?_ | refine w1k ?_ | refine w1e ?_); (refine sy1 ?_; try exact True.intro)) | refine an2 ?_ | fail)
    refine ⟨rfl, trivial, Af, dAf, cA, [], rfl, by omega, fun x _ => ⟨rfl, rfl⟩, rfl, ?_⟩
    (refine sy1 ?_; try exact True.intro)
    refine ⟨rfl, ⟨Nat.le_of_ble_eq_true rfl, rfl⟩, trivial, l, rfl, by first | omega | (simp; omega), by first | omega | (simp; omega), ?_⟩
    (refine sy1 ?_; try exact True.intro)
    exact W_ret ⟨_, _, ⟨rfl, rfl⟩, rfl⟩
  · refine W_cond (by rfl) (fun _ => ?_) (fun h => by cases h)
    have e : l = [] := by
      cases l with
      | nil => rfl
      | cons x r => have := hb (by simp); cases this
    subst e
    repeat' (first | refine w1g ?_ | refine w1l ?_ | refine w1q ?_ | refine w1b ?_ | refine w1p ?_ | ((first | refine w1r ?_ | refine w1k ?_ | refine w1e ?_); (refine sy1 ?_; try exact True.intro)) | refine an2 ?_ | fail)
    refine W_le (le_adopt 2 39 3 dAf cA (by omega) rfl) ?_
    (refine sy1 ?_; try exact True.intro)
    exact W_ret ⟨_, _, ⟨rfl, rfl⟩, rfl⟩
theorem fo80 (l : List Int) (hl : l.length ≤ 1000000) : FnO Try.prog 80 [aI l] 2 1 0 cI l := by
  refine FnO_of_W mixed Xt80 rfl (fun x _ => rfl) ?_
  repeat (first | refine WK_go ?_ | refine W_seqL ?_ | refine W_seq ?_ | refine W_block ?_)
  refine W_regL ?_
  (refine sy1 ?_; try exact True.intro)
  repeat (first | refine WK_go ?_ | refine W_seqL ?_ | refine W_seq ?_ | refine W_block ?_)
  refine W_regX [1] ?_
  simp (maxSteps := 400000) (disch := omega) only [push_cast, ↓reduceIte, reduceCtorEq, Nat.reduceAdd, Nat.reduceSub, Nat.reduceEqDiff, Nat.reduceLeDiff, Nat.reduceLT, Nat.reduceBEq, Nat.reduceDiv, Nat.reduceMod, Nat.reducePow, Nat.reduceMul, Int.reduceToNat, Int.reduceLT, Int.reduceLE, chainX, SpM, List.take_succ_cons, List.take_zero, List.drop_succ_cons, List.drop_zero]
  refine ⟨[], rfl, 1, Int, 0, cI, l, rfl, fun b hb => ?_⟩
  (refine sy1 ?_; try exact True.intro)
  cases b
  · refine W_cond (by rfl) (fun h => by cases h) (fun _ => ?_)
    repeat' (first | refine w1g ?_ | refine w1l ?_ | refine w1q ?_ | refine w1b ?_ | refine w1p ?_ | ((first | refine w1r ?_ | refine w1k ?_ | refine w1e ?_); (refine sy1 ?_; try exact True.intro)) | refine an2 ?_ | fail)
    refine ⟨rfl, trivial, Int, 0, cI, [], rfl, by omega, fun x _ => ⟨rfl, rfl⟩, rfl, ?_⟩
    (refine sy1 ?_; try exact True.intro)
    refine ⟨rfl, ⟨Nat.le_of_ble_eq_true rfl, rfl⟩, trivial, l, rfl, by first | omega | (simp; omega), by first | omega | (simp; omega), ?_⟩
    (refine sy1 ?_; try exact True.intro)
    exact W_ret ⟨_, _, ⟨rfl, rfl⟩, rfl⟩
  · refine W_cond (by rfl) (fun _ => ?_) (fun h => by cases h)
    have e : l = [] := by
      cases l with
      | nil => rfl
      | cons x r => have := hb (by simp); cases this
    subst e
    repeat' (first | refine w1g ?_ | refine w1l ?_ | refine w1q ?_ | refine w1b ?_ | refine w1p ?_ | ((first | refine w1r ?_ | refine w1k ?_ | refine w1e ?_); (refine sy1 ?_; try exact True.intro)) | refine an2 ?_ | fail)
    refine W_le (le_adopt 2 2 1 0 cI (by omega) rfl) ?_
    (refine sy1 ?_; try exact True.intro)
    exact W_ret ⟨_, _, ⟨rfl, rfl⟩, rfl⟩
theorem w52 (j : Jb) (o : List (List Int)) (h : OkO j o) : W Try.prog 56 Xn52_0 (init [aJ j, aO o]) (FinO [.t 4] 39 3 dAf cA (lks j o)) := by
  have c103 := fo103 j.af (by have := h.na; omega)
  have ho := h.len
  have ht := h.nt
  have hn := h.n
  repeat' (first | refine w1g ?_ | refine w1l ?_ | refine w1q ?_ | refine w1b ?_ | refine w1p ?_ | ((first | refine w1r ?_ | refine w1k ?_ | refine w1e ?_); (refine sy1 ?_; try exact True.intro)) | refine an2 ?_ | (refine CallC.inl (Inl_of_FnO c103 (by rfl) ?_); (refine sy1 ?_; try exact True.intro)) | fail)
  refine W_loopU (fun u : Nat × Nat => [(5, .row 4 u.2), (14, iv u.1)]) (fun u => [(4, .row u.2 39 3 dAf cA (lksK j o u.1))]) (fun u => u.1 ≤ o.length) (fun u => o.length - u.1) (0, 0) (by omega) (by rfl) (by rw [lksK_zero]; rfl) (fun u hi => ?_)
  obtain ⟨i, st⟩ := u
  dsimp only at hi ⊢
  (refine sy1 ?_; try exact True.intro)
  repeat' (first | refine w1g ?_ | refine w1l ?_ | refine w1q ?_ | refine w1b ?_ | refine w1p ?_ | ((first | refine w1r ?_ | refine w1k ?_ | refine w1e ?_); (refine sy1 ?_; try exact True.intro)) | refine an2 ?_ | fail)
  refine W_condD (by rfl) (fun h5 => ?_) (fun h5 => ?_)
  · have hlt : i < o.length := by omega
    have hrl := row_len h hlt
    have hrat := fun k hk => row_at h hlt (i := k) hk
    have hkl := lksK_len h i hi
    have hsu := lksK_succ j o i
    have hrA : ∀ k, rowA j o i k = ⟨gi (gr o i) k, gi (gr o i) (k + 1), (gt j.ts (gi (gr o i) k).toNat).mi + gi j.tm i⟩ := fun _ => rfl
    have hrs := fun k => rowK_succ j o i k
    have hrkl := fun k => rowK_len j o i k
    have hgr : o.getD i [] = gr o i := rfl
    have hr0 : rowK j o i 0 = [] := rfl
    have htm := h.m _ (getD_mem' 0 j.tm i (by omega))
    have htk : ∀ k, k < (gr o i).length → 0 ≤ (gt j.ts (gi (gr o i) k).toNat).mi ∧ (gt j.ts (gi (gr o i) k).toNat).mi ≤ 10080 := fun k hk => by
      have := (h.t _ (hrat k hk).2.1).1
      exact ⟨this.1, this.2.1⟩
    generalize gr o i = R at *
    generalize rowK j o i = RK at *
    generalize hL : lksK j o i = LL at *
    repeat' (first | refine w1g ?_ | refine w1l ?_ | refine w1q ?_ | refine w1b ?_ | refine w1p ?_ | ((first | refine w1r ?_ | refine w1k ?_ | refine w1e ?_); simp (maxSteps := 400000) (disch := omega) only [push_cast, ↓reduceIte, reduceCtorEq, Nat.reduceAdd, Nat.reduceSub, Nat.reduceEqDiff, Nat.reduceLeDiff, Nat.reduceLT, Nat.reduceBEq, Nat.reduceDiv, Nat.reduceMod, Nat.reducePow, Nat.reduceMul, Int.reduceToNat, Int.reduceLT, Int.reduceLE, hgr]) | refine an2 ?_ | fail)
    refine W_loopU (fun v : Nat × Nat => [(5, .row 4 v.2), (8, iv ((v.1 : Int) + 1))]) (fun v => [(4, .row v.2 39 3 dAf cA (LL ++ RK v.1))]) (fun v => v.1 ≤ R.length - 1) (fun v => R.length - v.1) (0, st) (by dsimp only; omega) (by rfl) (by dsimp only; rw [hr0, List.append_nil]; rfl) (fun v hk => ?_)
    obtain ⟨k, st2⟩ := v
    dsimp only at hk ⊢
    (refine sy1 ?_; try exact True.intro)
    repeat' (first | refine w1g ?_ | refine w1l ?_ | refine w1q ?_ | refine w1b ?_ | refine w1p ?_ | ((first | refine w1r ?_ | refine w1k ?_ | refine w1e ?_); (refine sy1 ?_; try exact True.intro)) | refine an2 ?_ | fail)
    refine W_condD (by rfl) (fun h6 => ?_) (fun h6 => ?_)
    · have hkl2 : k + 1 < R.length := by omega
      obtain ⟨a1, a2, a3⟩ := hrat k (by omega)
      obtain ⟨b1, b2, b3⟩ := hrat (k + 1) (by omega)
      have htk := htk k (by omega)
      have hrA := hrA k
      have hrs := hrs k
      have hrkl := hrkl k
      have hgk : R.getD k 0 = gi R k := rfl
      have hgk1 : R.getD (k + 1) 0 = gi R (k + 1) := rfl
      have hgt : ∀ k, j.ts.getD k dTk = gt j.ts k := fun _ => rfl
      have hgm : j.tm.getD i 0 = gi j.tm i := rfl
      have e1 : ((k : Int) + 1).toNat = k + 1 := by omega
      rw [hgm] at htm
      generalize gi R k = x at *
      generalize gi R (k + 1) = y at *
      generalize gi j.tm i = z at *
      have e2 : ((k : Int) + 1 - 1).toNat = k := by omega
      obtain ⟨T, hT⟩ : ∃ T, gt j.ts x.toNat = T := ⟨_, rfl⟩
      rw [hT] at hrA a3 htk
      repeat' (first | refine w1g ?_ | refine w1l ?_ | refine w1q ?_ | refine w1b ?_ | refine w1p ?_ | ((first | refine w1r ?_ | refine w1k ?_ | refine w1e ?_); simp (maxSteps := 400000) (disch := omega) only [push_cast, ↓reduceIte, reduceCtorEq, Nat.reduceAdd, Nat.reduceSub, Nat.reduceEqDiff, Nat.reduceLeDiff, Nat.reduceLT, Nat.reduceBEq, Nat.reduceDiv, Nat.reduceMod, Nat.reducePow, Nat.reduceMul, Int.reduceToNat, Int.reduceLT, Int.reduceLE, hgk, hgk1, hgt, hgm, e1, e2, hT]) | refine an2 ?_ | fail)
      refine ⟨rfl, trivial, Af, dAf, cA, [⟨x, y, T.mi + z⟩], rfl, by omega, fun x _ => ⟨rfl, rfl⟩, rfl, ?_⟩
      (refine sy1 ?_; try exact True.intro)
      refine ⟨rfl, ⟨Nat.le_of_ble_eq_true rfl, rfl⟩, trivial, [⟨x, y, T.mi + z⟩], rfl, by first | omega | (simp; omega), by first | omega | (simp; omega), ?_⟩
      (refine sy1 ?_; try exact True.intro)
      repeat' (first | refine w1g ?_ | refine w1l ?_ | refine w1q ?_ | refine w1b ?_ | refine w1p ?_ | ((first | refine w1r ?_ | refine w1k ?_ | refine w1e ?_); (refine sy1 ?_; try exact True.intro)) | refine an2 ?_ | fail)
      refine ⟨(k + 1, st2 + 1), by dsimp only; omega, by dsimp only; omega, by rfl, ?_⟩
      dsimp only
      rw [hrs, hrA, ← List.append_assoc]
      (refine syE ?_; try exact True.intro)
    · obtain rfl : k = R.length - 1 := by omega
      repeat' (first | refine w1g ?_ | refine w1l ?_ | refine w1q ?_ | refine w1b ?_ | refine w1p ?_ | ((first | refine w1r ?_ | refine w1k ?_ | refine w1e ?_); (refine sy1 ?_; try exact True.intro)) | refine an2 ?_ | fail)
      refine ⟨(i + 1, st2), by dsimp only; omega, by dsimp only; omega, by rfl, ?_⟩
      dsimp only
      rw [hsu]
      (refine syE ?_; try exact True.intro)
  · obtain rfl : i = o.length := by omega
    repeat' (first | refine w1g ?_ | refine w1l ?_ | refine w1q ?_ | refine w1b ?_ | refine w1p ?_ | ((first | refine w1r ?_ | refine w1k ?_ | refine w1e ?_); (refine sy1 ?_; try exact True.intro)) | refine an2 ?_ | fail)
    exact W_ret ⟨_, _, ⟨rfl, rfl⟩, rfl⟩
theorem fn52 (j : Jb) (o : List (List Int)) (h : OkO j o) : Sy.Fn Try.prog 52 [aJ j, aO o] (aA (lks j o)) := Fn_of_W mixed Xt52 rfl (W_mono' (w52 j o h) fin_of_finO)
end Go.Proofs.Ytoiohkjomcbadaa

namespace Go.Proofs.Ytoiohkjomcbadaa
open Go Sy
set_option linter.unusedVariables false
def wfB (mi a : Int) (w : Wn) : Bool := inR a w.f (w.t - mi)
def fitB (mi a : Int) (l : List Wn) : Bool := l.any (wfB mi a)
theorem fitB_iff {mi a : Int} {l : List Wn} : fitB mi a l = true ↔ fitW mi a l := by
  unfold fitB fitW
  rw [List.any_eq_true]
  constructor
  · rintro ⟨w, hw, h⟩
    unfold wfB at h
    rw [inR_iff] at h
    exact ⟨w, hw, h.1, by omega⟩
  · rintro ⟨w, hw, h1, h2⟩
    refine ⟨w, hw, ?_⟩
    unfold wfB
    rw [inR_iff]; omega
def fstI (p : Nat → Bool) (n : Nat) : Int := idxF p (List.range n) 0
theorem getD_range {n i : Nat} (h : i < n) : (List.range n).getD i 0 = i := by
  simp [List.getD, h]
theorem fstI_at {p : Nat → Bool} {n i : Nat} (hi : i < n) (hj : ∀ j, j < i → p j = false) (h : p i = true) : fstI p n = i := by
  unfold fstI
  rw [idxF_at p 0 (List.range n) i 0 (by simpa using hi) (fun j hlt => by rw [getD_range (by omega)]; exact hj j hlt) (by rw [getD_range hi]; exact h)]
  omega
theorem fstI_none {p : Nat → Bool} {n : Nat} (h : ∀ j, j < n → p j = false) : fstI p n = -1 := by
  unfold fstI
  exact idxF_none p 0 _ 0 (fun j hj => by rw [List.length_range] at hj; rw [getD_range hj]; exact h j hj)
theorem fstI_cases (p : Nat → Bool) (n : Nat) : (fstI p n = -1 ∧ ∀ j, j < n → p j = false) ∨ ∃ i, i < n ∧ fstI p n = (i : Int) ∧ p i = true := by
  rcases Classical.em (∃ i, i < n ∧ p i = true) with ⟨i, h1, h2⟩ | h
  · obtain ⟨k, ⟨h3, h4⟩, h5⟩ := min_ex (P := fun i => i < n ∧ p i = true) i ⟨h1, h2⟩
    refine .inr ⟨k, h3, fstI_at h3 (fun j hj => ?_) h4, h4⟩
    rw [← Bool.not_eq_true]
    intro q
    have := h5 j ⟨by omega, q⟩
    omega
  · have h' : ∀ j, j < n → p j = false := fun j hj => by rw [← Bool.not_eq_true]; exact fun q => h ⟨j, hj, q⟩
    exact .inl ⟨fstI_none h', h'⟩
end Go.Proofs.Ytoiohkjomcbadaa

namespace Go.Proofs.Ytoiohkjomcbadaa
open Go Sy
set_option linter.unusedVariables false
theorem ext_getD {α : Type} (d : α) {a b : List α} (hl : a.length = b.length) (h : ∀ i, i < a.length → a.getD i d = b.getD i d) : a = b := by
  apply List.ext_getElem hl
  intro i h1 h2
  have := h i h1
  simpa [List.getD, List.getElem?_eq_getElem h1, List.getElem?_eq_getElem h2] using this
theorem getD_set' {α : Type} (d : α) (l : List α) (i k : Nat) (x : α) (hi : i < l.length) : (l.set i x).getD k d = if i = k then x else l.getD k d := by
  simp only [List.getD, List.getElem?_set]
  by_cases q : i = k
  · rw [if_pos q, if_pos q, if_pos hi]; rfl
  · rw [if_neg q, if_neg q]
def lsF (n : Nat) (f : Nat → Int) : List Int := (List.range n).map f
theorem lsF_len (n : Nat) (f : Nat → Int) : (lsF n f).length = n := by unfold lsF; rw [List.length_map, List.length_range]
theorem lsF_get {n i : Nat} {f : Nat → Int} (h : i < n) : gi (lsF n f) i = f i := by
  simp [gi, lsF, List.getD, h]
theorem lsF_set {n i : Nat} {f : Nat → Int} {x : Int} (h : i < n) : (lsF n f).set i x = lsF n (putF f i x) := by
  refine ext_getD 0 (by rw [List.length_set, lsF_len, lsF_len]) fun k hk => ?_
  rw [List.length_set, lsF_len] at hk
  rw [getD_set' 0 _ _ _ _ (by rw [lsF_len]; exact h)]
  show _ = gi (lsF n (putF f i x)) k
  rw [lsF_get hk]
  show (if i = k then x else gi (lsF n f) k) = _
  rw [lsF_get hk]
  unfold putF
  by_cases q : i = k
  · rw [if_pos q, if_pos q.symm]
  · rw [if_neg q, if_neg (Ne.symm q)]
theorem lsF_rep (n : Nat) (x : Int) : List.replicate n x = lsF n fun _ => x := by
  unfold lsF
  rw [List.map_const', List.length_range]
theorem lsF_congr {n : Nat} {f g : Nat → Int} (h : ∀ i, i < n → f i = g i) : lsF n f = lsF n g := by
  unfold lsF
  exact List.map_congr_left fun i hi => h i (List.mem_range.1 hi)
def rvL {α : Type} (d : α) (l : List α) (k : Nat) : List α := (List.range l.length).map fun i => if i < k ∨ l.length - k ≤ i then l.getD (l.length - 1 - i) d else l.getD i d
theorem rvL_len {α : Type} (d : α) (l : List α) (k : Nat) : (rvL d l k).length = l.length := by unfold rvL; rw [List.length_map, List.length_range]
theorem rvL_get {α : Type} {d : α} {l : List α} {k i : Nat} (h : i < l.length) : (rvL d l k).getD i d = if i < k ∨ l.length - k ≤ i then l.getD (l.length - 1 - i) d else l.getD i d := by
  unfold rvL
  simp [List.getD, h]
theorem rvL_zero {α : Type} (d : α) (l : List α) : rvL d l 0 = l := by
  refine ext_getD d (rvL_len d l 0) fun i hi => ?_
  rw [rvL_len] at hi
  rw [rvL_get hi, if_neg (by omega)]
theorem rvL_step {α : Type} {d : α} {l : List α} {k : Nat} (h : k + 1 < l.length - k) : ((rvL d l k).set k ((rvL d l k).getD (l.length - 1 - k) d)).set (l.length - 1 - k) ((rvL d l k).getD k d) = rvL d l (k + 1) := by
  have hl := rvL_len d l k
  refine ext_getD d (by rw [List.length_set, List.length_set, rvL_len, rvL_len]) fun i hi => ?_
  rw [List.length_set, List.length_set, hl] at hi
  rw [getD_set' d _ _ _ _ (by rw [List.length_set, hl]; omega), getD_set' d _ _ _ _ (by rw [hl]; omega), rvL_get hi, rvL_get (by omega), rvL_get (by omega), rvL_get hi]
  by_cases q1 : l.length - 1 - k = i
  · subst q1
    rw [if_pos rfl, if_neg (by omega), if_pos (by omega)]
    congr 1; omega
  · rw [if_neg q1]
    by_cases q2 : k = i
    · subst q2
      rw [if_pos rfl, if_neg (by omega), if_pos (by omega)]
    · rw [if_neg q2]
      by_cases q3 : i < k ∨ l.length - k ≤ i
      · rw [if_pos q3, if_pos (by omega)]
      · rw [if_neg q3, if_neg (by omega)]
theorem rvL_all {α : Type} {d : α} {l : List α} {k : Nat} (h : l.length ≤ 2 * k + 1) : rvL d l k = l.reverse := by
  refine ext_getD d (by rw [rvL_len, List.length_reverse]) fun i hi => ?_
  rw [rvL_len] at hi
  rw [rvL_get hi]
  have e : l.reverse.getD i d = l.getD (l.length - 1 - i) d := by
    simp only [List.getD, List.getElem?_reverse hi]
  rw [e]
  by_cases q : i < k ∨ l.length - k ≤ i
  · rw [if_pos q]
  · rw [if_neg q]
    congr 1; omega
theorem bst_rng {s : Bs} {e : Lk} {C : Int} (h : ∀ i, 0 ≤ s.far i ∧ s.far i ≤ C) (hg : e.g ≤ 1058656) : ∀ i, 0 ≤ (bst s e).far i ∧ (bst s e).far i ≤ C + 1058656 := by
  intro i
  have := h i
  unfold bst
  split
  · rename_i q
    dsimp only
    unfold putF
    have := h e.a
    have := h e.b
    split <;> omega
  · omega
theorem bfo_rng : ∀ (ls : List Lk) (s : Bs) (C : Int), (∀ i, 0 ≤ s.far i ∧ s.far i ≤ C) → (∀ e ∈ ls, e.g ≤ 1058656) → ∀ i, 0 ≤ (ls.foldl bst s).far i ∧ (ls.foldl bst s).far i ≤ C + (ls.length : Int) * 1058656
  | [], s, C, h, _ => fun i => by have := h i; simp only [List.foldl_nil, List.length_nil]; omega
  | e :: ls, s, C, h, hg => fun i => by
    have h1 := bst_rng h (hg e List.mem_cons_self)
    have h2 := bfo_rng ls (bst s e) (C + 1058656) h1 (fun x hx => hg x (List.mem_cons_of_mem _ hx)) i
    rw [List.foldl_cons, List.length_cons]
    omega
theorem brs_rng {ls : List Lk} (hg : ∀ e ∈ ls, e.g ≤ 1058656) : ∀ (k : Nat) (i : Nat), 0 ≤ (brs ls k).far i ∧ (brs ls k).far i ≤ (k : Int) * ((ls.length : Int) * 1058656)
  | 0, i => by show 0 ≤ (0 : Int) ∧ (0 : Int) ≤ _; omega
  | k + 1, i => by
    have h := bfo_rng ls { brs ls k with last := -1 } _ (fun i => brs_rng hg k i) hg i
    have e : ((k + 1 : Nat) : Int) * ((ls.length : Int) * 1058656) = (k : Int) * ((ls.length : Int) * 1058656) + (ls.length : Int) * 1058656 := by
      rw [Int.natCast_add, Int.add_mul]; simp
    rw [e]
    exact h
def bsK (ls : List Lk) (r j : Nat) : Bs := (ls.take j).foldl bst { brs ls r with last := -1 }
theorem bsK_zero (ls : List Lk) (r : Nat) : bsK ls r 0 = { brs ls r with last := -1 } := rfl
theorem bsK_all (ls : List Lk) (r : Nat) : bsK ls r ls.length = brs ls (r + 1) := by unfold bsK; rw [List.take_length]; rfl
theorem take_snoc {α : Type} (d : α) (l : List α) (i : Nat) (h : i < l.length) : l.take (i + 1) = l.take i ++ [l.getD i d] := by
  rw [List.take_add_one, List.getD]
  simp [List.getElem?_eq_getElem h]
def dLk : Lk := ⟨0, 0, 0⟩
theorem bsK_succ {ls : List Lk} {r j : Nat} (h : j < ls.length) : bsK ls r (j + 1) = bst (bsK ls r j) (ls.getD j dLk) := by
  unfold bsK
  rw [take_snoc dLk ls j h, List.foldl_append]; rfl
theorem bsK_rng {ls : List Lk} (hg : ∀ e ∈ ls, e.g ≤ 1058656) {r j : Nat} (hj : j ≤ ls.length) (i : Nat) : 0 ≤ (bsK ls r j).far i ∧ (bsK ls r j).far i ≤ ((r : Int) + 1) * ((ls.length : Int) * 1058656) := by
  have h := bfo_rng (ls.take j) { brs ls r with last := -1 } _ (fun i => brs_rng hg r i) (fun e he => hg e (List.mem_of_mem_take he)) i
  rw [List.length_take, Nat.min_eq_left hj] at h
  have e : ((r : Int) + 1) * ((ls.length : Int) * 1058656) = (r : Int) * ((ls.length : Int) * 1058656) + (ls.length : Int) * 1058656 := by
    rw [Int.add_mul]; simp
  rw [e]
  have h' : 0 ≤ (bsK ls r j).far i ∧ (bsK ls r j).far i ≤ (r : Int) * ((ls.length : Int) * 1058656) + (j : Int) * 1058656 := h
  omega
theorem bsK_by {n : Nat} {ls : List Lk} (hn : ∀ e ∈ ls, e.a < n ∧ e.b < n) (h0 : 0 < n) (r j : Nat) : ∀ i, i < n → (bsK ls r j).by' i < n :=
  bfo_by (ls.take j) _ (fun e he => hn e (List.mem_of_mem_take he)) (brs_by hn h0 r)
theorem bsK_last {n : Nat} {ls : List Lk} (hn : ∀ e ∈ ls, e.a < n ∧ e.b < n) (r j : Nat) : -1 ≤ (bsK ls r j).last ∧ (bsK ls r j).last < n := by
  obtain ⟨h1, h2, _⟩ := bfo_last (n := n) (ls.take j) { brs ls r with last := -1 } (fun e he => hn e (List.mem_of_mem_take he)) ⟨by dsimp only; omega, by dsimp only; omega⟩
  exact ⟨h1, h2⟩
theorem lkL_get {ls : List Af} {i : Nat} (h : i < ls.length) : (lkL ls).getD i dLk = lkO (ls.getD i dAf) := by
  simp [lkL, List.getD, h]
end Go.Proofs.Ytoiohkjomcbadaa

namespace Go.Proofs.Ytoiohkjomcbadaa
open Go Sy
set_option maxRecDepth 100000
set_option maxHeartbeats 4000000
set_option linter.unusedVariables false
set_option linter.unusedSimpArgs false
theorem fn119 (mi a : Int) (w : Wn) (h : -1099511627776 ≤ w.t ∧ w.t ≤ 1099511627776) (hm : 0 ≤ mi ∧ mi ≤ 10080) : Sy.Fn Try.prog 119 [.agg (cN w), .fp [iv a] 0, .fp [iv mi] 0] (bv (wfB mi a w)) := by
  refine Fn_of_W mixed Xt119 rfl ?_
  repeat' (first | refine w1g ?_ | refine w1l ?_ | refine w1q ?_ | refine w1b ?_ | refine w1p ?_ | ((first | refine w1r ?_ | refine w1k ?_ | refine w1e ?_ | refine CallC.now (fn87 _ _ _) ?_); (refine sy1 ?_; try exact True.intro)) | refine an2 ?_ | fail)
  exact W_ret ⟨[_], ⟨rfl, rfl⟩, rfl⟩
theorem fn75 (l : List Wn) (mi a : Int) (hl : l.length ≤ 140737488355328) (hw : WnOk 0 l) (hm : 0 ≤ mi ∧ mi ≤ 10080) : Sy.Fn Try.prog 75 [aN l, iv mi, iv a] (bv (fitB mi a l)) := by
  refine Fn_of_W mixed Xt75 rfl ?_
  have c118 := fn118 l hl 119 [] [.fp [iv a] 0, .fp [iv mi] 0] (wfB mi a) (fun w hx => fn119 mi a w (by have := hw.all w hx; omega) hm)
  repeat' (first | refine w1g ?_ | refine w1l ?_ | refine w1q ?_ | refine w1b ?_ | refine w1p ?_ | ((first | refine w1r ?_ | refine w1k ?_ | refine w1e ?_ | refine CallC.now (c118) ?_); (refine sy1 ?_; try exact True.intro)) | refine an2 ?_ | fail)
  exact W_ret ⟨[_], ⟨rfl, rfl⟩, rfl⟩
theorem fn77 (l : List Wn) (mi a : Int) (hl : l.length ≤ 140737488355328) (hw : WnOk 0 l) (hm : 0 ≤ mi ∧ mi ≤ 10080) : Sy.Fn Try.prog 77 [aN l, iv mi, iv a] (bv (fitB mi a l)) := by
  refine Fn_of_W mixed Xt77 rfl ?_
  repeat' (first | refine w1g ?_ | refine w1l ?_ | refine w1q ?_ | refine w1b ?_ | refine w1p ?_ | ((first | refine w1r ?_ | refine w1k ?_ | refine w1e ?_); (refine sy1 ?_; try exact True.intro)) | refine an2 ?_ | fail)
  refine W_loopU (fun i : Nat => [(7, iv i)]) (fun i => []) (fun i => i ≤ l.length ∧ ∀ k, k < i → wfB mi a (l.getD k dWn) = false) (fun i => l.length - i) 0 ⟨by omega, fun j hj => by omega⟩ (by rfl) (by rfl) (fun i hi => ?_)
  obtain ⟨hi, hall⟩ := hi
  (refine sy1 ?_; try exact True.intro)
  repeat' (first | refine w1g ?_ | refine w1l ?_ | refine w1q ?_ | refine w1b ?_ | refine w1p ?_ | ((first | refine w1r ?_ | refine w1k ?_ | refine w1e ?_); (refine sy1 ?_; try exact True.intro)) | refine an2 ?_ | fail)
  refine W_condD (by rfl) (fun h5 => ?_) (fun h5 => ?_)
  · have hlt : i < l.length := by omega
    have hgi : l.getD i dWn = gw l i := rfl
    have hok := hw.all _ (getD_mem' dWn l i hlt)
    have hno := @up_all _ i hall
    have hys := fun q => any_yes (q := wfB mi a) dWn hlt q
    have hwf : wfB mi a (gw l i) = (decide ((gw l i).f ≤ a) && decide (a ≤ (gw l i).t - mi)) := rfl
    rw [hgi] at hok hno hys
    generalize gw l i = x at *
    generalize wfB mi a x = b at *
    repeat' (first | refine w1g ?_ | refine w1l ?_ | refine w1q ?_ | refine w1b ?_ | refine w1p ?_ | ((first | refine w1r ?_ | refine w1k ?_ | refine w1e ?_); simp (maxSteps := 400000) (disch := omega) only [push_cast, ↓reduceIte, reduceCtorEq, Nat.reduceAdd, Nat.reduceSub, Nat.reduceEqDiff, Nat.reduceLeDiff, Nat.reduceLT, Nat.reduceBEq, Nat.reduceDiv, Nat.reduceMod, Nat.reducePow, Nat.reduceMul, Int.reduceToNat, Int.reduceLT, Int.reduceLE, hgi]) | refine an2 ?_ | fail)
    rw [← hwf]
    refine W_cond (by rfl) (fun hb => ?_) (fun hb => ?_)
    · rw [show fitB mi a l = true from hys hb]
      repeat' (first | refine w1g ?_ | refine w1l ?_ | refine w1q ?_ | refine w1b ?_ | refine w1p ?_ | ((first | refine w1r ?_ | refine w1k ?_ | refine w1e ?_); (refine sy1 ?_; try exact True.intro)) | refine an2 ?_ | fail)
      exact W_ret ⟨[_], ⟨rfl, rfl⟩, rfl⟩
    · repeat' (first | refine w1g ?_ | refine w1l ?_ | refine w1q ?_ | refine w1b ?_ | refine w1p ?_ | ((first | refine w1r ?_ | refine w1k ?_ | refine w1e ?_); (refine sy1 ?_; try exact True.intro)) | refine an2 ?_ | fail)
      refine ⟨i + 1, ⟨by omega, hno hb⟩, by omega, by rfl, ?_⟩
      (refine syE ?_; try exact True.intro)
  · rw [show fitB mi a l = false from any_no dWn (fun k hk => hall k (by omega))]
    repeat' (first | refine w1g ?_ | refine w1l ?_ | refine w1q ?_ | refine w1b ?_ | refine w1p ?_ | ((first | refine w1r ?_ | refine w1k ?_ | refine w1e ?_); (refine sy1 ?_; try exact True.intro)) | refine an2 ?_ | fail)
    exact W_ret ⟨[_], ⟨rfl, rfl⟩, rfl⟩
def LkOk (n : Nat) (e : Af) : Prop := 0 ≤ e.a ∧ e.a < n ∧ 0 ≤ e.b ∧ e.b < n ∧ -1048576 ≤ e.g ∧ e.g ≤ 1058656
def cKd (k : Nat) : List AV := [.clo (if k = 0 then 53 else 54) [] [], iv (if k = 0 then 21 else 16)]
theorem lKd (k : Nat) : (cKd k).length = 2 := rfl
theorem frKd (k : Nat) : frzAll (cKd k) = true := rfl
theorem tKd (k : Nat) : List.take 2 (cKd k) = cKd k := rfl
attribute [push_cast] lKd frKd tKd
def ftE (l : List Wn) (mi fr : Int) : Int := if 32 < l.length then 6 else if wnB l = true then (if (inR mi 0 10080 && inR fr 0 1099511627776) = true then (if 0 ≤ fstW mi fr l then 0 else 15) else 3) else 2
def ftV (l : List Wn) (mi fr : Int) : Int := if ftE l mi fr = 0 then fstW mi fr l else 0
theorem fn42 (l : List Wn) (mi fr : Int) (hl : l.length ≤ 140737488355328) : Sy.Fn Try.prog 42 [aN l, iv mi, iv fr] (.tup [iv (ftV l mi fr), iv (ftE l mi fr)]) := by
  refine Fn_of_W mixed Xt42 rfl ?_
  have c88 := fn88 l hl
  have c87a := fn87 mi 0 10080
  have c87b := fn87 fr 0 1099511627776
  have e1 : ftE l mi fr = if 32 < l.length then 6 else if wnB l = true then (if (inR mi 0 10080 && inR fr 0 1099511627776) = true then (if 0 ≤ fstW mi fr l then 0 else 15) else 3) else 2 := rfl
  have e2 : ftV l mi fr = if ftE l mi fr = 0 then fstW mi fr l else 0 := rfl
  rw [e2, e1]
  repeat' (first | refine w1g ?_ | refine w1l ?_ | refine w1q ?_ | refine w1b ?_ | refine w1p ?_ | ((first | refine w1r ?_ | refine w1k ?_ | refine w1e ?_); (refine sy1 ?_; try exact True.intro)) | refine an2 ?_ | fail)
  refine W_condD (by rfl) (fun hb => ?_) (fun hb => ?_)
  · rw [if_pos (show 32 < l.length by omega)]
    repeat' (first | refine w1g ?_ | refine w1l ?_ | refine w1q ?_ | refine w1b ?_ | refine w1p ?_ | ((first | refine w1r ?_ | refine w1k ?_ | refine w1e ?_); (refine sy1 ?_; try exact True.intro)) | refine an2 ?_ | fail)
    exact W_ret ⟨[_, _], ⟨rfl, rfl, rfl⟩, rfl⟩
  rw [if_neg (show ¬ 32 < l.length by omega)]
  cases hw : wnB l
  · rw [hw] at c88
    repeat' (first | refine w1g ?_ | refine w1l ?_ | refine w1q ?_ | refine w1b ?_ | refine w1p ?_ | ((first | refine w1r ?_ | refine w1k ?_ | refine w1e ?_ | refine CallC.now (c88) ?_); (refine sy1 ?_; try exact True.intro)) | refine an2 ?_ | fail)
    refine W_cond (by rfl) (fun _ => ?_) (fun h => by cases h)
    repeat' (first | refine w1g ?_ | refine w1l ?_ | refine w1q ?_ | refine w1b ?_ | refine w1p ?_ | ((first | refine w1r ?_ | refine w1k ?_ | refine w1e ?_); (refine sy1 ?_; try exact True.intro)) | refine an2 ?_ | fail)
    exact W_ret ⟨[_, _], ⟨rfl, rfl, rfl⟩, rfl⟩
  rw [hw] at c88
  have hW := wnB_iff.1 hw
  repeat' (first | refine w1g ?_ | refine w1l ?_ | refine w1q ?_ | refine w1b ?_ | refine w1p ?_ | ((first | refine w1r ?_ | refine w1k ?_ | refine w1e ?_ | refine CallC.now (c88) ?_); (refine sy1 ?_; try exact True.intro)) | refine an2 ?_ | fail)
  refine W_cond (by rfl) (fun h => by cases h) (fun _ => ?_)
  cases hm : inR mi 0 10080
  · rw [hm] at c87a
    repeat' (first | refine w1g ?_ | refine w1l ?_ | refine w1q ?_ | refine w1b ?_ | refine w1p ?_ | ((first | refine w1r ?_ | refine w1k ?_ | refine w1e ?_ | refine CallC.now (c87a) ?_); (refine sy1 ?_; try exact True.intro)) | refine an2 ?_ | (refine CallC.go (bv false) (fun hpc => absurd hpc (by simp [pc])) rfl ?_; (refine sy1 ?_; try exact True.intro)) | fail)
    refine W_cond (by rfl) (fun _ => ?_) (fun h => by cases h)
    repeat' (first | refine w1g ?_ | refine w1l ?_ | refine w1q ?_ | refine w1b ?_ | refine w1p ?_ | ((first | refine w1r ?_ | refine w1k ?_ | refine w1e ?_); (refine sy1 ?_; try exact True.intro)) | refine an2 ?_ | fail)
    exact W_ret ⟨[_, _], ⟨rfl, rfl, rfl⟩, rfl⟩
  rw [hm] at c87a
  have hM := inR_iff.1 hm
  cases hf : inR fr 0 1099511627776
  · rw [hf] at c87b
    repeat' (first | refine w1g ?_ | refine w1l ?_ | refine w1q ?_ | refine w1b ?_ | refine w1p ?_ | ((first | refine w1r ?_ | refine w1k ?_ | refine w1e ?_ | refine CallC.now (c87a) ?_ | refine CallC.go _ (fun _ => ⟨trivial, c87b⟩) rfl ?_); (refine sy1 ?_; try exact True.intro)) | refine an2 ?_ | fail)
    refine W_cond (by rfl) (fun _ => ?_) (fun h => by cases h)
    repeat' (first | refine w1g ?_ | refine w1l ?_ | refine w1q ?_ | refine w1b ?_ | refine w1p ?_ | ((first | refine w1r ?_ | refine w1k ?_ | refine w1e ?_); (refine sy1 ?_; try exact True.intro)) | refine an2 ?_ | fail)
    exact W_ret ⟨[_, _], ⟨rfl, rfl, rfl⟩, rfl⟩
  rw [hf] at c87b
  have hF := inR_iff.1 hf
  have c64 := fn64 l mi fr hl hW hM (by omega)
  have e3 : fstV mi fr l = if 0 ≤ fstW mi fr l then fstW mi fr l else 0 := rfl
  generalize fstV mi fr l = V at *
  generalize fstW mi fr l = T at *
  repeat' (first | refine w1g ?_ | refine w1l ?_ | refine w1q ?_ | refine w1b ?_ | refine w1p ?_ | ((first | refine w1r ?_ | refine w1k ?_ | refine w1e ?_ | refine CallC.now (c87a) ?_ | refine CallC.go _ (fun _ => ⟨trivial, c87b⟩) rfl ?_); (refine sy1 ?_; try exact True.intro)) | refine an2 ?_ | fail)
  refine W_cond (by rfl) (fun h => by cases h) (fun _ => ?_)
  repeat' (first | refine w1g ?_ | refine w1l ?_ | refine w1q ?_ | refine w1b ?_ | refine w1p ?_ | ((first | refine w1r ?_ | refine w1k ?_ | refine w1e ?_ | refine CallC.now (c64) ?_); (refine sy1 ?_; try exact True.intro)) | refine an2 ?_ | fail)
  by_cases hT : 0 ≤ T
  · rw [if_pos hT] at e3
    rw [e3, decide_eq_true hT]
    refine W_cond (by rfl) (fun h => by cases h) (fun _ => ?_)
    simp only [if_pos hT]
    repeat' (first | refine w1g ?_ | refine w1l ?_ | refine w1q ?_ | refine w1b ?_ | refine w1p ?_ | ((first | refine w1r ?_ | refine w1k ?_ | refine w1e ?_); (refine sy1 ?_; try exact True.intro)) | refine an2 ?_ | fail)
    exact W_ret ⟨[_, _], ⟨rfl, rfl, rfl⟩, rfl⟩
  · rw [decide_eq_false hT]
    refine W_cond (by rfl) (fun _ => ?_) (fun h => by cases h)
    simp only [if_neg hT]
    repeat' (first | refine w1g ?_ | refine w1l ?_ | refine w1q ?_ | refine w1b ?_ | refine w1p ?_ | ((first | refine w1r ?_ | refine w1k ?_ | refine w1e ?_); (refine sy1 ?_; try exact True.intro)) | refine an2 ?_ | fail)
    exact W_ret ⟨[_, _], ⟨rfl, rfl, rfl⟩, rfl⟩
end Go.Proofs.Ytoiohkjomcbadaa

namespace Go.Proofs.Ytoiohkjomcbadaa
open Go Sy
set_option maxRecDepth 100000
set_option maxHeartbeats 4000000
set_option linter.unusedVariables false
set_option linter.unusedSimpArgs false
theorem w114 {M : List (Nat × Blk)} {k st nx : Nat} (l : List Int) (hlen : l.length ≤ 1000000) (hk : k < nx) (hfr : ∀ j, nx ≤ j → lm M j = none) :
    W Try.prog 28 Xn114_0 ⟨initT 0 [.row k st], setm M k (.row st 3 1 0 cI l), nx⟩ (fun e s' => (e = .n ∨ e = .r) ∧ s'.mem = setm M k (.row st 3 1 0 cI l.reverse)) := by
  have hfr' : ∀ b : Blk, ∀ j, nx ≤ j → lm (setm M k b) j = none := fun b j hj => by rw [lm_set_other _ _ (by omega)]; exact hfr j hj
  simp (maxSteps := 400000) (disch := omega) only [push_cast, ↓reduceIte, reduceCtorEq, Nat.reduceAdd, Nat.reduceSub, Nat.reduceEqDiff, Nat.reduceLeDiff, Nat.reduceLT, Nat.reduceBEq, Nat.reduceDiv, Nat.reduceMod, Nat.reducePow, Nat.reduceMul, Int.reduceToNat, Int.reduceLT, Int.reduceLE, initT]
  repeat' (first | refine w1g ?_ | refine w1l ?_ | refine w1q ?_ | refine w1b ?_ | refine w1p ?_ | ((first | refine w1r ?_ | refine w1k ?_ | refine w1e ?_); (refine sy1 ?_; try exact True.intro)) | refine an2 ?_ | fail)
  refine W_loopM (fun c : Nat => [(2, iv c), (3, iv ((l.length : Int) - 1 - c))]) (fun c => setm M k (.row st 3 1 0 cI (rvL 0 l c))) (fun c => c ≤ l.length) (fun c => l.length - c) nx (fun c _ => hfr' _) 0 (by omega) (by simp [keepL, putAll, repl, lk]) (by rw [rvL_zero]) (fun c hc => ?_)
  have hll := rvL_len 0 l c
  simp (maxSteps := 400000) (disch := omega) only [push_cast, ↓reduceIte, reduceCtorEq, Nat.reduceAdd, Nat.reduceSub, Nat.reduceEqDiff, Nat.reduceLeDiff, Nat.reduceLT, Nat.reduceBEq, Nat.reduceDiv, Nat.reduceMod, Nat.reducePow, Nat.reduceMul, Int.reduceToNat, Int.reduceLT, Int.reduceLE, keepL]
  repeat' (first | refine w1g ?_ | refine w1l ?_ | refine w1q ?_ | refine w1b ?_ | refine w1p ?_ | ((first | refine w1r ?_ | refine w1k ?_ | refine w1e ?_); simp (maxSteps := 400000) (disch := omega) only [push_cast, ↓reduceIte, reduceCtorEq, Nat.reduceAdd, Nat.reduceSub, Nat.reduceEqDiff, Nat.reduceLeDiff, Nat.reduceLT, Nat.reduceBEq, Nat.reduceDiv, Nat.reduceMod, Nat.reducePow, Nat.reduceMul, Int.reduceToNat, Int.reduceLT, Int.reduceLE, keepL]) | refine an2 ?_ | fail)
  refine W_condD (by rfl) (fun h5 => ?_) (fun h5 => ?_)
  · have hs := rvL_step (d := 0) (l := l) (k := c) (by omega)
    have ea : ((l.length : Int) - 1 - c).toNat = l.length - 1 - c := by omega
    generalize hx : (rvL 0 l c).getD (l.length - 1 - c) 0 = x at *
    generalize hy : (rvL 0 l c).getD c 0 = y at *
    generalize rvL 0 l c = L at *
    repeat' (first | refine w1g ?_ | refine w1l ?_ | refine w1q ?_ | refine w1b ?_ | refine w1p ?_ | ((first | refine w1r ?_ | refine w1k ?_ | refine w1e ?_); simp (maxSteps := 400000) (disch := omega) only [push_cast, ↓reduceIte, reduceCtorEq, Nat.reduceAdd, Nat.reduceSub, Nat.reduceEqDiff, Nat.reduceLeDiff, Nat.reduceLT, Nat.reduceBEq, Nat.reduceDiv, Nat.reduceMod, Nat.reducePow, Nat.reduceMul, Int.reduceToNat, Int.reduceLT, Int.reduceLE, keepL, hll, ea, hx, hy, beq_self_eq_true]) | refine an2 ?_ | fail)
    refine ⟨rfl, ⟨by dsimp only; omega, hasM_set _ _ _⟩, by omega, x, rfl, rfl, ?_⟩
    simp (maxSteps := 400000) (disch := omega) only [push_cast, ↓reduceIte, reduceCtorEq, Nat.reduceAdd, Nat.reduceSub, Nat.reduceEqDiff, Nat.reduceLeDiff, Nat.reduceLT, Nat.reduceBEq, Nat.reduceDiv, Nat.reduceMod, Nat.reducePow, Nat.reduceMul, Int.reduceToNat, Int.reduceLT, Int.reduceLE, hll, ea, hx, hy, List.length_set]
    repeat' (first | refine w1g ?_ | refine w1l ?_ | refine w1q ?_ | refine w1b ?_ | refine w1p ?_ | ((first | refine w1r ?_ | refine w1k ?_ | refine w1e ?_); simp (maxSteps := 400000) (disch := omega) only [push_cast, ↓reduceIte, reduceCtorEq, Nat.reduceAdd, Nat.reduceSub, Nat.reduceEqDiff, Nat.reduceLeDiff, Nat.reduceLT, Nat.reduceBEq, Nat.reduceDiv, Nat.reduceMod, Nat.reducePow, Nat.reduceMul, Int.reduceToNat, Int.reduceLT, Int.reduceLE, keepL, hll, ea, hx, hy, List.length_set, beq_self_eq_true]) | refine an2 ?_ | fail)
    refine ⟨rfl, ⟨by dsimp only; omega, hasM_set _ _ _⟩, by omega, y, rfl, rfl, ?_⟩
    rw [hs]
    (refine sy1 ?_; try exact True.intro)
    repeat' (first | refine w1g ?_ | refine w1l ?_ | refine w1q ?_ | refine w1b ?_ | refine w1p ?_ | ((first | refine w1r ?_ | refine w1k ?_ | refine w1e ?_); simp (maxSteps := 400000) (disch := omega) only [push_cast, ↓reduceIte, reduceCtorEq, Nat.reduceAdd, Nat.reduceSub, Nat.reduceEqDiff, Nat.reduceLeDiff, Nat.reduceLT, Nat.reduceBEq, Nat.reduceDiv, Nat.reduceMod, Nat.reducePow, Nat.reduceMul, Int.reduceToNat, Int.reduceLT, Int.reduceLE, keepL]) | refine an2 ?_ | fail)
    exact ⟨c + 1, by omega, by omega, by simp; omega, rfl⟩
  · rw [rvL_all (by omega)]
    repeat' (first | refine w1g ?_ | refine w1l ?_ | refine w1q ?_ | refine w1b ?_ | refine w1p ?_ | ((first | refine w1r ?_ | refine w1k ?_ | refine w1e ?_); simp (maxSteps := 400000) (disch := omega) only [push_cast, ↓reduceIte, reduceCtorEq, Nat.reduceAdd, Nat.reduceSub, Nat.reduceEqDiff, Nat.reduceLeDiff, Nat.reduceLT, Nat.reduceBEq, Nat.reduceDiv, Nat.reduceMod, Nat.reducePow, Nat.reduceMul, Int.reduceToNat, Int.reduceLT, Int.reduceLE, keepL]) | refine an2 ?_ | fail)
theorem i114 {s : S} {k st : Nat} {L L' : List Int} {K : AV → S → Prop} (hk : lm s.mem k = some (.row st 3 1 0 cI L)) (hfr : ∀ j, s.nx ≤ j → lm s.mem j = none) (hlen : L.length ≤ 1000000) (hL : L.reverse = L') (hK : K (.tup []) ⟨s.tm, setm s.mem k (.row st 3 1 0 cI L'), s.nx⟩) : Inl Try.prog 114 [.row k st] s K := by
  subst hL
  exact Inl_row mixed Xt114 rfl hk hfr (fun M nx h1 h2 => w114 L hlen h1 h2) hK
def crcX (n : Nat) (ls : List Lk) : Nat := itr (brs ls (n + 1)).by' n (brs ls (n + 1)).last.toNat
abbrev nilS : AV := .v (.slice none 0 0)
theorem w70 (n : Nat) (ls : List Af) (h0 : 0 < n) (hn : n ≤ 24) (hl : ls.length ≤ 240) (hls : ∀ e ∈ ls, LkOk n e) :
    (¬ Can (lkL ls) (rnds (lkL ls) (fun _ => 0) n) → W Try.prog 87 Xn70_0 (init [iv n, aA ls]) (Sy.Fin [.t 4] nilS)) ∧
    (Can (lkL ls) (rnds (lkL ls) (fun _ => 0) n) → ∀ p, p ≤ n → Per (brs (lkL ls) (n + 1)).by' (crcX n (lkL ls)) p → W Try.prog 87 Xn70_0 (init [iv n, aA ls]) (Sy.Fin [.t 4] (aI (cirL (brs (lkL ls) (n + 1)).by' (crcX n (lkL ls)) p).reverse))) := by
  have key : ∀ (r : AV), (¬ Can (lkL ls) (rnds (lkL ls) (fun _ => 0) n) → r = nilS) → (Can (lkL ls) (rnds (lkL ls) (fun _ => 0) n) → ∃ p, p ≤ n ∧ Per (brs (lkL ls) (n + 1)).by' (crcX n (lkL ls)) p ∧ r = aI (cirL (brs (lkL ls) (n + 1)).by' (crcX n (lkL ls)) p).reverse) → W Try.prog 87 Xn70_0 (init [iv n, aA ls]) (Sy.Fin [.t 4] r) := by
    intro r hr1 hr2
    have hnl : ∀ e ∈ lkL ls, e.a < n ∧ e.b < n := fun e he => by
      obtain ⟨x, hx, rfl⟩ := List.mem_map.1 he
      obtain ⟨a1, a2, a3, a4, _⟩ := hls x hx
      constructor
      · show x.a.toNat < n; omega
      · show x.b.toNat < n; omega
    have hgl : ∀ e ∈ lkL ls, e.g ≤ 1058656 := fun e he => by
      obtain ⟨x, hx, rfl⟩ := List.mem_map.1 he
      exact (hls x hx).2.2.2.2.2
    have hll : (lkL ls).length = ls.length := by rw [List.length_map]
    repeat' (first | refine w1g ?_ | refine w1l ?_ | refine w1q ?_ | refine w1b ?_ | refine w1p ?_ | ((first | refine w1r ?_ | refine w1k ?_ | refine w1e ?_); (refine sy1 ?_; try exact True.intro)) | refine an2 ?_ | fail)
    refine ⟨rfl, ⟨by omega, by omega, by omega⟩, Int, 0, cI, 0, rfl, rfl, by omega, rfl, ?_⟩
    simp (maxSteps := 400000) (disch := omega) only [push_cast, ↓reduceIte, reduceCtorEq, Nat.reduceAdd, Nat.reduceSub, Nat.reduceEqDiff, Nat.reduceLeDiff, Nat.reduceLT, Nat.reduceBEq, Nat.reduceDiv, Nat.reduceMod, Nat.reducePow, Nat.reduceMul, Int.reduceToNat, Int.reduceLT, Int.reduceLE, Int.toNat_natCast]
    repeat' (first | refine w1g ?_ | refine w1l ?_ | refine w1q ?_ | refine w1b ?_ | refine w1p ?_ | ((first | refine w1r ?_ | refine w1k ?_ | refine w1e ?_); (refine sy1 ?_; try exact True.intro)) | refine an2 ?_ | fail)
    refine ⟨rfl, ⟨by omega, by omega, by omega⟩, Int, 0, cI, 0, rfl, rfl, by omega, rfl, ?_⟩
    simp (maxSteps := 400000) (disch := omega) only [push_cast, ↓reduceIte, reduceCtorEq, Nat.reduceAdd, Nat.reduceSub, Nat.reduceEqDiff, Nat.reduceLeDiff, Nat.reduceLT, Nat.reduceBEq, Nat.reduceDiv, Nat.reduceMod, Nat.reducePow, Nat.reduceMul, Int.reduceToNat, Int.reduceLT, Int.reduceLE, Int.toNat_natCast]
    repeat' (first | refine w1g ?_ | refine w1l ?_ | refine w1q ?_ | refine w1b ?_ | refine w1p ?_ | ((first | refine w1r ?_ | refine w1k ?_ | refine w1e ?_); (refine sy1 ?_; try exact True.intro)) | refine an2 ?_ | fail)
    generalize hL : lkL ls = L at *
    have hget : ∀ i, i < ls.length → L.getD i dLk = lkO (ls.getD i dAf) := fun i hi => by rw [← hL]; exact lkL_get hi
    rw [lsF_rep]
    refine W_loopU (fun q : Nat => [(7, iv (brs L q).last), (19, iv q)]) (fun q => [(2, .row 0 2 1 0 cI (lsF n (brs L q).far)), (5, .row 0 3 1 0 cI (lsF n fun i => ((brs L q).by' i : Int)))]) (fun q => q ≤ n + 1 ∧ ∀ k, k < q → Can L (rnds L (fun _ => 0) k)) (fun q => n + 1 - q) 0 ⟨by omega, fun k hk => by omega⟩ (by rfl) (by rfl) (fun q hq => ?_)
    obtain ⟨hq, hcan⟩ := hq
    (refine sy1 ?_; try exact True.intro)
    repeat' (first | refine w1g ?_ | refine w1l ?_ | refine w1q ?_ | refine w1b ?_ | refine w1p ?_ | ((first | refine w1r ?_ | refine w1k ?_ | refine w1e ?_); (refine sy1 ?_; try exact True.intro)) | refine an2 ?_ | fail)
    refine W_condD (by rfl) (fun h5 => ?_) (fun h5 => ?_)
    · have hqn : q ≤ n := by omega
      have hb0 := bsK_zero L q
      have hbl := bsK_last hnl q
      have hbb := bsK_by hnl h0 q
      have hbr := fun j (hj : j ≤ L.length) => bsK_rng hgl (r := q) hj
      have hbs := fun j (hj : j < L.length) => bsK_succ (ls := L) (r := q) hj
      have hba := bsK_all L q
      have hlast := brs_last hnl q
      have hdown := fun q0 => can_down (ls := L) (o := fun _ => 0) (j := q) q0 n hqn
      rw [show (brs L q).far = (bsK L q 0).far from rfl, show (brs L q).by' = (bsK L q 0).by' from rfl]
      repeat' (first | refine w1g ?_ | refine w1l ?_ | refine w1q ?_ | refine w1b ?_ | refine w1p ?_ | ((first | refine w1r ?_ | refine w1k ?_ | refine w1e ?_); (refine sy1 ?_; try exact True.intro)) | refine an2 ?_ | fail)
      have hm1 : (-1 : Int) = (bsK L q 0).last := rfl
      generalize bsK L q = b at *
      refine W_loopU (fun j : Nat => [(7, iv (b j).last), (23, iv j)]) (fun j => [(2, .row 0 2 1 0 cI (lsF n (b j).far)), (5, .row 0 3 1 0 cI (lsF n fun i => ((b j).by' i : Int)))]) (fun j => j ≤ ls.length) (fun j => ls.length - j) 0 (by omega) (by rfl) (by rw [hm1]; rfl) (fun j hj => ?_)
      have hbs := fun h => hbs j (by rw [hll]; exact h)
      have hbr := hbr j (by omega)
      have hbl := hbl j
      have hfl := lsF_len n (b j).far
      have hyl := lsF_len n fun i => ((b j).by' i : Int)
      (refine sy1 ?_; try exact True.intro)
      repeat' (first | refine w1g ?_ | refine w1l ?_ | refine w1q ?_ | refine w1b ?_ | refine w1p ?_ | ((first | refine w1r ?_ | refine w1k ?_ | refine w1e ?_); (refine sy1 ?_; try exact True.intro)) | refine an2 ?_ | fail)
      refine W_condD (by rfl) (fun h6 => ?_) (fun h6 => ?_)
      · have hjl : j < ls.length := by omega
        have hbs := hbs hjl
        obtain ⟨a1, a2, a3, a4, a5, a6⟩ := hls _ (getD_mem' dAf ls j hjl)
        rw [hget j hjl] at hbs
        obtain ⟨e, he⟩ : ∃ e, ls.getD j dAf = e := ⟨_, rfl⟩
        rw [he] at hbs a1 a2 a3 a4 a5 a6
        have ga : (lsF n (b j).far).getD e.a.toNat 0 = (b j).far e.a.toNat := lsF_get (by omega)
        have gb : (lsF n (b j).far).getD e.b.toNat 0 = (b j).far e.b.toNat := lsF_get (by omega)
        have ra := hbr e.a.toNat
        have rb := hbr e.b.toNat
        have hS : ∀ x, (lsF n (b j).far).set e.b.toNat x = lsF n (putF (b j).far e.b.toNat x) := fun x => lsF_set (by omega)
        have hY : ∀ x, (lsF n fun i => ((b j).by' i : Int)).set e.b.toNat x = lsF n (putF (fun i => ((b j).by' i : Int)) e.b.toNat x) := fun x => lsF_set (by omega)
        have hmul : ((q : Int) + 1) * ((L.length : Int) * 1058656) ≤ 25 * (240 * 1058656) := Int.mul_le_mul (by omega) (by omega) (by omega) (by omega)
        have hbst : bst (b j) (lkO e) = if (b j).far e.b.toNat < (b j).far e.a.toNat + e.g then ⟨putF (b j).far e.b.toNat ((b j).far e.a.toNat + e.g), fun i => if i = e.b.toNat then e.a.toNat else (b j).by' i, e.b.toNat⟩ else b j := rfl
        rw [hbst] at hbs
        generalize ((q : Int) + 1) * ((L.length : Int) * 1058656) = C at *
        generalize hfa : (b j).far e.a.toNat = fa at *
        generalize hfb : (b j).far e.b.toNat = fb at *
        repeat' (first | refine w1g ?_ | refine w1l ?_ | refine w1q ?_ | refine w1b ?_ | refine w1p ?_ | ((first | refine w1r ?_ | refine w1k ?_ | refine w1e ?_); simp (maxSteps := 400000) (disch := omega) only [push_cast, ↓reduceIte, reduceCtorEq, Nat.reduceAdd, Nat.reduceSub, Nat.reduceEqDiff, Nat.reduceLeDiff, Nat.reduceLT, Nat.reduceBEq, Nat.reduceDiv, Nat.reduceMod, Nat.reducePow, Nat.reduceMul, Int.reduceToNat, Int.reduceLT, Int.reduceLE, he, ga, gb]) | refine an2 ?_ | fail)
        refine W_condD (by rfl) (fun hc => ?_) (fun hc => ?_)
        · rw [if_pos hc] at hbs
          have hpy : putF (fun i => ((b j).by' i : Int)) e.b.toNat e.a = fun i => ((b (j + 1)).by' i : Int) := by
            rw [hbs]
            funext i
            unfold putF
            dsimp only
            split
            · omega
            · rfl
          have hpf : putF (b j).far e.b.toNat (fa + e.g) = (b (j + 1)).far := by rw [hbs]
          have hpl : (b (j + 1)).last = e.b := by rw [hbs]; dsimp only; omega
          repeat' (first | refine w1g ?_ | refine w1l ?_ | refine w1q ?_ | refine w1b ?_ | refine w1p ?_ | ((first | refine w1r ?_ | refine w1k ?_ | refine w1e ?_); simp (maxSteps := 400000) (disch := omega) only [push_cast, ↓reduceIte, reduceCtorEq, Nat.reduceAdd, Nat.reduceSub, Nat.reduceEqDiff, Nat.reduceLeDiff, Nat.reduceLT, Nat.reduceBEq, Nat.reduceDiv, Nat.reduceMod, Nat.reducePow, Nat.reduceMul, Int.reduceToNat, Int.reduceLT, Int.reduceLE, he, ga, gb]) | refine an2 ?_ | fail)
          refine ⟨rfl, ⟨Nat.le_of_ble_eq_true rfl, rfl⟩, by rw [hfl]; omega, fa + e.g, rfl, rfl, ?_⟩
          rw [hS, hpf]
          simp (maxSteps := 400000) (disch := omega) only [push_cast, ↓reduceIte, reduceCtorEq, Nat.reduceAdd, Nat.reduceSub, Nat.reduceEqDiff, Nat.reduceLeDiff, Nat.reduceLT, Nat.reduceBEq, Nat.reduceDiv, Nat.reduceMod, Nat.reducePow, Nat.reduceMul, Int.reduceToNat, Int.reduceLT, Int.reduceLE, hyl]
          repeat' (first | refine w1g ?_ | refine w1l ?_ | refine w1q ?_ | refine w1b ?_ | refine w1p ?_ | ((first | refine w1r ?_ | refine w1k ?_ | refine w1e ?_); simp (maxSteps := 400000) (disch := omega) only [push_cast, ↓reduceIte, reduceCtorEq, Nat.reduceAdd, Nat.reduceSub, Nat.reduceEqDiff, Nat.reduceLeDiff, Nat.reduceLT, Nat.reduceBEq, Nat.reduceDiv, Nat.reduceMod, Nat.reducePow, Nat.reduceMul, Int.reduceToNat, Int.reduceLT, Int.reduceLE, hyl]) | refine an2 ?_ | fail)
          refine ⟨rfl, ⟨Nat.le_of_ble_eq_true rfl, rfl⟩, by omega, e.a, rfl, rfl, ?_⟩
          rw [hY, hpy]
          (refine sy1 ?_; try exact True.intro)
          repeat' (first | refine w1g ?_ | refine w1l ?_ | refine w1q ?_ | refine w1b ?_ | refine w1p ?_ | ((first | refine w1r ?_ | refine w1k ?_ | refine w1e ?_); (refine sy1 ?_; try exact True.intro)) | refine an2 ?_ | fail)
          refine ⟨j + 1, by omega, by omega, by rfl, ?_⟩
          rw [hpl]
          (refine syE ?_; try exact True.intro)
        · rw [if_neg hc] at hbs
          repeat' (first | refine w1g ?_ | refine w1l ?_ | refine w1q ?_ | refine w1b ?_ | refine w1p ?_ | ((first | refine w1r ?_ | refine w1k ?_ | refine w1e ?_); (refine sy1 ?_; try exact True.intro)) | refine an2 ?_ | fail)
          refine ⟨j + 1, by omega, by omega, by rfl, ?_⟩
          rw [hbs]
          (refine syE ?_; try exact True.intro)
      · obtain rfl : j = ls.length := by omega
        rw [← hll, hba]
        repeat' (first | refine w1g ?_ | refine w1l ?_ | refine w1q ?_ | refine w1b ?_ | refine w1p ?_ | ((first | refine w1r ?_ | refine w1k ?_ | refine w1e ?_); (refine sy1 ?_; try exact True.intro)) | refine an2 ?_ | fail)
        refine W_condD (by rfl) (fun hneg => ?_) (fun hneg => ?_)
        · rw [hr1 (hdown (hlast.2.2.1 (by omega)))]
          repeat' (first | refine w1g ?_ | refine w1l ?_ | refine w1q ?_ | refine w1b ?_ | refine w1p ?_ | ((first | refine w1r ?_ | refine w1k ?_ | refine w1e ?_); (refine sy1 ?_; try exact True.intro)) | refine an2 ?_ | fail)
          exact W_ret ⟨[_], ⟨rfl, rfl⟩, rfl⟩
        · have hc : Can L (rnds L (fun _ => 0) q) := by
            rcases Classical.em (Can L (rnds L (fun _ => 0) q)) with hc | hc
            · exact hc
            · have := hlast.2.2.2 hc; omega
          repeat' (first | refine w1g ?_ | refine w1l ?_ | refine w1q ?_ | refine w1b ?_ | refine w1p ?_ | ((first | refine w1r ?_ | refine w1k ?_ | refine w1e ?_); (refine sy1 ?_; try exact True.intro)) | refine an2 ?_ | fail)
          refine ⟨q + 1, ⟨by omega, up_all hcan hc⟩, by omega, by rfl, ?_⟩
          (refine syE ?_; try exact True.intro)
    · obtain rfl : q = n + 1 := by omega
      obtain ⟨p, hp1, hp2, hp3⟩ := hr2 (hcan n (by omega))
      have hby := brs_by hnl h0 (n + 1)
      have hlast := brs_last hnl n
      have hx : crcX n L = itr (brs L (n + 1)).by' n (brs L (n + 1)).last.toNat := rfl
      have hlp : 0 ≤ (brs L (n + 1)).last := by
        rcases Int.lt_or_le (brs L (n + 1)).last 0 with q | q
        · exact absurd (hcan n (by omega)) (hlast.2.2.1 (by omega))
        · exact q
      have hlx : ((brs L (n + 1)).last.toNat : Int) = (brs L (n + 1)).last := by omega
      have hl1 := hlast.2.1
      rw [hp3]
      clear hr1 hr2 hcan hlast hp3
      generalize crcX n L = X at *
      generalize (brs L (n + 1)).by' = B at *
      generalize (brs L (n + 1)).far = FA at *
      generalize (brs L (n + 1)).last = LA at *
      obtain ⟨z, hz⟩ : ∃ z, LA.toNat = z := ⟨_, rfl⟩
      rw [hz] at hx hlx
      have hzn : z < n := by omega
      have hyl := lsF_len n fun i => (B i : Int)
      have hgY : ∀ i, i < n → (lsF n fun i => (B i : Int)).getD i 0 = (B i : Int) := fun i hi => lsF_get hi
      generalize (lsF n fun i => (B i : Int)) = Y at *
      rw [← hlx]
      repeat' (first | refine w1g ?_ | refine w1l ?_ | refine w1q ?_ | refine w1b ?_ | refine w1p ?_ | ((first | refine w1r ?_ | refine w1k ?_ | refine w1e ?_); (refine sy1 ?_; try exact True.intro)) | refine an2 ?_ | fail)
      refine W_loopU (fun k : Nat => [(7, iv (itr B k z)), (60, iv k)]) (fun k => []) (fun k => k ≤ n) (fun k => n - k) 0 (by omega) (by rfl) (by rfl) (fun k hk => ?_)
      have hik := itr_lt hby hzn k
      have hgk := hgY _ hik
      have his : itr B (k + 1) z = B (itr B k z) := rfl
      (refine sy1 ?_; try exact True.intro)
      repeat' (first | refine w1g ?_ | refine w1l ?_ | refine w1q ?_ | refine w1b ?_ | refine w1p ?_ | ((first | refine w1r ?_ | refine w1k ?_ | refine w1e ?_); (refine sy1 ?_; try exact True.intro)) | refine an2 ?_ | fail)
      refine W_condD (by rfl) (fun h6 => ?_) (fun h6 => ?_)
      · generalize itr B k z = v at *
        repeat' (first | refine w1g ?_ | refine w1l ?_ | refine w1q ?_ | refine w1b ?_ | refine w1p ?_ | ((first | refine w1r ?_ | refine w1k ?_ | refine w1e ?_); simp (maxSteps := 400000) (disch := omega) only [push_cast, ↓reduceIte, reduceCtorEq, Nat.reduceAdd, Nat.reduceSub, Nat.reduceEqDiff, Nat.reduceLeDiff, Nat.reduceLT, Nat.reduceBEq, Nat.reduceDiv, Nat.reduceMod, Nat.reducePow, Nat.reduceMul, Int.reduceToNat, Int.reduceLT, Int.reduceLE, hyl, hgk]) | refine an2 ?_ | fail)
        refine ⟨k + 1, by omega, by omega, by rfl, ?_⟩
        rw [his]
        (refine syE ?_; try exact True.intro)
      obtain rfl : k = n := by omega
      rw [← hx]
      rw [← hx] at hik hgk
      clear his
      repeat' (first | refine w1g ?_ | refine w1l ?_ | refine w1q ?_ | refine w1b ?_ | refine w1p ?_ | ((first | refine w1r ?_ | refine w1k ?_ | refine w1e ?_); (refine sy1 ?_; try exact True.intro)) | refine an2 ?_ | fail)
      refine ⟨rfl, trivial, Int, 0, cI, [(X : Int)], rfl, by omega, fun x _ => ⟨rfl, rfl⟩, rfl, ?_⟩
      (refine sy1 ?_; try exact True.intro)
      repeat' (first | refine w1g ?_ | refine w1l ?_ | refine w1q ?_ | refine w1b ?_ | refine w1p ?_ | ((first | refine w1r ?_ | refine w1k ?_ | refine w1e ?_); simp (maxSteps := 400000) (disch := omega) only [push_cast, ↓reduceIte, reduceCtorEq, Nat.reduceAdd, Nat.reduceSub, Nat.reduceEqDiff, Nat.reduceLeDiff, Nat.reduceLT, Nat.reduceBEq, Nat.reduceDiv, Nat.reduceMod, Nat.reducePow, Nat.reduceMul, Int.reduceToNat, Int.reduceLT, Int.reduceLE, hyl, hgk]) | refine an2 ?_ | fail)
      have h1X : itr B 1 X = B X := rfl
      refine W_loopU (fun u : Nat × Nat => [(11, .row 16 u.1), (12, iv (itr B (u.1 + 1) X))]) (fun u => [(16, .row u.1 3 1 0 cI (cirL B X (u.1 + 1)))]) (fun u => u.1 + 1 ≤ p) (fun u => p - u.1) (0, 0) (by have := hp2.pos; omega) (by rfl) (by rfl) (fun u hu => ?_)
      obtain ⟨u, st⟩ := u
      dsimp only at hu ⊢
      have hiu := itr_lt hby hik (u + 1)
      have hgu := hgY _ hiu
      have hiu2 : itr B (u + 1 + 1) X = B (itr B (u + 1) X) := rfl
      have hcs := cirL_succ B X (u + 1)
      have hcl := cirL_len B X (u + 1)
      have hback := hp2.back
      have hleast := hp2.least (u + 1) (by omega)
      have hpn := Nat.lt_or_eq_of_le hu
      generalize hv : itr B (u + 1) X = v at *
      (refine sy1 ?_; try exact True.intro)
      repeat' (first | refine w1g ?_ | refine w1l ?_ | refine w1q ?_ | refine w1b ?_ | refine w1p ?_ | ((first | refine w1r ?_ | refine w1k ?_ | refine w1e ?_); (refine sy1 ?_; try exact True.intro)) | refine an2 ?_ | fail)
      refine W_cond (by rfl) (fun hb => ?_) (fun hb => ?_)
      · have hvX : v ≠ X := fun e => by rw [e] at hb; simp at hb
        have hup : u + 1 < p := by
          rcases hpn with q | q
          · exact q
          · rw [q] at hv; rw [hv] at hback; exact absurd hback hvX
        repeat' (first | refine w1g ?_ | refine w1l ?_ | refine w1q ?_ | refine w1b ?_ | refine w1p ?_ | ((first | refine w1r ?_ | refine w1k ?_ | refine w1e ?_); simp (maxSteps := 400000) (disch := omega) only [push_cast, ↓reduceIte, reduceCtorEq, Nat.reduceAdd, Nat.reduceSub, Nat.reduceEqDiff, Nat.reduceLeDiff, Nat.reduceLT, Nat.reduceBEq, Nat.reduceDiv, Nat.reduceMod, Nat.reducePow, Nat.reduceMul, Int.reduceToNat, Int.reduceLT, Int.reduceLE, hyl, hgu]) | refine an2 ?_ | fail)
        refine ⟨rfl, trivial, Int, 0, cI, [(v : Int)], rfl, by omega, fun x _ => ⟨rfl, rfl⟩, rfl, ?_⟩
        (refine sy1 ?_; try exact True.intro)
        refine ⟨rfl, ⟨Nat.le_of_ble_eq_true rfl, rfl⟩, trivial, [(v : Int)], rfl, by first | omega | (simp; omega), by first | omega | (simp; omega), ?_⟩
        (refine sy1 ?_; try exact True.intro)
        repeat' (first | refine w1g ?_ | refine w1l ?_ | refine w1q ?_ | refine w1b ?_ | refine w1p ?_ | ((first | refine w1r ?_ | refine w1k ?_ | refine w1e ?_); simp (maxSteps := 400000) (disch := omega) only [push_cast, ↓reduceIte, reduceCtorEq, Nat.reduceAdd, Nat.reduceSub, Nat.reduceEqDiff, Nat.reduceLeDiff, Nat.reduceLT, Nat.reduceBEq, Nat.reduceDiv, Nat.reduceMod, Nat.reducePow, Nat.reduceMul, Int.reduceToNat, Int.reduceLT, Int.reduceLE, hyl, hgu]) | refine an2 ?_ | fail)
        refine ⟨(u + 1, st), by dsimp only; omega, by dsimp only; omega, by rfl, ?_⟩
        dsimp only
        rw [hiu2, hcs]
      · have hvX : v = X := by
          have := bne_eq_false_iff_eq.1 hb
          omega
        have : u + 1 = p := by have := hleast hvX; omega
        rw [this]
        have hRl := cirL_len B X p
        generalize cirL B X p = R at *
        repeat' (first | refine w1g ?_ | refine w1l ?_ | refine w1q ?_ | refine w1b ?_ | refine w1p ?_ | ((first | refine w1r ?_ | refine w1k ?_ | refine w1e ?_); (refine sy1 ?_; try exact True.intro)) | refine an2 ?_ | fail)
        refine CallC.inl (i114 (k := 16) (st := u) (L := R) (by rfl) ?_ (by omega) rfl ?_)
        · intro j hj
          dsimp only at hj
          simp only [lm]
          rw [if_neg (by omega), if_neg (by omega), if_neg (by omega)]
        (refine sy1 ?_; try exact True.intro)
        repeat' (first | refine w1g ?_ | refine w1l ?_ | refine w1q ?_ | refine w1b ?_ | refine w1p ?_ | ((first | refine w1r ?_ | refine w1k ?_ | refine w1e ?_); (refine sy1 ?_; try exact True.intro)) | refine an2 ?_ | fail)
        refine W_ret ⟨[_], ⟨rfl, rfl⟩, ?_⟩
        simp (maxSteps := 400000) (disch := omega) only [push_cast, ↓reduceIte, reduceCtorEq, Nat.reduceAdd, Nat.reduceSub, Nat.reduceEqDiff, Nat.reduceLeDiff, Nat.reduceLT, Nat.reduceBEq, Nat.reduceDiv, Nat.reduceMod, Nat.reducePow, Nat.reduceMul, Int.reduceToNat, Int.reduceLT, Int.reduceLE, pack]
  exact ⟨fun h => key _ (fun _ => rfl) (fun q => absurd q h), fun h p h1 h2 => key _ (fun q => absurd h q) (fun _ => ⟨p, h1, h2, rfl⟩)⟩
theorem fn70n (n : Nat) (ls : List Af) (h0 : 0 < n) (hn : n ≤ 24) (hl : ls.length ≤ 240) (hls : ∀ e ∈ ls, LkOk n e) (h : ¬ Can (lkL ls) (rnds (lkL ls) (fun _ => 0) n)) : Sy.Fn Try.prog 70 [iv n, aA ls] nilS :=
  Fn_of_W mixed Xt70 rfl ((w70 n ls h0 hn hl hls).1 h)
theorem lk_in {n : Nat} {ls : List Af} (hls : ∀ e ∈ ls, LkOk n e) : ∀ e ∈ lkL ls, e.a < n ∧ e.b < n := fun e he => by
  obtain ⟨x, hx, rfl⟩ := List.mem_map.1 he
  obtain ⟨a1, a2, a3, a4, _⟩ := hls x hx
  constructor
  · show x.a.toNat < n; omega
  · show x.b.toNat < n; omega
theorem fn70s (n : Nat) (ls : List Af) (h0 : 0 < n) (hn : n ≤ 24) (hl : ls.length ≤ 240) (hls : ∀ e ∈ ls, LkOk n e) (h : Can (lkL ls) (rnds (lkL ls) (fun _ => 0) n)) : ∃ p, p ≤ n ∧ Per (brs (lkL ls) (n + 1)).by' (crcX n (lkL ls)) p ∧ Sy.Fn Try.prog 70 [iv n, aA ls] (aI (cirL (brs (lkL ls) (n + 1)).by' (crcX n (lkL ls)) p).reverse) := by
  have hin := lk_in hls
  have hlast := brs_last hin n
  have h1 : 0 ≤ (brs (lkL ls) (n + 1)).last := by
    rcases Int.lt_or_le (brs (lkL ls) (n + 1)).last 0 with q | q
    · exact absurd h (hlast.2.2.1 (by omega))
    · exact q
  have h2 := hlast.2.1
  obtain ⟨p, hp1, hp2⟩ := per_ex (brs_by hin h0 (n + 1)) (x := (brs (lkL ls) (n + 1)).last.toNat) (by omega)
  exact ⟨p, hp1, hp2, Fn_of_W mixed Xt70 rfl ((w70 n ls h0 hn hl hls).2 h p hp1 hp2)⟩
end Go.Proofs.Ytoiohkjomcbadaa

namespace Go.Proofs.Ytoiohkjomcbadaa
open Go Sy
set_option maxRecDepth 100000
set_option maxHeartbeats 4000000
set_option linter.unusedVariables false
set_option linter.unusedSimpArgs false
def Xm69_1 : C := regL [1, 2] none [⟨some 2, .box true 26 (.tmp 0), none⟩, ⟨some 4, .mv (.const (.pointer none)), none⟩]
def Xm69_3 : C := regL [5] (some [0, 0, 0, 6, 0, 16, 48, 112, 255, 511, 0, 2047]) [⟨some 9, .ld 26 3 true (.tmp 2), none⟩, ⟨some 10, .ld 26 3 true (.tmp 2), none⟩, ⟨some 11, .mv (.tmp 1), none⟩, ⟨some 12, .call 52 [.tmp 10, .tmp 11], none⟩, ⟨some 13, .fa 0 (.tmp 2), none⟩, ⟨some 14, .ld 22 1 false (.tmp 13), none⟩, ⟨some 15, .len (.tmp 14), none⟩, ⟨some 16, .mks 2 1 8 (.int .i64 0) (.tmp 15) (.tmp 15), none⟩, ⟨some 17, .bld (.agg #[.slice none 0 0, .slice none 0 0, .slice none 0 0, .slice none 0 0, .slice none 0 0, .slice none 0 0, .slice none 0 0, .bool false]) [(0, 3, .tmp 9), (3, 1, .tmp 12), (4, 1, .tmp 16)], none⟩, ⟨some 18, .box false 112 (.tmp 17), none⟩, ⟨some 5, .alc 107 (.pointer none), none⟩, ⟨none, .st 107 1 (.tmp 5) (.tmp 18), none⟩]
def Xm69_6 : C := regL [5, 23, 24] none [⟨some 19, .ld 107 1 false (.tmp 5), none⟩, ⟨some 20, .nilc (.tmp 19), none⟩, ⟨some 21, .fa 4 (.tmp 20), none⟩, ⟨some 22, .ld 24 1 false (.tmp 21), none⟩, ⟨some 23, .len (.tmp 22), none⟩, ⟨some 24, .mv (.const (.int .i64 0)), none⟩]
def Xm69_10 : C := regL [5, 23, 24, 25] none [⟨some 25, .bin 3 .lss (.tmp 24) (.tmp 23), none⟩]
def Xm69_12 : C := .cond (.tmp 25) .skip (.exit 0)
def Xm69_18 : C := regL [5, 6, 23, 24] none [⟨some 26, .mv (.tmp 24), none⟩, ⟨some 6, .mv (.tmp 26), none⟩]
def Xm69_19 : C := regL [5, 23, 24] none [⟨some 27, .ld 107 1 false (.tmp 5), none⟩, ⟨some 28, .nilc (.tmp 27), none⟩, ⟨some 29, .fa 4 (.tmp 28), none⟩, ⟨some 30, .ld 24 1 false (.tmp 29), none⟩, ⟨some 31, .mv (.tmp 6), none⟩, ⟨some 32, .ia 1 (.tmp 30) (.tmp 31), none⟩, ⟨none, .st 2 1 (.tmp 32) (.const (.int .i64 (-1))), none⟩]
def Xm69_17 : C := .seq Xm69_18 Xm69_19
def Xm69_16 : C := .block 1 Xm69_17
def Xm69_20 : C := regL [5, 23, 24] none [⟨some 33, .bin 3 .add (.tmp 24) (.const (.int .i64 1)), none⟩, ⟨some 24, .mv (.tmp 33), none⟩]
def Xm69_15 : C := seqL [5, 23, 24] Xm69_16 Xm69_20
def Xm69_11 : C := seqL [5, 23, 24] Xm69_12 Xm69_15
def Xm69_9 : C := .seq Xm69_10 Xm69_11
def Xm69_8 : C := loopL [5, 23, 24] Xm69_9
def Xm69_7 : C := .block 0 Xm69_8
def Xm69_5 : C := .seq Xm69_6 Xm69_7
def Xm69_23 : C := regL [5, 37, 38, 39] none [⟨some 34, .ld 107 1 false (.tmp 5), none⟩, ⟨some 35, .nilc (.tmp 34), none⟩, ⟨some 36, .fa 3 (.tmp 35), none⟩, ⟨some 37, .ld 23 1 false (.tmp 36), none⟩, ⟨some 38, .len (.tmp 37), none⟩, ⟨some 39, .mv (.const (.int .i64 0)), none⟩]
def Xm69_27 : C := regL [5, 37, 38, 39, 40] none [⟨some 40, .bin 3 .lss (.tmp 39) (.tmp 38), none⟩]
def Xm69_29 : C := .cond (.tmp 40) .skip (.exit 2)
def Xm69_35 : C := regL [5, 8, 37, 38, 39] none [⟨some 41, .ia 3 (.tmp 37) (.tmp 39), none⟩, ⟨some 42, .ld 39 3 true (.tmp 41), none⟩, ⟨some 8, .alc 39 (.agg #[.int .i64 0, .int .i64 0, .int .i64 0]), none⟩, ⟨none, .st 39 3 (.tmp 8) (.tmp 42), none⟩]
def Xm69_36 : C := regL [5, 37, 38, 39] (some [0, 0, 2, 6, 14, 0, 32, 126, 255, 511, 1023]) [⟨some 43, .ld 107 1 false (.tmp 5), none⟩, ⟨some 44, .ld 107 1 false (.tmp 5), none⟩, ⟨some 45, .nilc (.tmp 44), none⟩, ⟨some 46, .fa 6 (.tmp 45), none⟩, ⟨some 47, .ld 110 1 false (.tmp 46), none⟩, ⟨some 48, .mkf 112 [] [.tmp 5, .tmp 8], none⟩, ⟨some 49, .bls 29 1 1 (.nilFunc) [(0, 1, .tmp 48)], none⟩, ⟨some 50, .app 29 1 8 (.tmp 47) (.tmp 49), none⟩, ⟨some 51, .nilc (.tmp 43), none⟩, ⟨some 52, .fa 6 (.tmp 51), none⟩, ⟨none, .st 110 1 (.tmp 52) (.tmp 50), none⟩]
def Xm69_34 : C := .seq Xm69_35 Xm69_36
def Xm69_33 : C := .block 3 Xm69_34
def Xm69_37 : C := regL [5, 37, 38, 39] none [⟨some 53, .bin 3 .add (.tmp 39) (.const (.int .i64 1)), none⟩, ⟨some 39, .mv (.tmp 53), none⟩]
def Xm69_32 : C := seqL [5, 37, 38, 39] Xm69_33 Xm69_37
def Xm69_28 : C := seqL [5, 37, 38, 39] Xm69_29 Xm69_32
def Xm69_26 : C := .seq Xm69_27 Xm69_28
def Xm69_25 : C := loopL [5, 37, 38, 39] Xm69_26
def Xm69_24 : C := .block 2 Xm69_25
def Xm69_22 : C := .seq Xm69_23 Xm69_24
def Xm69_39 : C := regL [4] none [⟨some 54, .ld 107 1 false (.tmp 5), none⟩, ⟨some 4, .mv (.tmp 54), none⟩]
def Xm69_38 : C := .seq Xm69_39 .ret
def Xm69_21 : C := seqL [5] Xm69_22 Xm69_38
def Xm69_4 : C := seqL [5] Xm69_5 Xm69_21
def Xm69_2 : C := .seq Xm69_3 Xm69_4
def Xm69_0 : C := .seq Xm69_1 Xm69_2
theorem Xs69 : Text Try.prog 69 Xm69_0 55 2 [.t 4] := ⟨⟨Try.f69, [2], Try.func69, by kernel_rfl, by kernel_rfl, by kernel_rfl, by kernel_rfl⟩⟩
def cCl (b : Nat) (a : Af) : List AV := [.clo 112 [] [ptB b 0, .fp (cA a) 0]]
theorem lCl (b : Nat) (a : Af) : (cCl b a).length = 1 := rfl
theorem frCl (b : Nat) (a : Af) : frzAll (cCl b a) = true := rfl
theorem tCl (b : Nat) (a : Af) : List.take 1 (cCl b a) = cCl b a := rfl
theorem nCl (b : Nat) (a : Af) : nth (cCl b a) 0 = .clo 112 [] [ptB b 0, .fp (cA a) 0] := rfl
attribute [push_cast] lCl frCl tCl nCl
def slt (b : Bool) (x : AV) : AV := if b = true then x else .bad
theorem slt_t (x : AV) : slt true x = x := rfl
theorem slt_f (x : AV) : slt false x = .bad := rfl
theorem le_stK {s s' : S} (ks : List Nat) (nx : Nat) (h : ∀ j, nx ≤ j → lm s.mem j = none) (he : (⟨keepL s.tm ks, s.mem, nx⟩ : S) = s') : le s s' := he ▸ le_keepL ks nx h
def mNew (b : Nat) (a : Af) : Bool → Mem
  | true => [(60, .row 0 29 1 dAf (cCl b) [a])]
  | false => []
def bRow (b : Nat) (T : List Af) (a : Af) (k : Nat) : Bool → Blk
  | true => .row (k + 1) 29 1 dAf (cCl b) (T ++ [a])
  | false => .row k 29 1 dAf (cCl b) T
def bEng (j : Jb) (L : List Af) (k : Nat) : Bool → Blk
  | true => .cells [aT j.ts, aA j.af, aI j.tm, .sl 3 dAf cA L, .row 12 0, .row 24 0, .row 25 (k + 1), bv false]
  | false => .cells [aT j.ts, aA j.af, aI j.tm, .sl 3 dAf cA L, .row 12 0, .row 24 0, .row 25 k, bv false]
def nNx : Bool → Nat
  | true => 61
  | false => 60
def stR (j : Jb) (L T : List Af) (a : Af) (b k : Nat) (fr st : Blk) (D : Nat → Bool) : S :=
  ⟨[(5, .own 15 0), (8, .fp (cA a) 0), (37, .sl 3 dAf cA L), (38, iv L.length), (39, iv k), (43, slt (D 0) (.own 14 0)), (44, slt (D 1) (.own 14 0)), (45, slt (D 2) (.own 14 0)), (46, slt (D 3) (.own 14 6)), (47, slt (D 4) (.row 25 k)), (48, slt (D 5) (.clo 112 [] [ptB b 0, .fp (cA a) 0])), (49, slt (D 6) (.row 60 0)), (50, slt (D 7) (.row 25 (k + 1))), (51, slt (D 8) (.own 14 0)), (52, slt (D 9) (.own 14 6))],
    (25, bRow b T a k (D 7)) :: (24, .row 0 64 4 dRs cR []) :: (23, .oth (.nm 15 b)) :: (2, fr) :: (12, st) :: (14, bEng j L k (D 10)) :: (15, .cells [.own 14 0]) :: mNew b a (D 6), nNx (D 6)⟩
theorem le_cq_clo {s : S} (t j k b off g : Nat) (x : AV) (hx : frzB x = true) (ht : lk s.tm t = .cq g [] [.own k off, x]) (hn : lm s.mem j = some (.oth (.nm k b))) : le s ⟨(t, .clo g [] [ptB b off, x]) :: s.tm, s.mem, s.nx⟩ :=
  le_slot t _ fun G E a w hS y hy => by
    have h1 := nm_b hS hn
    rw [ht] at hy
    simp only [sat] at hy ⊢
    obtain ⟨fv, cv, rfl, h2, h3⟩ := hy
    refine ⟨fv, cv, rfl, ?_, ?_⟩
    · simpa only [fsatT, satT] using h2
    · simp only [satT, sat] at h3
      obtain ⟨y1, ys, rfl, ⟨b', q1, rfl⟩, y2, ys2, rfl, q2, rfl⟩ := h3
      rw [h1] at q1; cases q1
      simp only [fsatT, fsat]
      exact ⟨_, _, rfl, rfl, _, _, rfl, fsat_of_sat x y2 hx q2, rfl⟩
theorem no60 (b : Nat) (T : List Af) (a : Af) (k : Nat) (j : Jb) (L : List Af) (fr st : Blk) (c d e : Bool) (q : Nat) (hq : nNx c ≤ q) : lm ((25, bRow b T a k d) :: (24, .row 0 64 4 dRs cR []) :: (23, .oth (.nm 15 b)) :: (2, fr) :: (12, st) :: (14, bEng j L k e) :: (15, .cells [.own 14 0]) :: mNew b a c) q = none := by
  cases c
  all_goals
    simp only [nNx] at hq
    simp only [mNew, lm]
    repeat rw [if_neg (by omega)]
theorem reg69 (j : Jb) (L T : List Af) (a : Af) (b k : Nat) (vs : Array Value) (tmF : List (Nat × AV)) (st : List Int) (hT : T.length = k) (hk : k ≤ 1000) {Q : Ex → S → Prop}
    (hQ : Q .n ⟨[(5, .own 15 0), (37, .sl 3 dAf cA L), (38, iv L.length), (39, iv k)], [(25, .row (k + 1) 29 1 dAf (cCl b) (T ++ [a])), (24, .row 0 64 4 dRs cR []), (23, .oth (.nm 15 b)), (2, .oth (.fr vs tmF)), (12, .row 0 2 1 0 cI st), (14, .cells [aT j.ts, aA j.af, aI j.tm, .sl 3 dAf cA L, .row 12 0, .row 24 0, .row 25 (k + 1), bv false]), (15, .cells [.own 14 0]), (60, .row 0 29 1 dAf (cCl b) [a])], 61⟩) :
    W Try.prog 55 Xm69_36 ⟨[(8, .fp (cA a) 0), (5, .own 15 0), (37, .sl 3 dAf cA L), (38, iv L.length), (39, iv k)], [(25, .row k 29 1 dAf (cCl b) T), (24, .row 0 64 4 dRs cR []), (23, .oth (.nm 15 b)), (2, .oth (.fr vs tmF)), (12, .row 0 2 1 0 cI st), (14, .cells [aT j.ts, aA j.af, aI j.tm, .sl 3 dAf cA L, .row 12 0, .row 24 0, .row 25 k, bv false]), (15, .cells [.own 14 0])], 60⟩ Q := by
  refine W_regJ (stR j L T a b k (.oth (.fr vs tmF)) (.row 0 2 1 0 cI st)) ?_ (fun D i ro m hro hms hD ha hcl => ?_) (fun D hD => ?_)
  · exact le_stK [5, 8, 37, 38, 39, 43, 44, 45, 46, 47, 48, 49, 50, 51, 52] 60 (fun q hq => no60 b T a k j L (.oth (.fr vs tmF)) (.row 0 2 1 0 cI st) false false false q hq) (by rfl)
  · rcases i with _ | _ | _ | _ | _ | _ | _ | _ | _ | _ | _ | i
    all_goals simp only [List.getElem?_cons_zero, List.getElem?_cons_succ, List.getElem?_nil, Option.some.injEq, reduceCtorEq] at hro hms
    all_goals subst hro
    all_goals subst hms
    all_goals unfold stR
    · cases h6 : D 6 <;> cases h7 : D 7 <;> cases h10 : D 10
      all_goals simp (maxSteps := 400000) (disch := omega) only [push_cast, ↓reduceIte, reduceCtorEq, Nat.reduceAdd, Nat.reduceSub, Nat.reduceEqDiff, Nat.reduceLeDiff, Nat.reduceLT, Nat.reduceBEq, Nat.reduceDiv, Nat.reduceMod, Nat.reducePow, Nat.reduceMul, Int.reduceToNat, Int.reduceLT, Int.reduceLE, slt_t, slt_f, mNew, bRow, bEng, nNx, List.cons_append, List.nil_append, hD, h6, h7, h10]
      all_goals (first | exact le_stK [5, 8, 37, 38, 39, 43, 44, 45, 46, 47, 48, 49, 50, 51, 52] _ (fun q hq => no60 b T a k j L (.oth (.fr vs tmF)) (.row 0 2 1 0 cI st) false false false q hq) (by rfl) | exact le_stK [5, 8, 37, 38, 39, 43, 44, 45, 46, 47, 48, 49, 50, 51, 52] _ (fun q hq => no60 b T a k j L (.oth (.fr vs tmF)) (.row 0 2 1 0 cI st) false false true q hq) (by rfl) | exact le_stK [5, 8, 37, 38, 39, 43, 44, 45, 46, 47, 48, 49, 50, 51, 52] _ (fun q hq => no60 b T a k j L (.oth (.fr vs tmF)) (.row 0 2 1 0 cI st) false true false q hq) (by rfl) | exact le_stK [5, 8, 37, 38, 39, 43, 44, 45, 46, 47, 48, 49, 50, 51, 52] _ (fun q hq => no60 b T a k j L (.oth (.fr vs tmF)) (.row 0 2 1 0 cI st) false true true q hq) (by rfl) | exact le_stK [5, 8, 37, 38, 39, 43, 44, 45, 46, 47, 48, 49, 50, 51, 52] _ (fun q hq => no60 b T a k j L (.oth (.fr vs tmF)) (.row 0 2 1 0 cI st) true false false q hq) (by rfl) | exact le_stK [5, 8, 37, 38, 39, 43, 44, 45, 46, 47, 48, 49, 50, 51, 52] _ (fun q hq => no60 b T a k j L (.oth (.fr vs tmF)) (.row 0 2 1 0 cI st) true false true q hq) (by rfl) | exact le_stK [5, 8, 37, 38, 39, 43, 44, 45, 46, 47, 48, 49, 50, 51, 52] _ (fun q hq => no60 b T a k j L (.oth (.fr vs tmF)) (.row 0 2 1 0 cI st) true true false q hq) (by rfl) | exact le_stK [5, 8, 37, 38, 39, 43, 44, 45, 46, 47, 48, 49, 50, 51, 52] _ (fun q hq => no60 b T a k j L (.oth (.fr vs tmF)) (.row 0 2 1 0 cI st) true true true q hq) (by rfl))
    · cases h6 : D 6 <;> cases h7 : D 7 <;> cases h10 : D 10
      all_goals simp (maxSteps := 400000) (disch := omega) only [push_cast, ↓reduceIte, reduceCtorEq, Nat.reduceAdd, Nat.reduceSub, Nat.reduceEqDiff, Nat.reduceLeDiff, Nat.reduceLT, Nat.reduceBEq, Nat.reduceDiv, Nat.reduceMod, Nat.reducePow, Nat.reduceMul, Int.reduceToNat, Int.reduceLT, Int.reduceLE, slt_t, slt_f, mNew, bRow, bEng, nNx, List.cons_append, List.nil_append, hD, h6, h7, h10]
      all_goals (first | exact le_stK [5, 8, 37, 38, 39, 43, 44, 45, 46, 47, 48, 49, 50, 51, 52] _ (fun q hq => no60 b T a k j L (.oth (.fr vs tmF)) (.row 0 2 1 0 cI st) false false false q hq) (by rfl) | exact le_stK [5, 8, 37, 38, 39, 43, 44, 45, 46, 47, 48, 49, 50, 51, 52] _ (fun q hq => no60 b T a k j L (.oth (.fr vs tmF)) (.row 0 2 1 0 cI st) false false true q hq) (by rfl) | exact le_stK [5, 8, 37, 38, 39, 43, 44, 45, 46, 47, 48, 49, 50, 51, 52] _ (fun q hq => no60 b T a k j L (.oth (.fr vs tmF)) (.row 0 2 1 0 cI st) false true false q hq) (by rfl) | exact le_stK [5, 8, 37, 38, 39, 43, 44, 45, 46, 47, 48, 49, 50, 51, 52] _ (fun q hq => no60 b T a k j L (.oth (.fr vs tmF)) (.row 0 2 1 0 cI st) false true true q hq) (by rfl) | exact le_stK [5, 8, 37, 38, 39, 43, 44, 45, 46, 47, 48, 49, 50, 51, 52] _ (fun q hq => no60 b T a k j L (.oth (.fr vs tmF)) (.row 0 2 1 0 cI st) true false false q hq) (by rfl) | exact le_stK [5, 8, 37, 38, 39, 43, 44, 45, 46, 47, 48, 49, 50, 51, 52] _ (fun q hq => no60 b T a k j L (.oth (.fr vs tmF)) (.row 0 2 1 0 cI st) true false true q hq) (by rfl) | exact le_stK [5, 8, 37, 38, 39, 43, 44, 45, 46, 47, 48, 49, 50, 51, 52] _ (fun q hq => no60 b T a k j L (.oth (.fr vs tmF)) (.row 0 2 1 0 cI st) true true false q hq) (by rfl) | exact le_stK [5, 8, 37, 38, 39, 43, 44, 45, 46, 47, 48, 49, 50, 51, 52] _ (fun q hq => no60 b T a k j L (.oth (.fr vs tmF)) (.row 0 2 1 0 cI st) true true true q hq) (by rfl))
    · have a1 := ha 1 (by unfold tb; decide)
      cases h6 : D 6 <;> cases h7 : D 7 <;> cases h10 : D 10
      all_goals simp (maxSteps := 400000) (disch := omega) only [push_cast, ↓reduceIte, reduceCtorEq, Nat.reduceAdd, Nat.reduceSub, Nat.reduceEqDiff, Nat.reduceLeDiff, Nat.reduceLT, Nat.reduceBEq, Nat.reduceDiv, Nat.reduceMod, Nat.reducePow, Nat.reduceMul, Int.reduceToNat, Int.reduceLT, Int.reduceLE, slt_t, slt_f, mNew, bRow, bEng, nNx, List.cons_append, List.nil_append, hD, a1, h6, h7, h10]
      all_goals (first | exact le_stK [5, 8, 37, 38, 39, 43, 44, 45, 46, 47, 48, 49, 50, 51, 52] _ (fun q hq => no60 b T a k j L (.oth (.fr vs tmF)) (.row 0 2 1 0 cI st) false false false q hq) (by rfl) | exact le_stK [5, 8, 37, 38, 39, 43, 44, 45, 46, 47, 48, 49, 50, 51, 52] _ (fun q hq => no60 b T a k j L (.oth (.fr vs tmF)) (.row 0 2 1 0 cI st) false false true q hq) (by rfl) | exact le_stK [5, 8, 37, 38, 39, 43, 44, 45, 46, 47, 48, 49, 50, 51, 52] _ (fun q hq => no60 b T a k j L (.oth (.fr vs tmF)) (.row 0 2 1 0 cI st) false true false q hq) (by rfl) | exact le_stK [5, 8, 37, 38, 39, 43, 44, 45, 46, 47, 48, 49, 50, 51, 52] _ (fun q hq => no60 b T a k j L (.oth (.fr vs tmF)) (.row 0 2 1 0 cI st) false true true q hq) (by rfl) | exact le_stK [5, 8, 37, 38, 39, 43, 44, 45, 46, 47, 48, 49, 50, 51, 52] _ (fun q hq => no60 b T a k j L (.oth (.fr vs tmF)) (.row 0 2 1 0 cI st) true false false q hq) (by rfl) | exact le_stK [5, 8, 37, 38, 39, 43, 44, 45, 46, 47, 48, 49, 50, 51, 52] _ (fun q hq => no60 b T a k j L (.oth (.fr vs tmF)) (.row 0 2 1 0 cI st) true false true q hq) (by rfl) | exact le_stK [5, 8, 37, 38, 39, 43, 44, 45, 46, 47, 48, 49, 50, 51, 52] _ (fun q hq => no60 b T a k j L (.oth (.fr vs tmF)) (.row 0 2 1 0 cI st) true true false q hq) (by rfl) | exact le_stK [5, 8, 37, 38, 39, 43, 44, 45, 46, 47, 48, 49, 50, 51, 52] _ (fun q hq => no60 b T a k j L (.oth (.fr vs tmF)) (.row 0 2 1 0 cI st) true true true q hq) (by rfl))
    · have a1 := ha 1 (by unfold tb; decide)
      have a2 := ha 2 (by unfold tb; decide)
      cases h6 : D 6 <;> cases h7 : D 7 <;> cases h10 : D 10
      all_goals simp (maxSteps := 400000) (disch := omega) only [push_cast, ↓reduceIte, reduceCtorEq, Nat.reduceAdd, Nat.reduceSub, Nat.reduceEqDiff, Nat.reduceLeDiff, Nat.reduceLT, Nat.reduceBEq, Nat.reduceDiv, Nat.reduceMod, Nat.reducePow, Nat.reduceMul, Int.reduceToNat, Int.reduceLT, Int.reduceLE, slt_t, slt_f, mNew, bRow, bEng, nNx, List.cons_append, List.nil_append, hD, a1, a2, h6, h7, h10]
      all_goals (first | exact le_stK [5, 8, 37, 38, 39, 43, 44, 45, 46, 47, 48, 49, 50, 51, 52] _ (fun q hq => no60 b T a k j L (.oth (.fr vs tmF)) (.row 0 2 1 0 cI st) false false false q hq) (by rfl) | exact le_stK [5, 8, 37, 38, 39, 43, 44, 45, 46, 47, 48, 49, 50, 51, 52] _ (fun q hq => no60 b T a k j L (.oth (.fr vs tmF)) (.row 0 2 1 0 cI st) false false true q hq) (by rfl) | exact le_stK [5, 8, 37, 38, 39, 43, 44, 45, 46, 47, 48, 49, 50, 51, 52] _ (fun q hq => no60 b T a k j L (.oth (.fr vs tmF)) (.row 0 2 1 0 cI st) false true false q hq) (by rfl) | exact le_stK [5, 8, 37, 38, 39, 43, 44, 45, 46, 47, 48, 49, 50, 51, 52] _ (fun q hq => no60 b T a k j L (.oth (.fr vs tmF)) (.row 0 2 1 0 cI st) false true true q hq) (by rfl) | exact le_stK [5, 8, 37, 38, 39, 43, 44, 45, 46, 47, 48, 49, 50, 51, 52] _ (fun q hq => no60 b T a k j L (.oth (.fr vs tmF)) (.row 0 2 1 0 cI st) true false false q hq) (by rfl) | exact le_stK [5, 8, 37, 38, 39, 43, 44, 45, 46, 47, 48, 49, 50, 51, 52] _ (fun q hq => no60 b T a k j L (.oth (.fr vs tmF)) (.row 0 2 1 0 cI st) true false true q hq) (by rfl) | exact le_stK [5, 8, 37, 38, 39, 43, 44, 45, 46, 47, 48, 49, 50, 51, 52] _ (fun q hq => no60 b T a k j L (.oth (.fr vs tmF)) (.row 0 2 1 0 cI st) true true false q hq) (by rfl) | exact le_stK [5, 8, 37, 38, 39, 43, 44, 45, 46, 47, 48, 49, 50, 51, 52] _ (fun q hq => no60 b T a k j L (.oth (.fr vs tmF)) (.row 0 2 1 0 cI st) true true true q hq) (by rfl))
    · have a1 := ha 1 (by unfold tb; decide)
      have a2 := ha 2 (by unfold tb; decide)
      have a3 := ha 3 (by unfold tb; decide)
      have h10 : D 10 = false := by
        rw [← Bool.not_eq_true]
        intro q
        have := hcl 10 1023 q rfl 4 (by unfold tb; decide)
        rw [hD] at this; cases this
      cases h6 : D 6 <;> cases h7 : D 7
      all_goals simp (maxSteps := 400000) (disch := omega) only [push_cast, ↓reduceIte, reduceCtorEq, Nat.reduceAdd, Nat.reduceSub, Nat.reduceEqDiff, Nat.reduceLeDiff, Nat.reduceLT, Nat.reduceBEq, Nat.reduceDiv, Nat.reduceMod, Nat.reducePow, Nat.reduceMul, Int.reduceToNat, Int.reduceLT, Int.reduceLE, slt_t, slt_f, mNew, bRow, bEng, nNx, List.cons_append, List.nil_append, hD, a1, a2, a3, h6, h7, h10]
      all_goals (first | exact le_stK [5, 8, 37, 38, 39, 43, 44, 45, 46, 47, 48, 49, 50, 51, 52] _ (fun q hq => no60 b T a k j L (.oth (.fr vs tmF)) (.row 0 2 1 0 cI st) false false false q hq) (by rfl) | exact le_stK [5, 8, 37, 38, 39, 43, 44, 45, 46, 47, 48, 49, 50, 51, 52] _ (fun q hq => no60 b T a k j L (.oth (.fr vs tmF)) (.row 0 2 1 0 cI st) false false true q hq) (by rfl) | exact le_stK [5, 8, 37, 38, 39, 43, 44, 45, 46, 47, 48, 49, 50, 51, 52] _ (fun q hq => no60 b T a k j L (.oth (.fr vs tmF)) (.row 0 2 1 0 cI st) false true false q hq) (by rfl) | exact le_stK [5, 8, 37, 38, 39, 43, 44, 45, 46, 47, 48, 49, 50, 51, 52] _ (fun q hq => no60 b T a k j L (.oth (.fr vs tmF)) (.row 0 2 1 0 cI st) false true true q hq) (by rfl) | exact le_stK [5, 8, 37, 38, 39, 43, 44, 45, 46, 47, 48, 49, 50, 51, 52] _ (fun q hq => no60 b T a k j L (.oth (.fr vs tmF)) (.row 0 2 1 0 cI st) true false false q hq) (by rfl) | exact le_stK [5, 8, 37, 38, 39, 43, 44, 45, 46, 47, 48, 49, 50, 51, 52] _ (fun q hq => no60 b T a k j L (.oth (.fr vs tmF)) (.row 0 2 1 0 cI st) true false true q hq) (by rfl) | exact le_stK [5, 8, 37, 38, 39, 43, 44, 45, 46, 47, 48, 49, 50, 51, 52] _ (fun q hq => no60 b T a k j L (.oth (.fr vs tmF)) (.row 0 2 1 0 cI st) true true false q hq) (by rfl) | exact le_stK [5, 8, 37, 38, 39, 43, 44, 45, 46, 47, 48, 49, 50, 51, 52] _ (fun q hq => no60 b T a k j L (.oth (.fr vs tmF)) (.row 0 2 1 0 cI st) true true true q hq) (by rfl))
    · cases h6 : D 6 <;> cases h7 : D 7 <;> cases h10 : D 10
      all_goals simp (maxSteps := 400000) (disch := omega) only [push_cast, ↓reduceIte, reduceCtorEq, Nat.reduceAdd, Nat.reduceSub, Nat.reduceEqDiff, Nat.reduceLeDiff, Nat.reduceLT, Nat.reduceBEq, Nat.reduceDiv, Nat.reduceMod, Nat.reducePow, Nat.reduceMul, Int.reduceToNat, Int.reduceLT, Int.reduceLE, slt_t, slt_f, mNew, bRow, bEng, nNx, List.cons_append, List.nil_append, hD, h6, h7, h10]
      all_goals refine le.trans (le_cq_clo 48 23 15 b 0 112 (.fp (cA a) 0) rfl rfl rfl) ?_
      all_goals (first | exact le_stK [5, 8, 37, 38, 39, 43, 44, 45, 46, 47, 48, 49, 50, 51, 52] _ (fun q hq => no60 b T a k j L (.oth (.fr vs tmF)) (.row 0 2 1 0 cI st) false false false q hq) (by rfl) | exact le_stK [5, 8, 37, 38, 39, 43, 44, 45, 46, 47, 48, 49, 50, 51, 52] _ (fun q hq => no60 b T a k j L (.oth (.fr vs tmF)) (.row 0 2 1 0 cI st) false false true q hq) (by rfl) | exact le_stK [5, 8, 37, 38, 39, 43, 44, 45, 46, 47, 48, 49, 50, 51, 52] _ (fun q hq => no60 b T a k j L (.oth (.fr vs tmF)) (.row 0 2 1 0 cI st) false true false q hq) (by rfl) | exact le_stK [5, 8, 37, 38, 39, 43, 44, 45, 46, 47, 48, 49, 50, 51, 52] _ (fun q hq => no60 b T a k j L (.oth (.fr vs tmF)) (.row 0 2 1 0 cI st) false true true q hq) (by rfl) | exact le_stK [5, 8, 37, 38, 39, 43, 44, 45, 46, 47, 48, 49, 50, 51, 52] _ (fun q hq => no60 b T a k j L (.oth (.fr vs tmF)) (.row 0 2 1 0 cI st) true false false q hq) (by rfl) | exact le_stK [5, 8, 37, 38, 39, 43, 44, 45, 46, 47, 48, 49, 50, 51, 52] _ (fun q hq => no60 b T a k j L (.oth (.fr vs tmF)) (.row 0 2 1 0 cI st) true false true q hq) (by rfl) | exact le_stK [5, 8, 37, 38, 39, 43, 44, 45, 46, 47, 48, 49, 50, 51, 52] _ (fun q hq => no60 b T a k j L (.oth (.fr vs tmF)) (.row 0 2 1 0 cI st) true true false q hq) (by rfl) | exact le_stK [5, 8, 37, 38, 39, 43, 44, 45, 46, 47, 48, 49, 50, 51, 52] _ (fun q hq => no60 b T a k j L (.oth (.fr vs tmF)) (.row 0 2 1 0 cI st) true true true q hq) (by rfl))
    · have a5 := ha 5 (by unfold tb; decide)
      cases h7 : D 7 <;> cases h10 : D 10
      all_goals simp (maxSteps := 400000) (disch := omega) only [push_cast, ↓reduceIte, reduceCtorEq, Nat.reduceAdd, Nat.reduceSub, Nat.reduceEqDiff, Nat.reduceLeDiff, Nat.reduceLT, Nat.reduceBEq, Nat.reduceDiv, Nat.reduceMod, Nat.reducePow, Nat.reduceMul, Int.reduceToNat, Int.reduceLT, Int.reduceLE, slt_t, slt_f, mNew, bRow, bEng, nNx, List.cons_append, List.nil_append, hD, a5, h7, h10]
      all_goals refine ⟨rfl, trivial, Af, dAf, cCl b, [a], rfl, by omega, fun x _ => ⟨rfl, rfl⟩, rfl, ?_⟩
      all_goals simp (maxSteps := 400000) (disch := omega) only [push_cast, ↓reduceIte, reduceCtorEq, Nat.reduceAdd, Nat.reduceSub, Nat.reduceEqDiff, Nat.reduceLeDiff, Nat.reduceLT, Nat.reduceBEq, Nat.reduceDiv, Nat.reduceMod, Nat.reducePow, Nat.reduceMul, Int.reduceToNat, Int.reduceLT, Int.reduceLE, slt_t, slt_f]
      all_goals (first | exact le_stK [5, 8, 37, 38, 39, 43, 44, 45, 46, 47, 48, 49, 50, 51, 52] _ (fun q hq => no60 b T a k j L (.oth (.fr vs tmF)) (.row 0 2 1 0 cI st) false false false q hq) (by rfl) | exact le_stK [5, 8, 37, 38, 39, 43, 44, 45, 46, 47, 48, 49, 50, 51, 52] _ (fun q hq => no60 b T a k j L (.oth (.fr vs tmF)) (.row 0 2 1 0 cI st) false false true q hq) (by rfl) | exact le_stK [5, 8, 37, 38, 39, 43, 44, 45, 46, 47, 48, 49, 50, 51, 52] _ (fun q hq => no60 b T a k j L (.oth (.fr vs tmF)) (.row 0 2 1 0 cI st) false true false q hq) (by rfl) | exact le_stK [5, 8, 37, 38, 39, 43, 44, 45, 46, 47, 48, 49, 50, 51, 52] _ (fun q hq => no60 b T a k j L (.oth (.fr vs tmF)) (.row 0 2 1 0 cI st) false true true q hq) (by rfl) | exact le_stK [5, 8, 37, 38, 39, 43, 44, 45, 46, 47, 48, 49, 50, 51, 52] _ (fun q hq => no60 b T a k j L (.oth (.fr vs tmF)) (.row 0 2 1 0 cI st) true false false q hq) (by rfl) | exact le_stK [5, 8, 37, 38, 39, 43, 44, 45, 46, 47, 48, 49, 50, 51, 52] _ (fun q hq => no60 b T a k j L (.oth (.fr vs tmF)) (.row 0 2 1 0 cI st) true false true q hq) (by rfl) | exact le_stK [5, 8, 37, 38, 39, 43, 44, 45, 46, 47, 48, 49, 50, 51, 52] _ (fun q hq => no60 b T a k j L (.oth (.fr vs tmF)) (.row 0 2 1 0 cI st) true true false q hq) (by rfl) | exact le_stK [5, 8, 37, 38, 39, 43, 44, 45, 46, 47, 48, 49, 50, 51, 52] _ (fun q hq => no60 b T a k j L (.oth (.fr vs tmF)) (.row 0 2 1 0 cI st) true true true q hq) (by rfl))
    · have a4 := ha 4 (by unfold tb; decide)
      have a6 := ha 6 (by unfold tb; decide)
      cases h10 : D 10
      all_goals simp (maxSteps := 400000) (disch := omega) only [push_cast, ↓reduceIte, reduceCtorEq, Nat.reduceAdd, Nat.reduceSub, Nat.reduceEqDiff, Nat.reduceLeDiff, Nat.reduceLT, Nat.reduceBEq, Nat.reduceDiv, Nat.reduceMod, Nat.reducePow, Nat.reduceMul, Int.reduceToNat, Int.reduceLT, Int.reduceLE, slt_t, slt_f, mNew, bRow, bEng, nNx, List.cons_append, List.nil_append, hD, a4, a6, h10]
      all_goals refine ⟨rfl, ⟨Nat.le_of_ble_eq_true rfl, rfl⟩, trivial, [a], rfl, by first | omega | (simp; omega), by first | omega | (simp; omega), ?_⟩
      all_goals simp (maxSteps := 400000) (disch := omega) only [push_cast, ↓reduceIte, reduceCtorEq, Nat.reduceAdd, Nat.reduceSub, Nat.reduceEqDiff, Nat.reduceLeDiff, Nat.reduceLT, Nat.reduceBEq, Nat.reduceDiv, Nat.reduceMod, Nat.reducePow, Nat.reduceMul, Int.reduceToNat, Int.reduceLT, Int.reduceLE, slt_t, slt_f]
      all_goals (first | exact le_stK [5, 8, 37, 38, 39, 43, 44, 45, 46, 47, 48, 49, 50, 51, 52] _ (fun q hq => no60 b T a k j L (.oth (.fr vs tmF)) (.row 0 2 1 0 cI st) false false false q hq) (by rfl) | exact le_stK [5, 8, 37, 38, 39, 43, 44, 45, 46, 47, 48, 49, 50, 51, 52] _ (fun q hq => no60 b T a k j L (.oth (.fr vs tmF)) (.row 0 2 1 0 cI st) false false true q hq) (by rfl) | exact le_stK [5, 8, 37, 38, 39, 43, 44, 45, 46, 47, 48, 49, 50, 51, 52] _ (fun q hq => no60 b T a k j L (.oth (.fr vs tmF)) (.row 0 2 1 0 cI st) false true false q hq) (by rfl) | exact le_stK [5, 8, 37, 38, 39, 43, 44, 45, 46, 47, 48, 49, 50, 51, 52] _ (fun q hq => no60 b T a k j L (.oth (.fr vs tmF)) (.row 0 2 1 0 cI st) false true true q hq) (by rfl) | exact le_stK [5, 8, 37, 38, 39, 43, 44, 45, 46, 47, 48, 49, 50, 51, 52] _ (fun q hq => no60 b T a k j L (.oth (.fr vs tmF)) (.row 0 2 1 0 cI st) true false false q hq) (by rfl) | exact le_stK [5, 8, 37, 38, 39, 43, 44, 45, 46, 47, 48, 49, 50, 51, 52] _ (fun q hq => no60 b T a k j L (.oth (.fr vs tmF)) (.row 0 2 1 0 cI st) true false true q hq) (by rfl) | exact le_stK [5, 8, 37, 38, 39, 43, 44, 45, 46, 47, 48, 49, 50, 51, 52] _ (fun q hq => no60 b T a k j L (.oth (.fr vs tmF)) (.row 0 2 1 0 cI st) true true false q hq) (by rfl) | exact le_stK [5, 8, 37, 38, 39, 43, 44, 45, 46, 47, 48, 49, 50, 51, 52] _ (fun q hq => no60 b T a k j L (.oth (.fr vs tmF)) (.row 0 2 1 0 cI st) true true true q hq) (by rfl))
    · have a0 := ha 0 (by unfold tb; decide)
      cases h6 : D 6 <;> cases h7 : D 7 <;> cases h10 : D 10
      all_goals simp (maxSteps := 400000) (disch := omega) only [push_cast, ↓reduceIte, reduceCtorEq, Nat.reduceAdd, Nat.reduceSub, Nat.reduceEqDiff, Nat.reduceLeDiff, Nat.reduceLT, Nat.reduceBEq, Nat.reduceDiv, Nat.reduceMod, Nat.reducePow, Nat.reduceMul, Int.reduceToNat, Int.reduceLT, Int.reduceLE, slt_t, slt_f, mNew, bRow, bEng, nNx, List.cons_append, List.nil_append, hD, a0, h6, h7, h10]
      all_goals (first | exact le_stK [5, 8, 37, 38, 39, 43, 44, 45, 46, 47, 48, 49, 50, 51, 52] _ (fun q hq => no60 b T a k j L (.oth (.fr vs tmF)) (.row 0 2 1 0 cI st) false false false q hq) (by rfl) | exact le_stK [5, 8, 37, 38, 39, 43, 44, 45, 46, 47, 48, 49, 50, 51, 52] _ (fun q hq => no60 b T a k j L (.oth (.fr vs tmF)) (.row 0 2 1 0 cI st) false false true q hq) (by rfl) | exact le_stK [5, 8, 37, 38, 39, 43, 44, 45, 46, 47, 48, 49, 50, 51, 52] _ (fun q hq => no60 b T a k j L (.oth (.fr vs tmF)) (.row 0 2 1 0 cI st) false true false q hq) (by rfl) | exact le_stK [5, 8, 37, 38, 39, 43, 44, 45, 46, 47, 48, 49, 50, 51, 52] _ (fun q hq => no60 b T a k j L (.oth (.fr vs tmF)) (.row 0 2 1 0 cI st) false true true q hq) (by rfl) | exact le_stK [5, 8, 37, 38, 39, 43, 44, 45, 46, 47, 48, 49, 50, 51, 52] _ (fun q hq => no60 b T a k j L (.oth (.fr vs tmF)) (.row 0 2 1 0 cI st) true false false q hq) (by rfl) | exact le_stK [5, 8, 37, 38, 39, 43, 44, 45, 46, 47, 48, 49, 50, 51, 52] _ (fun q hq => no60 b T a k j L (.oth (.fr vs tmF)) (.row 0 2 1 0 cI st) true false true q hq) (by rfl) | exact le_stK [5, 8, 37, 38, 39, 43, 44, 45, 46, 47, 48, 49, 50, 51, 52] _ (fun q hq => no60 b T a k j L (.oth (.fr vs tmF)) (.row 0 2 1 0 cI st) true true false q hq) (by rfl) | exact le_stK [5, 8, 37, 38, 39, 43, 44, 45, 46, 47, 48, 49, 50, 51, 52] _ (fun q hq => no60 b T a k j L (.oth (.fr vs tmF)) (.row 0 2 1 0 cI st) true true true q hq) (by rfl))
    · have a8 := ha 8 (by unfold tb; decide)
      cases h6 : D 6 <;> cases h7 : D 7 <;> cases h10 : D 10
      all_goals simp (maxSteps := 400000) (disch := omega) only [push_cast, ↓reduceIte, reduceCtorEq, Nat.reduceAdd, Nat.reduceSub, Nat.reduceEqDiff, Nat.reduceLeDiff, Nat.reduceLT, Nat.reduceBEq, Nat.reduceDiv, Nat.reduceMod, Nat.reducePow, Nat.reduceMul, Int.reduceToNat, Int.reduceLT, Int.reduceLE, slt_t, slt_f, mNew, bRow, bEng, nNx, List.cons_append, List.nil_append, hD, a8, h6, h7, h10]
      all_goals (first | exact le_stK [5, 8, 37, 38, 39, 43, 44, 45, 46, 47, 48, 49, 50, 51, 52] _ (fun q hq => no60 b T a k j L (.oth (.fr vs tmF)) (.row 0 2 1 0 cI st) false false false q hq) (by rfl) | exact le_stK [5, 8, 37, 38, 39, 43, 44, 45, 46, 47, 48, 49, 50, 51, 52] _ (fun q hq => no60 b T a k j L (.oth (.fr vs tmF)) (.row 0 2 1 0 cI st) false false true q hq) (by rfl) | exact le_stK [5, 8, 37, 38, 39, 43, 44, 45, 46, 47, 48, 49, 50, 51, 52] _ (fun q hq => no60 b T a k j L (.oth (.fr vs tmF)) (.row 0 2 1 0 cI st) false true false q hq) (by rfl) | exact le_stK [5, 8, 37, 38, 39, 43, 44, 45, 46, 47, 48, 49, 50, 51, 52] _ (fun q hq => no60 b T a k j L (.oth (.fr vs tmF)) (.row 0 2 1 0 cI st) false true true q hq) (by rfl) | exact le_stK [5, 8, 37, 38, 39, 43, 44, 45, 46, 47, 48, 49, 50, 51, 52] _ (fun q hq => no60 b T a k j L (.oth (.fr vs tmF)) (.row 0 2 1 0 cI st) true false false q hq) (by rfl) | exact le_stK [5, 8, 37, 38, 39, 43, 44, 45, 46, 47, 48, 49, 50, 51, 52] _ (fun q hq => no60 b T a k j L (.oth (.fr vs tmF)) (.row 0 2 1 0 cI st) true false true q hq) (by rfl) | exact le_stK [5, 8, 37, 38, 39, 43, 44, 45, 46, 47, 48, 49, 50, 51, 52] _ (fun q hq => no60 b T a k j L (.oth (.fr vs tmF)) (.row 0 2 1 0 cI st) true true false q hq) (by rfl) | exact le_stK [5, 8, 37, 38, 39, 43, 44, 45, 46, 47, 48, 49, 50, 51, 52] _ (fun q hq => no60 b T a k j L (.oth (.fr vs tmF)) (.row 0 2 1 0 cI st) true true true q hq) (by rfl))
    · have a7 := ha 7 (by unfold tb; decide)
      have a9 := ha 9 (by unfold tb; decide)
      cases h6 : D 6
      all_goals simp (maxSteps := 400000) (disch := omega) only [push_cast, ↓reduceIte, reduceCtorEq, Nat.reduceAdd, Nat.reduceSub, Nat.reduceEqDiff, Nat.reduceLeDiff, Nat.reduceLT, Nat.reduceBEq, Nat.reduceDiv, Nat.reduceMod, Nat.reducePow, Nat.reduceMul, Int.reduceToNat, Int.reduceLT, Int.reduceLE, slt_t, slt_f, mNew, bRow, bEng, nNx, List.cons_append, List.nil_append, hD, a7, a9, h6]
      all_goals (first | (refine ⟨by simp, ?_⟩; (first | exact le_stK [5, 8, 37, 38, 39, 43, 44, 45, 46, 47, 48, 49, 50, 51, 52] _ (fun q hq => no60 b T a k j L (.oth (.fr vs tmF)) (.row 0 2 1 0 cI st) false false false q hq) (by rfl) | exact le_stK [5, 8, 37, 38, 39, 43, 44, 45, 46, 47, 48, 49, 50, 51, 52] _ (fun q hq => no60 b T a k j L (.oth (.fr vs tmF)) (.row 0 2 1 0 cI st) false false true q hq) (by rfl) | exact le_stK [5, 8, 37, 38, 39, 43, 44, 45, 46, 47, 48, 49, 50, 51, 52] _ (fun q hq => no60 b T a k j L (.oth (.fr vs tmF)) (.row 0 2 1 0 cI st) false true false q hq) (by rfl) | exact le_stK [5, 8, 37, 38, 39, 43, 44, 45, 46, 47, 48, 49, 50, 51, 52] _ (fun q hq => no60 b T a k j L (.oth (.fr vs tmF)) (.row 0 2 1 0 cI st) false true true q hq) (by rfl) | exact le_stK [5, 8, 37, 38, 39, 43, 44, 45, 46, 47, 48, 49, 50, 51, 52] _ (fun q hq => no60 b T a k j L (.oth (.fr vs tmF)) (.row 0 2 1 0 cI st) true false false q hq) (by rfl) | exact le_stK [5, 8, 37, 38, 39, 43, 44, 45, 46, 47, 48, 49, 50, 51, 52] _ (fun q hq => no60 b T a k j L (.oth (.fr vs tmF)) (.row 0 2 1 0 cI st) true false true q hq) (by rfl) | exact le_stK [5, 8, 37, 38, 39, 43, 44, 45, 46, 47, 48, 49, 50, 51, 52] _ (fun q hq => no60 b T a k j L (.oth (.fr vs tmF)) (.row 0 2 1 0 cI st) true true false q hq) (by rfl) | exact le_stK [5, 8, 37, 38, 39, 43, 44, 45, 46, 47, 48, 49, 50, 51, 52] _ (fun q hq => no60 b T a k j L (.oth (.fr vs tmF)) (.row 0 2 1 0 cI st) true true true q hq) (by rfl))) | (first | exact le_stK [5, 8, 37, 38, 39, 43, 44, 45, 46, 47, 48, 49, 50, 51, 52] _ (fun q hq => no60 b T a k j L (.oth (.fr vs tmF)) (.row 0 2 1 0 cI st) false false false q hq) (by rfl) | exact le_stK [5, 8, 37, 38, 39, 43, 44, 45, 46, 47, 48, 49, 50, 51, 52] _ (fun q hq => no60 b T a k j L (.oth (.fr vs tmF)) (.row 0 2 1 0 cI st) false false true q hq) (by rfl) | exact le_stK [5, 8, 37, 38, 39, 43, 44, 45, 46, 47, 48, 49, 50, 51, 52] _ (fun q hq => no60 b T a k j L (.oth (.fr vs tmF)) (.row 0 2 1 0 cI st) false true false q hq) (by rfl) | exact le_stK [5, 8, 37, 38, 39, 43, 44, 45, 46, 47, 48, 49, 50, 51, 52] _ (fun q hq => no60 b T a k j L (.oth (.fr vs tmF)) (.row 0 2 1 0 cI st) false true true q hq) (by rfl) | exact le_stK [5, 8, 37, 38, 39, 43, 44, 45, 46, 47, 48, 49, 50, 51, 52] _ (fun q hq => no60 b T a k j L (.oth (.fr vs tmF)) (.row 0 2 1 0 cI st) true false false q hq) (by rfl) | exact le_stK [5, 8, 37, 38, 39, 43, 44, 45, 46, 47, 48, 49, 50, 51, 52] _ (fun q hq => no60 b T a k j L (.oth (.fr vs tmF)) (.row 0 2 1 0 cI st) true false true q hq) (by rfl) | exact le_stK [5, 8, 37, 38, 39, 43, 44, 45, 46, 47, 48, 49, 50, 51, 52] _ (fun q hq => no60 b T a k j L (.oth (.fr vs tmF)) (.row 0 2 1 0 cI st) true true false q hq) (by rfl) | exact le_stK [5, 8, 37, 38, 39, 43, 44, 45, 46, 47, 48, 49, 50, 51, 52] _ (fun q hq => no60 b T a k j L (.oth (.fr vs tmF)) (.row 0 2 1 0 cI st) true true true q hq) (by rfl)))
  · refine ⟨_, le.refl _, ?_⟩
    have h6 := hD 6 (by decide)
    have h7 := hD 7 (by decide)
    have h10 := hD 10 (by decide)
    unfold stR
    rw [h6, h7, h10]
    exact hQ
def f1 (i : Nat) : Nat → Int := fun k => if k < i then -1 else 0
theorem f1_zero : (fun _ => 0) = f1 0 := by funext k; unfold f1; rw [if_neg (by omega)]
theorem f1_step (i : Nat) : putF (f1 i) i (-1) = f1 (i + 1) := by
  funext k
  unfold putF f1
  by_cases q : k = i
  · rw [if_pos q, if_pos (by omega)]
  · rw [if_neg q]
    by_cases q2 : k < i
    · rw [if_pos q2, if_pos (by omega)]
    · rw [if_neg q2, if_neg (by omega)]
end Go.Proofs.Ytoiohkjomcbadaa

namespace Go.Proofs.Ytoiohkjomcbadaa
open Go Sy
set_option maxRecDepth 100000
set_option maxHeartbeats 4000000
set_option linter.unusedVariables false
set_option linter.unusedSimpArgs false
def engM (b : Nat) (j : Jb) (L : List Af) (ss : List Int) (lg : List Rs) (dd : Bool) : Mem :=
  [(25, .row L.length 29 1 dAf (cCl b) L), (24, .row lg.length 64 4 dRs cR lg), (23, .oth (.nm 15 b)), (12, .row 0 2 1 0 cI ss), (14, .cells [aT j.ts, aA j.af, aI j.tm, .sl 3 dAf cA L, .row 12 0, .row 24 lg.length, .row 25 L.length, bv dd]), (15, .cells [.own 14 0])]
theorem engM_bas (b : Nat) (j : Jb) (L : List Af) (ss : List Int) (lg : List Rs) (dd : Bool) : Bas 60 (engM b j L ss lg dd) := bas_of rfl
def setN (j : Jb) (i : Nat) (fr : Int) : Int := fstW (gt j.ts i).mi fr (gt j.ts i).ws
theorem i113 (b : Nat) (j : Jb) (L : List Af) (ss : List Int) (lg : List Rs) (dd : Bool) (h : OkJ j) (i : Nat) (by' fr : Int) (hi : i < j.ts.length) (hs : ss.length = j.ts.length) (hlg : lg.length ≤ 1000000000) (hf : -1125899906842624 ≤ fr ∧ fr ≤ 1125899906842624)
    {tm : List (Nat × AV)} {R : Mem} {nx : Nat} (hR : Opq 60 R nx) :
    Inl Try.prog 113 [.own 14 0, iv i, iv by', iv fr] ⟨tm, engM b j L ss lg dd ++ R, nx⟩ (MidX 60 tm nx R fun r B' => r = bv (decide (0 ≤ setN j i fr)) ∧ B' = engM b j L (ss.set i (setN j i fr)) (lg ++ [⟨i, by', fr, setN j i fr⟩]) (!decide (0 ≤ setN j i fr))) := by
  refine Inl_opq mixed Xt113 rfl hR (engM_bas b j L ss lg dd) (fun R' nx' hR' => ?_)
  have hN := hR'.n
  obtain ⟨hk, _⟩ := h.t i hi
  have hw := h.w i hi
  have c64 := fn64 (gt j.ts i).ws (gt j.ts i).mi fr (by omega) hk.2.2 ⟨hk.1, hk.2.1⟩ hf
  have hV : fstV (gt j.ts i).mi fr (gt j.ts i).ws = if 0 ≤ setN j i fr then setN j i fr else 0 := rfl
  have hM : setN j i fr = -1 ∨ 0 ≤ setN j i fr := by
    rcases fst_fit (mi := (gt j.ts i).mi) (fr := fr) hk.2.2 (Int.le_refl 0) hk.1 with q | q
    · exact .inl q
    · exact .inr q.1
  have hF : fstW (gt j.ts i).mi fr (gt j.ts i).ws = setN j i fr := rfl
  have hgt : j.ts.getD i dTk = gt j.ts i := rfl
  rw [hV, hF] at c64
  generalize setN j i fr = n at *
  generalize hx : gt j.ts i = x at *
  obtain ⟨lg2, hl2⟩ : ∃ lg2, lg2 = lg ++ [⟨i, by', fr, n⟩] := ⟨_, rfl⟩
  have hl3 : lg2.length = lg.length + 1 := by rw [hl2]; simp
  obtain ⟨B1, hB1⟩ : ∃ B1, B1 = engM b j L (ss.set i n) lg2 (!decide (0 ≤ n)) := ⟨_, rfl⟩
  rw [← hl2, ← hB1]
  rw [← hx] at hgt
  by_cases hn : 0 ≤ n
  · rw [if_pos hn, decide_eq_true hn] at c64
    rw [decide_eq_true hn] at hB1 ⊢
    simp (maxSteps := 400000) (disch := omega) only [push_cast, ↓reduceIte, reduceCtorEq, Nat.reduceAdd, Nat.reduceSub, Nat.reduceEqDiff, Nat.reduceLeDiff, Nat.reduceLT, Nat.reduceBEq, Nat.reduceDiv, Nat.reduceMod, Nat.reducePow, Nat.reduceMul, Int.reduceToNat, Int.reduceLT, Int.reduceLE, initT, engM, List.cons_append, List.nil_append]
    repeat' (first | refine w1g ?_ | refine w1l ?_ | refine w1q ?_ | refine w1b ?_ | refine w1p ?_ | ((first | refine w1r ?_ | refine w1k ?_ | refine w1e ?_ | refine CallC.now (c64) ?_); simp (maxSteps := 400000) (disch := omega) only [push_cast, ↓reduceIte, reduceCtorEq, Nat.reduceAdd, Nat.reduceSub, Nat.reduceEqDiff, Nat.reduceLeDiff, Nat.reduceLT, Nat.reduceBEq, Nat.reduceDiv, Nat.reduceMod, Nat.reducePow, Nat.reduceMul, Int.reduceToNat, Int.reduceLT, Int.reduceLE, ne_l, ne_r, hgt, hx]) | refine an2 ?_ | fail)
    refine W_cond (by rfl) (fun h => by cases h) (fun _ => ?_)
    repeat' (first | refine w1g ?_ | refine w1l ?_ | refine w1q ?_ | refine w1b ?_ | refine w1p ?_ | ((first | refine w1r ?_ | refine w1k ?_ | refine w1e ?_); simp (maxSteps := 400000) (disch := omega) only [push_cast, ↓reduceIte, reduceCtorEq, Nat.reduceAdd, Nat.reduceSub, Nat.reduceEqDiff, Nat.reduceLeDiff, Nat.reduceLT, Nat.reduceBEq, Nat.reduceDiv, Nat.reduceMod, Nat.reducePow, Nat.reduceMul, Int.reduceToNat, Int.reduceLT, Int.reduceLE, ne_l, ne_r]) | refine an2 ?_ | fail)
    refine ⟨rfl, trivial, Rs, dRs, cR, [⟨i, by', fr, n⟩], rfl, by omega, fun x _ => ⟨rfl, rfl⟩, rfl, ?_⟩
    simp (maxSteps := 400000) (disch := omega) only [push_cast, ↓reduceIte, reduceCtorEq, Nat.reduceAdd, Nat.reduceSub, Nat.reduceEqDiff, Nat.reduceLeDiff, Nat.reduceLT, Nat.reduceBEq, Nat.reduceDiv, Nat.reduceMod, Nat.reducePow, Nat.reduceMul, Int.reduceToNat, Int.reduceLT, Int.reduceLE, ne_l, ne_r]
    refine ⟨rfl, ⟨by dsimp only; omega, rfl⟩, trivial, [⟨i, by', fr, n⟩], rfl, by first | omega | (simp; omega), by first | omega | (simp; omega), ?_⟩
    rw [← hl2]
    simp (maxSteps := 400000) (disch := omega) only [push_cast, ↓reduceIte, reduceCtorEq, Nat.reduceAdd, Nat.reduceSub, Nat.reduceEqDiff, Nat.reduceLeDiff, Nat.reduceLT, Nat.reduceBEq, Nat.reduceDiv, Nat.reduceMod, Nat.reducePow, Nat.reduceMul, Int.reduceToNat, Int.reduceLT, Int.reduceLE, ne_l, ne_r]
    repeat' (first | refine w1g ?_ | refine w1l ?_ | refine w1q ?_ | refine w1b ?_ | refine w1p ?_ | ((first | refine w1r ?_ | refine w1k ?_ | refine w1e ?_); simp (maxSteps := 400000) (disch := omega) only [push_cast, ↓reduceIte, reduceCtorEq, Nat.reduceAdd, Nat.reduceSub, Nat.reduceEqDiff, Nat.reduceLeDiff, Nat.reduceLT, Nat.reduceBEq, Nat.reduceDiv, Nat.reduceMod, Nat.reducePow, Nat.reduceMul, Int.reduceToNat, Int.reduceLT, Int.reduceLE, ne_l, ne_r, hs]) | refine an2 ?_ | fail)
    refine ⟨rfl, ⟨by dsimp only; omega, rfl⟩, by omega, n, rfl, rfl, ?_⟩
    simp (maxSteps := 400000) (disch := omega) only [push_cast, ↓reduceIte, reduceCtorEq, Nat.reduceAdd, Nat.reduceSub, Nat.reduceEqDiff, Nat.reduceLeDiff, Nat.reduceLT, Nat.reduceBEq, Nat.reduceDiv, Nat.reduceMod, Nat.reducePow, Nat.reduceMul, Int.reduceToNat, Int.reduceLT, Int.reduceLE, ne_l, ne_r]
    repeat' (first | refine w1g ?_ | refine w1l ?_ | refine w1q ?_ | refine w1b ?_ | refine w1p ?_ | ((first | refine w1r ?_ | refine w1k ?_ | refine w1e ?_); simp (maxSteps := 400000) (disch := omega) only [push_cast, ↓reduceIte, reduceCtorEq, Nat.reduceAdd, Nat.reduceSub, Nat.reduceEqDiff, Nat.reduceLeDiff, Nat.reduceLT, Nat.reduceBEq, Nat.reduceDiv, Nat.reduceMod, Nat.reducePow, Nat.reduceMul, Int.reduceToNat, Int.reduceLT, Int.reduceLE, ne_l, ne_r]) | refine an2 ?_ | fail)
    refine W_ret ⟨[_], B1, ?R2, ⟨rfl, rfl⟩, ?h1, ?h2, ?h3, rfl, rfl⟩
    case h1 =>
      rw [hB1]
      unfold engM
      rw [hl3]
      simp only [List.cons_append, List.nil_append, Bool.not_true]
      exact sameM.refl _
    case h2 =>
      rw [hB1]; exact engM_bas _ _ _ _ _ _
    case h3 =>
      exact ((Ext.refl hR').set (nx2 := nx' + 10) (by omega) (by omega)).set (by omega) (by dsimp only; omega)
  · rw [if_neg hn, decide_eq_false hn] at c64
    rw [decide_eq_false hn] at hB1 ⊢
    have hn1 : n = -1 := by omega
    rw [hn1] at hl2 hB1
    simp (maxSteps := 400000) (disch := omega) only [push_cast, ↓reduceIte, reduceCtorEq, Nat.reduceAdd, Nat.reduceSub, Nat.reduceEqDiff, Nat.reduceLeDiff, Nat.reduceLT, Nat.reduceBEq, Nat.reduceDiv, Nat.reduceMod, Nat.reducePow, Nat.reduceMul, Int.reduceToNat, Int.reduceLT, Int.reduceLE, initT, engM, List.cons_append, List.nil_append]
    repeat' (first | refine w1g ?_ | refine w1l ?_ | refine w1q ?_ | refine w1b ?_ | refine w1p ?_ | ((first | refine w1r ?_ | refine w1k ?_ | refine w1e ?_ | refine CallC.now (c64) ?_); simp (maxSteps := 400000) (disch := omega) only [push_cast, ↓reduceIte, reduceCtorEq, Nat.reduceAdd, Nat.reduceSub, Nat.reduceEqDiff, Nat.reduceLeDiff, Nat.reduceLT, Nat.reduceBEq, Nat.reduceDiv, Nat.reduceMod, Nat.reducePow, Nat.reduceMul, Int.reduceToNat, Int.reduceLT, Int.reduceLE, ne_l, ne_r, hgt, hx]) | refine an2 ?_ | fail)
    refine W_cond (by rfl) (fun _ => ?_) (fun h => by cases h)
    repeat' (first | refine w1g ?_ | refine w1l ?_ | refine w1q ?_ | refine w1b ?_ | refine w1p ?_ | ((first | refine w1r ?_ | refine w1k ?_ | refine w1e ?_); simp (maxSteps := 400000) (disch := omega) only [push_cast, ↓reduceIte, reduceCtorEq, Nat.reduceAdd, Nat.reduceSub, Nat.reduceEqDiff, Nat.reduceLeDiff, Nat.reduceLT, Nat.reduceBEq, Nat.reduceDiv, Nat.reduceMod, Nat.reducePow, Nat.reduceMul, Int.reduceToNat, Int.reduceLT, Int.reduceLE, ne_l, ne_r]) | refine an2 ?_ | fail)
    refine ⟨rfl, trivial, Rs, dRs, cR, [⟨i, by', fr, -1⟩], rfl, by omega, fun x _ => ⟨rfl, rfl⟩, rfl, ?_⟩
    simp (maxSteps := 400000) (disch := omega) only [push_cast, ↓reduceIte, reduceCtorEq, Nat.reduceAdd, Nat.reduceSub, Nat.reduceEqDiff, Nat.reduceLeDiff, Nat.reduceLT, Nat.reduceBEq, Nat.reduceDiv, Nat.reduceMod, Nat.reducePow, Nat.reduceMul, Int.reduceToNat, Int.reduceLT, Int.reduceLE, ne_l, ne_r]
    refine ⟨rfl, ⟨by dsimp only; omega, rfl⟩, trivial, [⟨i, by', fr, -1⟩], rfl, by first | omega | (simp; omega), by first | omega | (simp; omega), ?_⟩
    rw [← hl2]
    simp (maxSteps := 400000) (disch := omega) only [push_cast, ↓reduceIte, reduceCtorEq, Nat.reduceAdd, Nat.reduceSub, Nat.reduceEqDiff, Nat.reduceLeDiff, Nat.reduceLT, Nat.reduceBEq, Nat.reduceDiv, Nat.reduceMod, Nat.reducePow, Nat.reduceMul, Int.reduceToNat, Int.reduceLT, Int.reduceLE, ne_l, ne_r]
    repeat' (first | refine w1g ?_ | refine w1l ?_ | refine w1q ?_ | refine w1b ?_ | refine w1p ?_ | ((first | refine w1r ?_ | refine w1k ?_ | refine w1e ?_); simp (maxSteps := 400000) (disch := omega) only [push_cast, ↓reduceIte, reduceCtorEq, Nat.reduceAdd, Nat.reduceSub, Nat.reduceEqDiff, Nat.reduceLeDiff, Nat.reduceLT, Nat.reduceBEq, Nat.reduceDiv, Nat.reduceMod, Nat.reducePow, Nat.reduceMul, Int.reduceToNat, Int.reduceLT, Int.reduceLE, ne_l, ne_r, hs]) | refine an2 ?_ | fail)
    refine ⟨rfl, ⟨by dsimp only; omega, rfl⟩, by omega, -1, rfl, rfl, ?_⟩
    simp (maxSteps := 400000) (disch := omega) only [push_cast, ↓reduceIte, reduceCtorEq, Nat.reduceAdd, Nat.reduceSub, Nat.reduceEqDiff, Nat.reduceLeDiff, Nat.reduceLT, Nat.reduceBEq, Nat.reduceDiv, Nat.reduceMod, Nat.reducePow, Nat.reduceMul, Int.reduceToNat, Int.reduceLT, Int.reduceLE, ne_l, ne_r]
    repeat' (first | refine w1g ?_ | refine w1l ?_ | refine w1q ?_ | refine w1b ?_ | refine w1p ?_ | ((first | refine w1r ?_ | refine w1k ?_ | refine w1e ?_); simp (maxSteps := 400000) (disch := omega) only [push_cast, ↓reduceIte, reduceCtorEq, Nat.reduceAdd, Nat.reduceSub, Nat.reduceEqDiff, Nat.reduceLeDiff, Nat.reduceLT, Nat.reduceBEq, Nat.reduceDiv, Nat.reduceMod, Nat.reducePow, Nat.reduceMul, Int.reduceToNat, Int.reduceLT, Int.reduceLE, ne_l, ne_r]) | refine an2 ?_ | fail)
    refine W_ret ⟨[_], B1, ?R3, ⟨rfl, rfl⟩, ?k1, ?k2, ?k3, rfl, rfl⟩
    case k1 =>
      rw [hB1]
      unfold engM
      rw [hl3]
      simp only [List.cons_append, List.nil_append, Bool.not_false]
      exact sameM.refl _
    case k2 =>
      rw [hB1]; exact engM_bas _ _ _ _ _ _
    case k3 =>
      exact ((Ext.refl hR').set (nx2 := nx' + 10) (by omega) (by omega)).set (by omega) (by dsimp only; omega)
structure Es where
  ss : List Int
  lg : List Rs
  dd : Bool
abbrev engE (b : Nat) (j : Jb) (L : List Af) (e : Es) : Mem := engM b j L e.ss e.lg e.dd
def setE (j : Jb) (i : Nat) (by' fr : Int) (e : Es) : Es := ⟨e.ss.set i (setN j i fr), e.lg ++ [⟨i, by', fr, setN j i fr⟩], !decide (0 ≤ setN j i fr)⟩
def canE (a : Af) (e : Es) : Bool := decide (gi e.ss a.b.toNat < gi e.ss a.a.toNat + a.g)
def raiseE (j : Jb) (a : Af) (e : Es) : Es := if canE a e = true then setE j a.b.toNat a.a (gi e.ss a.a.toNat + a.g) e else e
def raiseB (j : Jb) (a : Af) (e : Es) : Bool := canE a e && decide (0 ≤ setN j a.b.toNat (gi e.ss a.a.toNat + a.g))
theorem i112 (b : Nat) (j : Jb) (L : List Af) (e : Es) (h : OkJ j) (a : Af) (ha : LkOk j.ts.length a) (hs : e.ss.length = j.ts.length) (hr : ∀ i, i < j.ts.length → -1 ≤ gi e.ss i ∧ gi e.ss i ≤ 1099511627776) (hlg : e.lg.length ≤ 1000000000)
    {tm : List (Nat × AV)} {R : Mem} {nx : Nat} (hR : Opq 60 R nx) :
    Inl Try.prog 112 [ptB b 0, .fp (cA a) 0] ⟨tm, engE b j L e ++ R, nx⟩ (MidX 60 tm nx R fun r B' => r = bv (raiseB j a e) ∧ B' = engE b j L (raiseE j a e)) := by
  obtain ⟨ss, lg, dd⟩ := e
  dsimp only at hs hlg
  refine Inl_opq mixed Xt112 rfl hR (engM_bas b j L ss lg dd) (fun R' nx' hR' => ?_)
  have hN := hR'.n
  obtain ⟨a1, a2, a3, a4, a5, a6⟩ := ha
  have ra := hr a.a.toNat (by omega)
  have rb := hr a.b.toNat (by omega)
  dsimp only at ra rb
  have hga : ss.getD a.a.toNat 0 = gi ss a.a.toNat := rfl
  have hgb : ss.getD a.b.toNat 0 = gi ss a.b.toNat := rfl
  have hbi : ((a.b.toNat : Nat) : Int) = a.b := by omega
  have hI := fun (fr : Int) (hf) tm (R2 : Mem) nx2 (hR2 : Opq 60 R2 nx2) => i113 b j L ss lg dd h a.b.toNat a.a fr (by omega) hs hlg hf (tm := tm) hR2
  have hE : ∀ c : Bool, canE a ⟨ss, lg, dd⟩ = c → (raiseE j a ⟨ss, lg, dd⟩ = if c = true then setE j a.b.toNat a.a (gi ss a.a.toNat + a.g) ⟨ss, lg, dd⟩ else ⟨ss, lg, dd⟩) ∧ raiseB j a ⟨ss, lg, dd⟩ = (c && decide (0 ≤ setN j a.b.toNat (gi ss a.a.toNat + a.g))) := fun c hc => by
    unfold raiseE raiseB
    rw [hc]
    exact ⟨rfl, rfl⟩
  have hC : canE a ⟨ss, lg, dd⟩ = decide (gi ss a.b.toNat < gi ss a.a.toNat + a.g) := rfl
  have hS : setE j a.b.toNat a.a (gi ss a.a.toNat + a.g) ⟨ss, lg, dd⟩ = ⟨ss.set a.b.toNat (setN j a.b.toNat (gi ss a.a.toNat + a.g)), lg ++ [⟨a.b.toNat, a.a, gi ss a.a.toNat + a.g, setN j a.b.toNat (gi ss a.a.toNat + a.g)⟩], !decide (0 ≤ setN j a.b.toNat (gi ss a.a.toNat + a.g))⟩ := rfl
  rw [hS] at hE
  generalize raiseE j a ⟨ss, lg, dd⟩ = E1 at *
  generalize raiseB j a ⟨ss, lg, dd⟩ = b1 at *
  generalize hx : gi ss a.a.toNat = x at *
  generalize hy : gi ss a.b.toNat = y at *
  have hI := hI (x + a.g) (by omega)
  generalize setN j a.b.toNat (x + a.g) = n at *
  by_cases hc : y < x + a.g
  · rw [decide_eq_true hc] at hC
    obtain ⟨e1, e2⟩ := hE true hC
    rw [if_pos rfl] at e1
    rw [Bool.true_and] at e2
    have hcb : decide (y < x + a.g) = true := decide_eq_true hc
    refine W_le (le_v_own 0 23 15 b 0 rfl ?_) ?_
    · show lm (engM b j L ss lg dd ++ R') 23 = _
      rfl
    rw [e1, e2]
    clear hE hS e1 e2
    rw [hbi] at hI ⊢
    obtain ⟨B1, hB1⟩ : ∃ B1, B1 = engM b j L (ss.set a.b.toNat n) (lg ++ [⟨a.b, a.a, x + a.g, n⟩]) (!decide (0 ≤ n)) := ⟨_, rfl⟩
    have hBs : Bas 60 B1 := by rw [hB1]; exact engM_bas _ _ _ _ _ _
    have hB2 : engE b j L ⟨ss.set a.b.toNat n, lg ++ [⟨a.b, a.a, x + a.g, n⟩], !decide (0 ≤ n)⟩ = B1 := hB1.symm
    rw [hB2]
    rw [← hB1] at hI
    simp (maxSteps := 400000) (disch := omega) only [push_cast, ↓reduceIte, reduceCtorEq, Nat.reduceAdd, Nat.reduceSub, Nat.reduceEqDiff, Nat.reduceLeDiff, Nat.reduceLT, Nat.reduceBEq, Nat.reduceDiv, Nat.reduceMod, Nat.reducePow, Nat.reduceMul, Int.reduceToNat, Int.reduceLT, Int.reduceLE, initT, engM, List.cons_append, List.nil_append]
    repeat' (first | refine w1g ?_ | refine w1l ?_ | refine w1q ?_ | refine w1b ?_ | refine w1p ?_ | ((first | refine W_regS 17 (by decide) (by decide) ?_ | refine w1r ?_ | refine w1k ?_ | refine w1e ?_); simp (maxSteps := 400000) (disch := omega) only [push_cast, ↓reduceIte, reduceCtorEq, Nat.reduceAdd, Nat.reduceSub, Nat.reduceEqDiff, Nat.reduceLeDiff, Nat.reduceLT, Nat.reduceBEq, Nat.reduceDiv, Nat.reduceMod, Nat.reducePow, Nat.reduceMul, Int.reduceToNat, Int.reduceLT, Int.reduceLE, ne_l, ne_r, hga, hgb, hs, hcb]) | refine an2 ?_ | fail)
    refine CallC.inlG (fun _ => ⟨trivial, Inl_sameM (engM b j L ss lg dd ++ R') nx' (sameM.refl _) (hR'.mem (engM_bas b j L ss lg dd)) (Inl_le' (hI _ R' nx' hR') (fun r s' hs2 => ?_))⟩) (fun q => absurd (by simp [pc]) q)
    obtain ⟨B', R2, nx2, hB', hX, ⟨rfl, rfl⟩, hl⟩ := hs2
    refine ⟨_, ?_, hl⟩
    (refine sy1 ?_; try exact True.intro)
    refine W_ret ⟨[_], B', R2, ⟨rfl, rfl⟩, sameM.refl _, hBs, ?_, rfl, rfl⟩
    exact hX.up (by dsimp only; omega)
  · rw [decide_eq_false hc] at hC
    obtain ⟨e1, e2⟩ := hE false hC
    rw [if_neg (by decide)] at e1
    rw [Bool.false_and] at e2
    have hcb : decide (y < x + a.g) = false := decide_eq_false hc
    refine W_le (le_v_own 0 23 15 b 0 rfl ?_) ?_
    · show lm (engM b j L ss lg dd ++ R') 23 = _
      rfl
    rw [e1, e2]
    clear hE hS e1 e2
    obtain ⟨B1, hB1⟩ : ∃ B1, B1 = engM b j L ss lg dd := ⟨_, rfl⟩
    have hBs : Bas 60 B1 := by rw [hB1]; exact engM_bas _ _ _ _ _ _
    have hB2 : engE b j L ⟨ss, lg, dd⟩ = B1 := hB1.symm
    rw [hB2]
    simp (maxSteps := 400000) (disch := omega) only [push_cast, ↓reduceIte, reduceCtorEq, Nat.reduceAdd, Nat.reduceSub, Nat.reduceEqDiff, Nat.reduceLeDiff, Nat.reduceLT, Nat.reduceBEq, Nat.reduceDiv, Nat.reduceMod, Nat.reducePow, Nat.reduceMul, Int.reduceToNat, Int.reduceLT, Int.reduceLE, initT, engM, List.cons_append, List.nil_append]
    repeat' (first | refine w1g ?_ | refine w1l ?_ | refine w1q ?_ | refine w1b ?_ | refine w1p ?_ | ((first | refine W_regS 17 (by decide) (by decide) ?_ | refine w1r ?_ | refine w1k ?_ | refine w1e ?_); simp (maxSteps := 400000) (disch := omega) only [push_cast, ↓reduceIte, reduceCtorEq, Nat.reduceAdd, Nat.reduceSub, Nat.reduceEqDiff, Nat.reduceLeDiff, Nat.reduceLT, Nat.reduceBEq, Nat.reduceDiv, Nat.reduceMod, Nat.reducePow, Nat.reduceMul, Int.reduceToNat, Int.reduceLT, Int.reduceLE, ne_l, ne_r, hga, hgb, hs, hcb]) | refine an2 ?_ | fail)
    refine CallC.inlG (fun q => absurd q (by simp [pc])) (fun q => ⟨bv false, ?_⟩)
    (refine sy1 ?_; try exact True.intro)
    refine W_ret ⟨[_], B1, R', ⟨rfl, rfl⟩, ?_, hBs, (Ext.refl hR').up (by dsimp only; omega), rfl, rfl⟩
    rw [hB1]
    exact sameM.refl _
end Go.Proofs.Ytoiohkjomcbadaa

namespace Go.Proofs.Ytoiohkjomcbadaa
open Go Sy
set_option linter.unusedVariables false
def lastS (lg : List Rs) (i : Int) : Int := lg.foldl (fun acc r => if r.k = i then r.st else acc) (-1)
theorem lastS_snoc (lg : List Rs) (r : Rs) (i : Int) : lastS (lg ++ [r]) i = if r.k = i then r.st else lastS lg i := by
  unfold lastS; rw [List.foldl_append]; rfl
def stO (lg : List Rs) : Nat → Int := fun i => lastS lg i
theorem stO_snoc (lg : List Rs) (i : Nat) (b f n : Int) : stO (lg ++ [⟨i, b, f, n⟩]) = putF (stO lg) i n := by
  funext k
  unfold stO putF
  rw [lastS_snoc]
  dsimp only
  by_cases q : k = i
  · rw [if_pos (by omega), if_pos q]
  · rw [if_neg (by omega), if_neg q]
inductive LogOk (j : Jb) (L : List Af) : List Rs → Prop where
  | nil : LogOk j L []
  | first {lg : List Rs} {i : Nat} (h : LogOk j L lg) (hi : i < j.ts.length) (hk : ∀ r ∈ lg, r.k < i ∧ 0 ≤ r.st) : LogOk j L (lg ++ [⟨i, -1, 0, setN j i 0⟩])
  | raise {lg : List Rs} {a : Af} (h : LogOk j L lg) (ha : a ∈ L) (hp : ∀ i, i < j.ts.length → 0 ≤ stO lg i) (hr : stO lg a.b.toNat < stO lg a.a.toNat + a.g) : LogOk j L (lg ++ [⟨a.b.toNat, a.a, stO lg a.a.toNat + a.g, setN j a.b.toNat (stO lg a.a.toNat + a.g)⟩])
theorem setN_rng {j : Jb} (h : OkJ j) {i : Nat} (hi : i < j.ts.length) (fr : Int) : setN j i fr = -1 ∨ (0 ≤ setN j i fr ∧ fr ≤ setN j i fr ∧ setN j i fr ≤ 1099511627776 ∧ fitW (gt j.ts i).mi (setN j i fr) (gt j.ts i).ws) := by
  obtain ⟨hk, _⟩ := h.t i hi
  rcases fst_fit (mi := (gt j.ts i).mi) (fr := fr) hk.2.2 (Int.le_refl 0) hk.1 with q | ⟨q1, q2, q3⟩
  · exact .inl q
  · exact .inr ⟨q1, q2, fit_le hk.2.2 hk.1 q3, q3⟩
section
variable {j : Jb} {L : List Af} (h : OkJ j) (hL : ∀ a ∈ L, LkOk j.ts.length a)
include h hL
theorem log_rng {lg : List Rs} (hl : LogOk j L lg) : ∀ i, -1 ≤ stO lg i ∧ stO lg i ≤ 1099511627776 := by
  induction hl with
  | nil => intro i; exact ⟨Int.le_refl _, by show (-1 : Int) ≤ _; omega⟩
  | @first lg i hl hi hk ih =>
    intro k
    rw [stO_snoc]
    unfold putF
    have := setN_rng h hi 0
    have := ih k
    split <;> omega
  | @raise lg a hl ha hp hr ih =>
    intro k
    rw [stO_snoc]
    unfold putF
    obtain ⟨a1, a2, a3, a4, _⟩ := hL a ha
    have := setN_rng h (i := a.b.toNat) (by omega) (stO lg a.a.toNat + a.g)
    have := ih k
    split <;> omega
theorem log_low {lg : List Rs} (hl : LogOk j L lg) : Low j.ts L (stO lg) ∧ ((∃ r ∈ lg, r.st < 0) → ¬ ∃ p, Rgt j.ts L p) := by
  induction hl with
  | nil =>
    refine ⟨fun p hp i hi => ?_, fun ⟨r, hr, _⟩ => by cases hr⟩
    obtain ⟨w, hw, h1, _⟩ := hp.f i hi
    have := (h.t i hi).1.2.2.all w hw
    show (-1 : Int) ≤ p i
    omega
  | @first lg i hl hi hk ih =>
    have key : ∀ p, Rgt j.ts L p → 0 ≤ setN j i 0 ∧ setN j i 0 ≤ p i := fun p hp => by
      obtain ⟨hkk, _⟩ := h.t i hi
      have hf := hp.f i hi
      obtain ⟨w, hw, h1, _⟩ := hf
      have := hkk.2.2.all w hw
      exact fst_least hkk.2.2 (Int.le_refl 0) hkk.1 (by omega) (hp.f i hi)
    refine ⟨fun p hp k hk2 => ?_, fun ⟨r, hr, hneg⟩ ⟨p, hp⟩ => ?_⟩
    · rw [stO_snoc]
      unfold putF
      split
      · rename_i q; subst q; exact (key p hp).2
      · exact ih.1 p hp k hk2
    · rcases List.mem_append.1 hr with hr | hr
      · exact ih.2 ⟨r, hr, hneg⟩ ⟨p, hp⟩
      · rw [List.mem_singleton] at hr
        subst hr
        have := (key p hp).1
        dsimp only at hneg
        omega
  | @raise lg a hl ha hp hr ih =>
    obtain ⟨a1, a2, a3, a4, _⟩ := hL a ha
    have key := low_raise ih.1 ha (by omega) (by omega) (h.t a.b.toNat (by omega)).1
    refine ⟨?_, fun ⟨r, hr, hneg⟩ ⟨p, hp⟩ => ?_⟩
    · rw [stO_snoc]; exact key.2
    · rcases List.mem_append.1 hr with hr | hr
      · exact ih.2 ⟨r, hr, hneg⟩ ⟨p, hp⟩
      · rw [List.mem_singleton] at hr
        subst hr
        have h2 := key.1 p hp
        have e : setN j a.b.toNat (stO lg a.a.toNat + a.g) = fstW (j.ts.getD a.b.toNat dTk).mi (stO lg a.a.toNat + a.g) (j.ts.getD a.b.toNat dTk).ws := rfl
        dsimp only at hneg
        omega
omit hL in
theorem log_fit {lg : List Rs} (hl : LogOk j L lg) : ∀ i, i < j.ts.length → 0 ≤ stO lg i → fitW (gt j.ts i).mi (stO lg i) (gt j.ts i).ws := by
  induction hl with
  | nil => intro i _ h0; exact absurd h0 (by show ¬ (0 : Int) ≤ -1; omega)
  | @first lg i hl hi hk ih =>
    intro k hk2 h0
    rw [stO_snoc] at h0 ⊢
    unfold putF at h0 ⊢
    by_cases q : k = i
    · subst q
      rw [if_pos rfl] at h0 ⊢
      rcases setN_rng h hk2 0 with q | q
      · omega
      · exact q.2.2.2
    · rw [if_neg q] at h0 ⊢
      exact ih k hk2 h0
  | @raise lg a hl ha hp hr ih =>
    intro k hk2 h0
    rw [stO_snoc] at h0 ⊢
    unfold putF at h0 ⊢
    by_cases q : k = a.b.toNat
    · subst q
      rw [if_pos rfl] at h0 ⊢
      rcases setN_rng h hk2 (stO lg a.a.toNat + a.g) with q | q
      · omega
      · exact q.2.2.2
    · rw [if_neg q] at h0 ⊢
      exact ih k hk2 h0
end
structure EI (j : Jb) (L : List Af) (e : Es) : Prop where
  ss : e.ss = lsF j.ts.length (stO e.lg)
  lg : LogOk j L e.lg
theorem EI.len {j : Jb} {L : List Af} {e : Es} (h : EI j L e) : e.ss.length = j.ts.length := by rw [h.ss, lsF_len]
theorem EI.get {j : Jb} {L : List Af} {e : Es} (h : EI j L e) {i : Nat} (hi : i < j.ts.length) : gi e.ss i = stO e.lg i := by rw [h.ss, lsF_get hi]
def e1 (j : Jb) : Nat → Es
  | 0 => ⟨lsF j.ts.length fun _ => -1, [], false⟩
  | k + 1 => setE j k (-1) 0 (e1 j k)
structure E1 (j : Jb) (L : List Af) (k : Nat) (e : Es) : Prop extends EI j L e where
  len' : e.lg.length = k
  bef : ∀ r ∈ e.lg, r.k < k ∧ 0 ≤ r.st
  dd : e.dd = false
  pos : ∀ i, i < k → 0 ≤ stO e.lg i
theorem e1_ok {j : Jb} {L : List Af} : ∀ k, k ≤ j.ts.length → (∀ i, i < k → 0 ≤ setN j i 0) → E1 j L k (e1 j k)
  | 0, _, _ => ⟨⟨by unfold e1; rfl, .nil⟩, rfl, fun r hr => (by cases hr), rfl, fun i hi => (by omega)⟩
  | k + 1, hk, hp => by
    have h := e1_ok (L := L) k (by omega) (fun i hi => hp i (by omega))
    have hn := hp k (by omega)
    refine ⟨⟨?_, ?_⟩, ?_, fun r hr => ?_, ?_, fun i hi => ?_⟩
    · show (e1 j k).ss.set k (setN j k 0) = lsF _ (stO ((e1 j k).lg ++ [⟨k, -1, 0, setN j k 0⟩]))
      rw [stO_snoc, h.ss, lsF_set (by omega)]
    · exact .first h.lg (by omega) h.bef
    · show ((e1 j k).lg ++ [_]).length = k + 1
      rw [List.length_append, h.len']; rfl
    · rcases List.mem_append.1 (show r ∈ (e1 j k).lg ++ [⟨k, -1, 0, setN j k 0⟩] from hr) with hr | hr
      · have := h.bef r hr
        omega
      · rw [List.mem_singleton] at hr
        subst hr
        dsimp only
        omega
    · show (!decide (0 ≤ setN j k 0)) = false
      rw [decide_eq_true hn]; rfl
    · show 0 ≤ stO ((e1 j k).lg ++ [⟨k, -1, 0, setN j k 0⟩]) i
      rw [stO_snoc]
      unfold putF
      split
      · exact hn
      · exact h.pos i (by omega)
theorem e1_dead {j : Jb} {L : List Af} (h : OkJ j) (hL : ∀ a ∈ L, LkOk j.ts.length a) {k : Nat} (hk : k < j.ts.length) (hp : ∀ i, i < k → 0 ≤ setN j i 0) (hn : setN j k 0 < 0) : LogOk j L (e1 j (k + 1)).lg ∧ ¬ ∃ p, Rgt j.ts L p := by
  have h1 := e1_ok (L := L) k (by omega) hp
  have h2 : LogOk j L (e1 j (k + 1)).lg := .first h1.lg hk h1.bef
  refine ⟨h2, (log_low h hL h2).2 ⟨⟨k, -1, 0, setN j k 0⟩, List.mem_append_right _ List.mem_cons_self, hn⟩⟩
theorem raise_no {j : Jb} {a : Af} {e : Es} (hc : canE a e = false) : raiseE j a e = e := by unfold raiseE; rw [hc, if_neg (by decide)]
theorem raise_ei {j : Jb} {L : List Af} (hL : ∀ a ∈ L, LkOk j.ts.length a) {e : Es} (h : EI j L e) {a : Af} (ha : a ∈ L) (hp : ∀ i, i < j.ts.length → 0 ≤ stO e.lg i) : EI j L (raiseE j a e) := by
  obtain ⟨a1, a2, a3, a4, _⟩ := hL a ha
  cases hc : canE a e
  · rw [raise_no hc]; exact h
  · unfold raiseE
    rw [hc, if_pos rfl]
    have e1 := h.get (i := a.a.toNat) (by omega)
    have e2 := h.get (i := a.b.toNat) (by omega)
    have hr : stO e.lg a.b.toNat < stO e.lg a.a.toNat + a.g := by
      unfold canE at hc
      rw [decide_eq_true_eq, e1, e2] at hc
      exact hc
    refine ⟨?_, ?_⟩
    · show e.ss.set a.b.toNat (setN j a.b.toNat (gi e.ss a.a.toNat + a.g)) = lsF _ (stO (e.lg ++ [_]))
      rw [stO_snoc, h.ss, lsF_set (by omega)]
    · show LogOk j L (e.lg ++ [⟨a.b.toNat, a.a, gi e.ss a.a.toNat + a.g, setN j a.b.toNat (gi e.ss a.a.toNat + a.g)⟩])
      rw [e1]
      exact .raise h.lg ha hp hr
theorem raise_len {j : Jb} {a : Af} {e : Es} : (raiseE j a e).lg.length ≤ e.lg.length + 1 := by
  unfold raiseE
  split
  · show (e.lg ++ [_]).length ≤ _
    rw [List.length_append]; exact Nat.le_refl _
  · omega
theorem raise_eng {j : Jb} {L : List Af} (h : OkJ j) (hL : ∀ a ∈ L, LkOk j.ts.length a) {e : Es} (hE : EI j L e) {a : Af} (ha : a ∈ L) (hp : ∀ i, i < j.ts.length → 0 ≤ stO e.lg i) (hd : e.dd = false) :
    ((raiseE j a e).dd = true → ¬ ∃ p, Rgt j.ts L p) ∧ ((raiseE j a e).dd = false → eng j.ts (stO e.lg) (lkO a) = some (stO (raiseE j a e).lg) ∧ raiseB j a e = decide (stO e.lg (lkO a).b < stO e.lg (lkO a).a + (lkO a).g) ∧ ∀ i, i < j.ts.length → 0 ≤ stO (raiseE j a e).lg i) := by
  obtain ⟨a1, a2, a3, a4, _⟩ := hL a ha
  have q1 := hE.get (i := a.a.toNat) (by omega)
  have q2 := hE.get (i := a.b.toNat) (by omega)
  have hcb : canE a e = decide (stO e.lg a.b.toNat < stO e.lg a.a.toNat + a.g) := by unfold canE; rw [q1, q2]
  have hEI := raise_ei hL hE ha hp
  cases hc : canE a e
  · rw [raise_no hc]
    rw [hc] at hcb
    refine ⟨fun q => (by rw [hd] at q; cases q), fun _ => ⟨?_, ?_, hp⟩⟩
    · unfold eng
      rw [if_neg]
      exact of_decide_eq_false hcb.symm
    · unfold raiseB
      rw [hc, Bool.false_and]
      exact hcb
  · rw [hc] at hcb
    have hr : raiseE j a e = setE j a.b.toNat a.a (gi e.ss a.a.toNat + a.g) e := by unfold raiseE; rw [hc, if_pos rfl]
    have hdd : (raiseE j a e).dd = !decide (0 ≤ setN j a.b.toNat (stO e.lg a.a.toNat + a.g)) := by rw [hr, q1]; rfl
    have hlg : (raiseE j a e).lg = e.lg ++ [⟨a.b.toNat, a.a, stO e.lg a.a.toNat + a.g, setN j a.b.toNat (stO e.lg a.a.toNat + a.g)⟩] := by rw [hr, q1]; rfl
    constructor
    · intro hq
      rw [hdd, Bool.not_eq_true', decide_eq_false_iff_not] at hq
      refine (log_low h hL hEI.lg).2 ⟨⟨a.b.toNat, a.a, stO e.lg a.a.toNat + a.g, setN j a.b.toNat (stO e.lg a.a.toNat + a.g)⟩, ?_, by dsimp only; omega⟩
      rw [hlg]; exact List.mem_append_right _ List.mem_cons_self
    · intro hq
      rw [hdd, Bool.not_eq_false', decide_eq_true_eq] at hq
      refine ⟨?_, ?_, fun i hi => ?_⟩
      · unfold eng
        have hlt : stO e.lg (lkO a).b < stO e.lg (lkO a).a + (lkO a).g := of_decide_eq_true hcb.symm
        rw [if_pos hlt, if_neg (by show ¬ setN j a.b.toNat (stO e.lg a.a.toNat + a.g) < 0; omega), hlg, stO_snoc]
        rfl
      · unfold raiseB
        rw [hc, Bool.true_and, q1, decide_eq_true hq]
        exact hcb
      · rw [hlg, stO_snoc]
        unfold putF
        split
        · exact hq
        · exact hp i hi
theorem raise_st {j : Jb} {a : Af} {e : Es} (hd : (raiseE j a e).dd = false) (h : ∀ r ∈ e.lg, 0 ≤ r.st) : ∀ r ∈ (raiseE j a e).lg, 0 ≤ r.st := by
  cases hc : canE a e
  · rw [raise_no hc]; exact h
  · have hr : raiseE j a e = setE j a.b.toNat a.a (gi e.ss a.a.toNat + a.g) e := by unfold raiseE; rw [hc, if_pos rfl]
    rw [hr] at hd ⊢
    have hd' : (!decide (0 ≤ setN j a.b.toNat (gi e.ss a.a.toNat + a.g))) = false := hd
    rw [Bool.not_eq_false', decide_eq_true_eq] at hd'
    intro r hx
    rcases List.mem_append.1 (show r ∈ e.lg ++ [_] from hx) with hx | hx
    · exact h r hx
    · rw [List.mem_singleton] at hx
      subst hx
      exact hd'
theorem raise_dead {j : Jb} {L : List Af} (h : OkJ j) (hL : ∀ a ∈ L, LkOk j.ts.length a) {a : Af} (ha : a ∈ L) {e : Es} (h0 : e.dd = false) (hd : (raiseE j a e).dd = true) : ∃ r, (raiseE j a e).lg = e.lg ++ [r] ∧ r.st = -1 := by
  obtain ⟨a1, a2, a3, a4, _⟩ := hL a ha
  cases hc : canE a e
  · rw [raise_no hc, h0] at hd; cases hd
  · have hr : raiseE j a e = setE j a.b.toNat a.a (gi e.ss a.a.toNat + a.g) e := by unfold raiseE; rw [hc, if_pos rfl]
    rw [hr] at hd ⊢
    have hd' : (!decide (0 ≤ setN j a.b.toNat (gi e.ss a.a.toNat + a.g))) = true := hd
    rw [Bool.not_eq_true', decide_eq_false_iff_not] at hd'
    refine ⟨_, rfl, ?_⟩
    rcases setN_rng h (i := a.b.toNat) (by omega) (gi e.ss a.a.toNat + a.g) with q | q
    · exact q
    · omega
structure OI (j : Jb) (L : List Af) (e : Es) (P : Nat) (ag : Bool) : Prop where
  ei : EI j L e
  dd : e.dd = false
  pos : ∀ i, i < j.ts.length → 0 ≤ stO e.lg i
  st : ∀ r ∈ e.lg, 0 ≤ r.st
  len : e.lg.length ≤ j.ts.length + P * L.length
  bt : ag = true → Btw j.ts (lkL L) j.ts.length (stO e.lg) P
  fin : ag = false → ∀ x ∈ lkL L, stO e.lg x.a + x.g ≤ stO e.lg x.b
  mx : P ≤ 19300
structure PI (j : Jb) (L : List Af) (o : Nat → Int) (P q : Nat) (e : Es) (ag : Bool) : Prop where
  ei : EI j L e
  dd : e.dd = false
  pos : ∀ i, i < j.ts.length → 0 ≤ stO e.lg i
  st : ∀ r ∈ e.lg, 0 ≤ r.st
  len : e.lg.length ≤ j.ts.length + P * L.length + q
  ip : InP j.ts (lkL L) o q (stO e.lg) ag
section
variable {j : Jb} {L : List Af} (h : OkJ j) (hL : ∀ a ∈ L, LkOk j.ts.length a)
include h hL
omit h hL in
theorem oi_zero : (∀ i, i < j.ts.length → 0 ≤ setN j i 0) → OI j L (e1 j j.ts.length) 0 true := fun hp => by
  have h1 := e1_ok (L := L) j.ts.length (Nat.le_refl _) hp
  exact ⟨h1.toEI, h1.dd, h1.pos, fun r hr => (h1.bef r hr).2, by rw [h1.len']; omega, fun _ => btw_zero _ _ _ _, fun q => (by cases q), by omega⟩
theorem pi_step {o : Nat → Int} {P q : Nat} {e : Es} {ag : Bool} (hp : PI j L o P q e ag) (hq : q < L.length) {a : Af} (ha : L.getD q dAf = a) (hd : (raiseE j a e).dd = false) : PI j L o P (q + 1) (raiseE j a e) (raiseB j a e || ag) := by
  have hm : a ∈ L := by rw [← ha]; exact getD_mem' dAf L q hq
  obtain ⟨e1, e2, e3⟩ := (raise_eng h hL hp.ei hm hp.pos hp.dd).2 hd
  refine ⟨raise_ei hL hp.ei hm hp.pos, hd, e3, raise_st hd hp.st, ?_, ?_⟩
  · have := hp.len
    have := raise_len (j := j) (a := a) (e := e)
    omega
  · rw [e2]
    refine inp_step hp.ip ?_ ?_ e1
    · rw [List.getElem?_map]
      have : L[q]? = some a := by
        rw [List.getElem?_eq_getElem hq]
        congr 1
        rw [← ha]
        simp [List.getD, List.getElem?_eq_getElem hq]
      rw [this]; rfl
    · obtain ⟨a1, a2, a3, a4, _⟩ := hL a hm
      show a.b.toNat < _
      omega
omit hL in
theorem oi_bound {e : Es} {P : Nat} (ho : OI j L e P true) : P ≤ 19224 := by
  have hb := btw_max (ho.bt rfl) (W := 32) h.w
  have hn := h.n
  have h1 : j.ts.length * 32 * (j.ts.length + 1) ≤ 24 * 32 * 25 := Nat.mul_le_mul (Nat.mul_le_mul_right _ hn) (by omega)
  omega
theorem oi_next (hc : ∀ x s c, Wx (lkL L) x x s c → 0 < c → c ≤ j.ts.length → s ≤ 0) {e e' : Es} {P : Nat} {ag : Bool} (ho : OI j L e P true) (hp : PI j L (stO e.lg) P L.length e' ag) : OI j L e' (P + 1) ag := by
  have hb := oi_bound h ho
  have hip := hp.ip
  rw [show L.length = (lkL L).length by rw [List.length_map]] at hip
  refine ⟨hp.ei, hp.dd, hp.pos, hp.st, ?_, fun q => ?_, fun q => ?_, by omega⟩
  · have := hp.len
    rw [Nat.add_mul]
    omega
  · subst q
    exact btw_step (lk_in hL) hc (ho.bt rfl) hip
  · subst q
    obtain ⟨q1, q2⟩ := inp_end hip
    rw [q1]; exact q2
omit h hL in
theorem oi_end {e : Es} {P : Nat} (ho : OI j L e P false) : ∀ a ∈ L, stO e.lg a.a.toNat + a.g ≤ stO e.lg a.b.toNat := fun a ha => ho.fin rfl (lkO a) (List.mem_map.2 ⟨a, ha, rfl⟩)
end
end Go.Proofs.Ytoiohkjomcbadaa

namespace Go.Proofs.Ytoiohkjomcbadaa
open Go Sy
set_option maxRecDepth 100000
set_option maxHeartbeats 4000000
set_option linter.unusedVariables false
set_option linter.unusedSimpArgs false
structure RunOk (j : Jb) (L : List Af) (ok : Bool) (e : Es) : Prop where
  ei : EI j L e
  len : e.lg.length ≤ 10000000
  ys : ok = true → (∀ i, i < j.ts.length → 0 ≤ stO e.lg i) ∧ (∀ a ∈ L, stO e.lg a.a.toNat + a.g ≤ stO e.lg a.b.toNat) ∧ ∀ r ∈ e.lg, 0 ≤ r.st
  no : ok = false → (¬ ∃ p, Rgt j.ts L p) ∧ ∃ lg r, e.lg = lg ++ [r] ∧ r.st = -1 ∧ ∀ x ∈ lg, 0 ≤ x.st
theorem i71 (b : Nat) (j : Jb) (L : List Af) (h : OkJ j) (hL : ∀ a ∈ L, LkOk j.ts.length a) (hll : L.length ≤ 240) (hc : ∀ x s c, Wx (lkL L) x x s c → 0 < c → c ≤ j.ts.length → s ≤ 0) {tm : List (Nat × AV)} {R : Mem} {nx : Nat} (hR : Opq 60 R nx) :
    Inl Try.prog 71 [.own 14 0] ⟨tm, engE b j L (e1 j 0) ++ R, nx⟩ (MidX 60 tm nx R fun r B' => ∃ ok e, r = bv ok ∧ B' = engE b j L e ∧ RunOk j L ok e) := by
  refine Inl_opq mixed Xt71 rfl hR (engM_bas b j L _ _ _) (fun R' nx' hR' => ?_)
  have hN := hR'.n
  have hn := h.n
  have hs0 : (e1 j 0).ss.length = j.ts.length := (e1_ok (L := L) 0 (by omega) (fun i hi => by omega)).len
  obtain ⟨KK, hKK⟩ : ∃ KK : AV → Mem → Prop, KK = fun r B' => ∃ ok e, r = bv ok ∧ B' = engE b j L e ∧ RunOk j L ok e := ⟨_, rfl⟩
  rw [← hKK]
  have fin : ∀ (s' : S) (ok : Bool) (e : Es) (R2 : Mem), lk s'.tm 2 = bv ok → sameM (engE b j L e ++ R2) s'.mem → Ext nx' R' s'.nx R2 → RunOk j L ok e → FinX 60 [.t 2] nx' R' KK .r s' := fun s' ok e R2 h1 h2 h3 h4 =>
    ⟨[bv ok], _, R2, ⟨h1.symm, rfl⟩, h2, engM_bas _ _ _ _ _ _, h3, by rw [hKK]; exact ⟨ok, e, rfl, rfl, h4⟩⟩
  clear hKK
  have hsn : ∀ k, (e1 j k).ss.length = j.ts.length := fun k => by
    induction k with
    | zero => exact hs0
    | succ k ih => show ((e1 j k).ss.set k (setN j k 0)).length = _; rw [List.length_set, ih]
  have hln : ∀ k, (e1 j k).lg.length = k := fun k => by
    induction k with
    | zero => rfl
    | succ k ih => show ((e1 j k).lg ++ [_]).length = _; rw [List.length_append, ih]; rfl
  obtain ⟨e, he⟩ : ∃ e, e = e1 j 0 := ⟨_, rfl⟩
  rw [← he] at hs0 ⊢
  simp (maxSteps := 400000) (disch := omega) only [push_cast, ↓reduceIte, reduceCtorEq, Nat.reduceAdd, Nat.reduceSub, Nat.reduceEqDiff, Nat.reduceLeDiff, Nat.reduceLT, Nat.reduceBEq, Nat.reduceDiv, Nat.reduceMod, Nat.reducePow, Nat.reduceMul, Int.reduceToNat, Int.reduceLT, Int.reduceLE, initT, engM, List.cons_append, List.nil_append]
  repeat' (first | refine w1g ?_ | refine w1l ?_ | refine w1q ?_ | refine w1b ?_ | refine w1p ?_ | ((first | refine w1r ?_ | refine w1k ?_ | refine w1e ?_); simp (maxSteps := 400000) (disch := omega) only [push_cast, ↓reduceIte, reduceCtorEq, Nat.reduceAdd, Nat.reduceSub, Nat.reduceEqDiff, Nat.reduceLeDiff, Nat.reduceLT, Nat.reduceBEq, Nat.reduceDiv, Nat.reduceMod, Nat.reducePow, Nat.reduceMul, Int.reduceToNat, Int.reduceLT, Int.reduceLE, ne_l, ne_r, hs0]) | refine an2 ?_ | fail)
  refine W_loopX 60 (fun k : Nat => [(12, iv k)]) (fun k => engE b j L (e1 j k)) (fun k => k ≤ j.ts.length ∧ ∀ i, i < k → 0 ≤ setN j i 0) (fun k => j.ts.length - k) (fun k _ => engM_bas _ _ _ _ _ _) (hR'.le (show nx' ≤ nx' + 7 by omega)) 0 ⟨by omega, fun i hi => by omega⟩ (by rfl) (by rw [← he]; exact sameM.refl _) (fun k R1 nx1 hk hX => ?_)
  obtain ⟨hkn, hpos⟩ := hk
  have hX' : Ext nx' R' nx1 R1 := ((Ext.refl hR').up (show nx' ≤ nx' + 7 by omega)).trans hX
  have hN1 := (hX'.opq hR').n
  have hI := fun (hlt : k < j.ts.length) (tm : List (Nat × AV)) (R2 : Mem) (nx2 : Nat) (hR2 : Opq 60 R2 nx2) => i113 b j L (e1 j k).ss (e1 j k).lg (e1 j k).dd h k (-1) 0 hlt (hsn k) (by rw [hln]; omega) (by omega) (tm := tm) hR2
  clear he hs0
  simp (maxSteps := 400000) (disch := omega) only [push_cast, ↓reduceIte, reduceCtorEq, Nat.reduceAdd, Nat.reduceSub, Nat.reduceEqDiff, Nat.reduceLeDiff, Nat.reduceLT, Nat.reduceBEq, Nat.reduceDiv, Nat.reduceMod, Nat.reducePow, Nat.reduceMul, Int.reduceToNat, Int.reduceLT, Int.reduceLE, keepL]
  repeat' (first | refine w1g ?_ | refine w1l ?_ | refine w1q ?_ | refine w1b ?_ | refine w1p ?_ | ((first | refine w1r ?_ | refine w1k ?_ | refine w1e ?_); simp (maxSteps := 400000) (disch := omega) only [push_cast, ↓reduceIte, reduceCtorEq, Nat.reduceAdd, Nat.reduceSub, Nat.reduceEqDiff, Nat.reduceLeDiff, Nat.reduceLT, Nat.reduceBEq, Nat.reduceDiv, Nat.reduceMod, Nat.reducePow, Nat.reduceMul, Int.reduceToNat, Int.reduceLT, Int.reduceLE, keepL]) | refine an2 ?_ | fail)
  refine W_condD (by rfl) (fun h5 => ?_) (fun h5 => ?_)
  · have hlt : k < j.ts.length := by omega
    have hdead := fun q => e1_dead (L := L) h hL hlt hpos q
    have hs1 : (e1 j (k + 1)) = setE j k (-1) 0 (e1 j k) := rfl
    have hdd : (e1 j (k + 1)).dd = !decide (0 ≤ setN j k 0) := rfl
    have hl1 : (e1 j (k + 1)).lg = (e1 j k).lg ++ [⟨k, -1, 0, setN j k 0⟩] := rfl
    repeat' (first | refine w1g ?_ | refine w1l ?_ | refine w1q ?_ | refine w1b ?_ | refine w1p ?_ | ((first | refine w1r ?_ | refine w1k ?_ | refine w1e ?_); simp (maxSteps := 400000) (disch := omega) only [push_cast, ↓reduceIte, reduceCtorEq, Nat.reduceAdd, Nat.reduceSub, Nat.reduceEqDiff, Nat.reduceLeDiff, Nat.reduceLT, Nat.reduceBEq, Nat.reduceDiv, Nat.reduceMod, Nat.reducePow, Nat.reduceMul, Int.reduceToNat, Int.reduceLT, Int.reduceLE, keepL]) | refine an2 ?_ | fail)
    refine CallC.inl (Inl_le' (hI hlt _ R1 _ ((hX'.opq hR').le (by omega))) (fun r s' hs2 => ?_))
    obtain ⟨B', R2, nx2, hB', hX2, ⟨rfl, hBe⟩, hl⟩ := hs2
    refine ⟨_, ?_, hl⟩
    have hBe2 : B' = engE b j L (e1 j (k + 1)) := hBe
    clear hI hBe hl
    subst hBe2
    (refine sy1 ?_; try exact True.intro)
    by_cases hp : 0 ≤ setN j k 0
    · rw [decide_eq_true hp]
      refine W_cond (by rfl) (fun h => by cases h) (fun _ => ?_)
      repeat' (first | refine w1g ?_ | refine w1l ?_ | refine w1q ?_ | refine w1b ?_ | refine w1p ?_ | ((first | refine w1r ?_ | refine w1k ?_ | refine w1e ?_); simp (maxSteps := 400000) (disch := omega) only [push_cast, ↓reduceIte, reduceCtorEq, Nat.reduceAdd, Nat.reduceSub, Nat.reduceEqDiff, Nat.reduceLeDiff, Nat.reduceLT, Nat.reduceBEq, Nat.reduceDiv, Nat.reduceMod, Nat.reducePow, Nat.reduceMul, Int.reduceToNat, Int.reduceLT, Int.reduceLE, keepL]) | refine an2 ?_ | fail)
      refine ⟨k + 1, R2, ⟨by omega, up_all hpos hp⟩, by omega, by rfl, sameM.refl _, ?_⟩
      exact (hX2.dn (by omega)).up (by first | omega | (dsimp only; omega))
    · rw [decide_eq_false hp]
      refine W_cond (by rfl) (fun _ => ?_) (fun h => by cases h)
      repeat' (first | refine w1g ?_ | refine w1l ?_ | refine w1q ?_ | refine w1b ?_ | refine w1p ?_ | ((first | refine w1r ?_ | refine w1k ?_ | refine w1e ?_); simp (maxSteps := 400000) (disch := omega) only [push_cast, ↓reduceIte, reduceCtorEq, Nat.reduceAdd, Nat.reduceSub, Nat.reduceEqDiff, Nat.reduceLeDiff, Nat.reduceLT, Nat.reduceBEq, Nat.reduceDiv, Nat.reduceMod, Nat.reducePow, Nat.reduceMul, Int.reduceToNat, Int.reduceLT, Int.reduceLE, keepL]) | refine an2 ?_ | fail)
      obtain ⟨d1, d2⟩ := hdead (by omega)
      have h1 := e1_ok (L := L) k (by omega) hpos
      refine W_ret ?_
      refine fin _ false (e1 j (k + 1)) R2 (by rfl) (by exact sameM.refl _) ((hX'.trans (hX2.dn (by omega))).up (by first | omega | (dsimp only; omega))) ⟨⟨?_, d1⟩, by rw [hln]; omega, fun q => (by cases q), fun _ => ⟨d2, _, _, hl1, ?_, fun x hx => (h1.bef x hx).2⟩⟩
      · rw [hs1]
        show (e1 j k).ss.set k (setN j k 0) = lsF _ (stO ((e1 j k).lg ++ [⟨k, -1, 0, setN j k 0⟩]))
        rw [stO_snoc, h1.ss, lsF_set (by omega)]
      · rcases setN_rng h hlt 0 with q | q
        · exact q
        · omega
  obtain rfl : k = j.ts.length := by omega
  have hO := oi_zero (L := L) hpos
  generalize e1 j j.ts.length = e0 at *
  clear hI hsn hln hpos hkn h5
  repeat' (first | refine w1g ?_ | refine w1l ?_ | refine w1q ?_ | refine w1b ?_ | refine w1p ?_ | ((first | refine w1r ?_ | refine w1k ?_ | refine w1e ?_); simp (maxSteps := 400000) (disch := omega) only [push_cast, ↓reduceIte, reduceCtorEq, Nat.reduceAdd, Nat.reduceSub, Nat.reduceEqDiff, Nat.reduceLeDiff, Nat.reduceLT, Nat.reduceBEq, Nat.reduceDiv, Nat.reduceMod, Nat.reducePow, Nat.reduceMul, Int.reduceToNat, Int.reduceLT, Int.reduceLE, keepL]) | refine an2 ?_ | fail)
  refine W_loopX 60 (fun u : Es × Nat × Bool => [(4, bv u.2.2)]) (fun u => engE b j L u.1) (fun u => OI j L u.1 u.2.1 u.2.2) (fun u => if u.2.2 = true then 19300 - u.2.1 else 0) (fun u _ => engM_bas _ _ _ _ _ _) ((hX'.opq hR').le (show nx1 ≤ nx1 + 2 by omega)) (e0, 0, true) hO (by rfl) (sameM.refl _) (fun u R2 nx2 hu hX2 => ?_)
  obtain ⟨e, P, ag⟩ := u
  dsimp only at hu ⊢
  have hX3 : Ext nx' R' nx2 R2 := (hX'.up (show nx1 ≤ nx1 + 2 by omega)).trans hX2
  clear hX2 hX' hX hO e0 R1 nx1 hN1
  simp (maxSteps := 400000) (disch := omega) only [push_cast, ↓reduceIte, reduceCtorEq, Nat.reduceAdd, Nat.reduceSub, Nat.reduceEqDiff, Nat.reduceLeDiff, Nat.reduceLT, Nat.reduceBEq, Nat.reduceDiv, Nat.reduceMod, Nat.reducePow, Nat.reduceMul, Int.reduceToNat, Int.reduceLT, Int.reduceLE, keepL]
  repeat' (first | refine w1g ?_ | refine w1l ?_ | refine w1q ?_ | refine w1b ?_ | refine w1p ?_ | ((first | refine w1r ?_ | refine w1k ?_ | refine w1e ?_); simp (maxSteps := 400000) (disch := omega) only [push_cast, ↓reduceIte, reduceCtorEq, Nat.reduceAdd, Nat.reduceSub, Nat.reduceEqDiff, Nat.reduceLeDiff, Nat.reduceLT, Nat.reduceBEq, Nat.reduceDiv, Nat.reduceMod, Nat.reducePow, Nat.reduceMul, Int.reduceToNat, Int.reduceLT, Int.reduceLE, keepL]) | refine an2 ?_ | fail)
  cases ag
  · refine W_cond (by rfl) (fun h => by cases h) (fun _ => ?_)
    repeat' (first | refine w1g ?_ | refine w1l ?_ | refine w1q ?_ | refine w1b ?_ | refine w1p ?_ | ((first | refine w1r ?_ | refine w1k ?_ | refine w1e ?_); simp (maxSteps := 400000) (disch := omega) only [push_cast, ↓reduceIte, reduceCtorEq, Nat.reduceAdd, Nat.reduceSub, Nat.reduceEqDiff, Nat.reduceLeDiff, Nat.reduceLT, Nat.reduceBEq, Nat.reduceDiv, Nat.reduceMod, Nat.reducePow, Nat.reduceMul, Int.reduceToNat, Int.reduceLT, Int.reduceLE, keepL]) | refine an2 ?_ | fail)
    refine W_ret ?_
    refine fin _ true e R2 (by rfl) (by exact sameM.refl _) (hX3.up (by first | omega | (dsimp only; omega))) ⟨hu.ei, ?_, fun _ => ⟨hu.pos, oi_end hu, hu.st⟩, fun q => (by cases q)⟩
    have h1 := hu.len
    have h2 := hu.mx
    have h3 : P * L.length ≤ 19300 * 240 := Nat.mul_le_mul h2 hll
    omega
  refine W_cond (by rfl) (fun _ => ?_) (fun h => by cases h)
  have hbd := oi_bound h hu
  have hp0 : PI j L (stO e.lg) P 0 e false := ⟨hu.ei, hu.dd, hu.pos, hu.st, by have := hu.len; omega, inp_zero _ _ _⟩
  have hne := fun e' ag' hp => oi_next h hL hc hu (e' := e') (ag := ag') hp
  have hN2 := (hX3.opq hR').n
  simp (maxSteps := 400000) (disch := omega) only [push_cast, ↓reduceIte, reduceCtorEq, Nat.reduceAdd, Nat.reduceSub, Nat.reduceEqDiff, Nat.reduceLeDiff, Nat.reduceLT, Nat.reduceBEq, Nat.reduceDiv, Nat.reduceMod, Nat.reducePow, Nat.reduceMul, Int.reduceToNat, Int.reduceLT, Int.reduceLE, engM, List.cons_append, List.nil_append]
  repeat' (first | refine w1g ?_ | refine w1l ?_ | refine w1q ?_ | refine w1b ?_ | refine w1p ?_ | ((first | refine w1r ?_ | refine w1k ?_ | refine w1e ?_); simp (maxSteps := 400000) (disch := omega) only [push_cast, ↓reduceIte, reduceCtorEq, Nat.reduceAdd, Nat.reduceSub, Nat.reduceEqDiff, Nat.reduceLeDiff, Nat.reduceLT, Nat.reduceBEq, Nat.reduceDiv, Nat.reduceMod, Nat.reducePow, Nat.reduceMul, Int.reduceToNat, Int.reduceLT, Int.reduceLE, keepL, ne_l, ne_r]) | refine an2 ?_ | fail)
  refine W_loopX 60 (fun v : Nat × Es × Bool => [(4, bv v.2.2), (26, iv v.1)]) (fun v => engE b j L v.2.1) (fun v => v.1 ≤ L.length ∧ PI j L (stO e.lg) P v.1 v.2.1 v.2.2) (fun v => L.length - v.1) (fun v _ => engM_bas _ _ _ _ _ _) ((hX3.opq hR').le (show nx2 ≤ nx2 + 9 by omega)) (0, e, false) ⟨by dsimp only; omega, hp0⟩ (by rfl) (sameM.refl _) (fun v R3 nx3 hv hX4 => ?_)
  obtain ⟨q, f, ag⟩ := v
  obtain ⟨hq, hp⟩ := hv
  dsimp only at hq hp ⊢
  have hX5 : Ext nx' R' nx3 R3 := (hX3.up (show nx2 ≤ nx2 + 9 by omega)).trans hX4
  have hN3 := (hX5.opq hR').n
  clear hX3 hN2 hp0
  have hfl := hp.ei.len
  simp (maxSteps := 400000) (disch := omega) only [push_cast, ↓reduceIte, reduceCtorEq, Nat.reduceAdd, Nat.reduceSub, Nat.reduceEqDiff, Nat.reduceLeDiff, Nat.reduceLT, Nat.reduceBEq, Nat.reduceDiv, Nat.reduceMod, Nat.reducePow, Nat.reduceMul, Int.reduceToNat, Int.reduceLT, Int.reduceLE, keepL]
  repeat' (first | refine w1g ?_ | refine w1l ?_ | refine w1q ?_ | refine w1b ?_ | refine w1p ?_ | ((first | refine w1r ?_ | refine w1k ?_ | refine w1e ?_); simp (maxSteps := 400000) (disch := omega) only [push_cast, ↓reduceIte, reduceCtorEq, Nat.reduceAdd, Nat.reduceSub, Nat.reduceEqDiff, Nat.reduceLeDiff, Nat.reduceLT, Nat.reduceBEq, Nat.reduceDiv, Nat.reduceMod, Nat.reducePow, Nat.reduceMul, Int.reduceToNat, Int.reduceLT, Int.reduceLE, keepL]) | refine an2 ?_ | fail)
  refine W_condD (by rfl) (fun h6 => ?_) (fun h6 => ?_)
  · have hql : q < L.length := by omega
    obtain ⟨a, ha⟩ : ∃ a, L.getD q dAf = a := ⟨_, rfl⟩
    have ham : a ∈ L := by rw [← ha]; exact getD_mem' dAf L q hql
    have hst := fun hd => pi_step h hL hp hql ha hd
    have hrl := raise_len (j := j) (a := a) (e := f)
    have hei := raise_ei hL hp.ei ham hp.pos
    have hdn := (raise_eng h hL hp.ei ham hp.pos hp.dd).1
    have hdd := raise_dead h hL ham hp.dd
    have hflen : f.lg.length ≤ 5000000 := by
      have h1 := hp.len
      have h3 : P * L.length ≤ 19300 * 240 := Nat.mul_le_mul (by omega) hll
      omega
    have hI := fun (tm : List (Nat × AV)) (R2 : Mem) (nx2 : Nat) (hR2 : Opq 60 R2 nx2) => i112 b j L f h a (hL a ham) hfl (fun i hi => by rw [hp.ei.get hi]; exact log_rng h hL hp.ei.lg i) (by omega) (tm := tm) hR2
    simp (maxSteps := 400000) (disch := omega) only [push_cast, ↓reduceIte, reduceCtorEq, Nat.reduceAdd, Nat.reduceSub, Nat.reduceEqDiff, Nat.reduceLeDiff, Nat.reduceLT, Nat.reduceBEq, Nat.reduceDiv, Nat.reduceMod, Nat.reducePow, Nat.reduceMul, Int.reduceToNat, Int.reduceLT, Int.reduceLE, engM, List.cons_append, List.nil_append]
    repeat' (first | refine w1g ?_ | refine w1l ?_ | refine w1q ?_ | refine w1b ?_ | refine w1p ?_ | ((first | refine w1r ?_ | refine w1k ?_ | refine w1e ?_); simp (maxSteps := 400000) (disch := omega) only [push_cast, ↓reduceIte, reduceCtorEq, Nat.reduceAdd, Nat.reduceSub, Nat.reduceEqDiff, Nat.reduceLeDiff, Nat.reduceLT, Nat.reduceBEq, Nat.reduceDiv, Nat.reduceMod, Nat.reducePow, Nat.reduceMul, Int.reduceToNat, Int.reduceLT, Int.reduceLE, keepL, ne_l, ne_r, ha]) | refine an2 ?_ | fail)
    refine CallC.inl (Inl_sameM (engE b j L f ++ R3) _ (sameM.refl _) (((hX5.opq hR').le (Nat.le_refl _)).mem (engM_bas b j L _ _ _)) (Inl_le' (hI _ R3 _ (hX5.opq hR')) (fun r s' hs2 => ?_)))
    obtain ⟨B', R4, nx4, hB', hX6, ⟨rfl, rfl⟩, hl⟩ := hs2
    refine ⟨_, ?_, hl⟩
    clear hI hl hB'
    generalize raiseE j a f = g at *
    generalize raiseB j a f = rb at *
    have hgl : g.lg.length ≤ 10000000 := by omega
    have hX7 : Ext nx' R' nx4 R4 := hX5.trans hX6
    have hN4 := (hX7.opq hR').n
    simp (maxSteps := 400000) (disch := omega) only [push_cast, ↓reduceIte, reduceCtorEq, Nat.reduceAdd, Nat.reduceSub, Nat.reduceEqDiff, Nat.reduceLeDiff, Nat.reduceLT, Nat.reduceBEq, Nat.reduceDiv, Nat.reduceMod, Nat.reducePow, Nat.reduceMul, Int.reduceToNat, Int.reduceLT, Int.reduceLE, engM, List.cons_append, List.nil_append]
    repeat' (first | refine w1g ?_ | refine w1l ?_ | refine w1q ?_ | refine w1b ?_ | refine w1p ?_ | ((first | refine w1r ?_ | refine w1k ?_ | refine w1e ?_); simp (maxSteps := 400000) (disch := omega) only [push_cast, ↓reduceIte, reduceCtorEq, Nat.reduceAdd, Nat.reduceSub, Nat.reduceEqDiff, Nat.reduceLeDiff, Nat.reduceLT, Nat.reduceBEq, Nat.reduceDiv, Nat.reduceMod, Nat.reducePow, Nat.reduceMul, Int.reduceToNat, Int.reduceLT, Int.reduceLE, keepL, ne_l, ne_r]) | refine an2 ?_ | fail)
    cases hgd : g.dd
    · refine W_cond (by rfl) (fun h => by cases h) (fun _ => ?_)
      repeat' (first | refine w1g ?_ | refine w1l ?_ | refine w1q ?_ | refine w1b ?_ | refine w1p ?_ | ((first | refine w1r ?_ | refine w1k ?_ | refine w1e ?_); simp (maxSteps := 400000) (disch := omega) only [push_cast, ↓reduceIte, reduceCtorEq, Nat.reduceAdd, Nat.reduceSub, Nat.reduceEqDiff, Nat.reduceLeDiff, Nat.reduceLT, Nat.reduceBEq, Nat.reduceDiv, Nat.reduceMod, Nat.reducePow, Nat.reduceMul, Int.reduceToNat, Int.reduceLT, Int.reduceLE, keepL]) | refine an2 ?_ | fail)
      refine ⟨(q + 1, g, rb || ag), R4, ⟨by dsimp only; omega, hst hgd⟩, by dsimp only; omega, by rfl, ?_, (hX6.up (by first | omega | (dsimp only; omega)))⟩
      show sameM (engM b j L g.ss g.lg g.dd ++ R4) _
      rw [hgd]
      exact sameM.refl _
    · refine W_cond (by rfl) (fun _ => ?_) (fun h => by cases h)
      repeat' (first | refine w1g ?_ | refine w1l ?_ | refine w1q ?_ | refine w1b ?_ | refine w1p ?_ | ((first | refine w1r ?_ | refine w1k ?_ | refine w1e ?_); simp (maxSteps := 400000) (disch := omega) only [push_cast, ↓reduceIte, reduceCtorEq, Nat.reduceAdd, Nat.reduceSub, Nat.reduceEqDiff, Nat.reduceLeDiff, Nat.reduceLT, Nat.reduceBEq, Nat.reduceDiv, Nat.reduceMod, Nat.reducePow, Nat.reduceMul, Int.reduceToNat, Int.reduceLT, Int.reduceLE, keepL]) | refine an2 ?_ | fail)
      refine W_ret ?_
      obtain ⟨r, hr1, hr2⟩ := hdd hgd
      refine fin _ false g R4 (by rfl) ?_ (hX7.up (by first | omega | (dsimp only; omega))) ⟨hei, hgl, fun q => (by cases q), fun _ => ⟨hdn hgd, _, _, hr1, hr2, hp.st⟩⟩
      show sameM (engM b j L g.ss g.lg g.dd ++ R4) _
      rw [hgd]
      exact sameM.refl _
  · obtain rfl : q = L.length := by omega
    have hne := hne _ _ hp
    repeat' (first | refine w1g ?_ | refine w1l ?_ | refine w1q ?_ | refine w1b ?_ | refine w1p ?_ | ((first | refine w1r ?_ | refine w1k ?_ | refine w1e ?_); simp (maxSteps := 400000) (disch := omega) only [push_cast, ↓reduceIte, reduceCtorEq, Nat.reduceAdd, Nat.reduceSub, Nat.reduceEqDiff, Nat.reduceLeDiff, Nat.reduceLT, Nat.reduceBEq, Nat.reduceDiv, Nat.reduceMod, Nat.reducePow, Nat.reduceMul, Int.reduceToNat, Int.reduceLT, Int.reduceLE, keepL]) | refine an2 ?_ | fail)
    refine ⟨(f, P + 1, ag), R3, hne, ?_, by rfl, sameM.refl _, ?_⟩
    · dsimp only
      split <;> omega
    · exact (hX4.dn (by omega)).up (by first | omega | (dsimp only; omega))
end Go.Proofs.Ytoiohkjomcbadaa

namespace Go.Proofs.Ytoiohkjomcbadaa
open Go Sy
set_option maxRecDepth 100000
set_option maxHeartbeats 4000000
set_option linter.unusedVariables false
set_option linter.unusedSimpArgs false
open Classical in
noncomputable def erlB (j : Jb) (L : List Af) : Bool := decide (∃ p, Rgt j.ts L p)
open Classical in
noncomputable def lstP (j : Jb) (L : List Af) : Nat → Int := if h : ∃ p, Rgt j.ts L p ∧ Low j.ts L p then Classical.choose h else fun _ => 0
noncomputable def erlL (j : Jb) (L : List Af) : List Int := if erlB j L = true then lsF j.ts.length (lstP j L) else []
theorem erl_yes {j : Jb} {L : List Af} {q : Nat → Int} (h1 : Rgt j.ts L q) (h2 : Low j.ts L q) : erlB j L = true ∧ erlL j L = lsF j.ts.length q ∧ Rgt j.ts L (lstP j L) ∧ Low j.ts L (lstP j L) := by
  have hb : erlB j L = true := by unfold erlB; exact @decide_eq_true _ (Classical.propDecidable _) ⟨q, h1⟩
  have hx : ∃ p, Rgt j.ts L p ∧ Low j.ts L p := ⟨q, h1, h2⟩
  have hs : Rgt j.ts L (lstP j L) ∧ Low j.ts L (lstP j L) := by
    unfold lstP
    rw [dif_pos hx]
    exact Classical.choose_spec hx
  refine ⟨hb, ?_, hs⟩
  unfold erlL
  rw [if_pos hb]
  exact lsF_congr fun i hi => low_end hs.2 hs.1 h2 h1 i hi
theorem erl_no {j : Jb} {L : List Af} (h : ¬ ∃ p, Rgt j.ts L p) : erlB j L = false ∧ erlL j L = [] := by
  have hb : erlB j L = false := by unfold erlB; exact @decide_eq_false _ (Classical.propDecidable _) h
  refine ⟨hb, ?_⟩
  unfold erlL
  rw [hb, if_neg (by decide)]
theorem run_yes {j : Jb} {L : List Af} (h : OkJ j) (hL : ∀ a ∈ L, LkOk j.ts.length a) {e : Es} (hr : RunOk j L true e) : Rgt j.ts L (stO e.lg) ∧ Low j.ts L (stO e.lg) := by
  obtain ⟨h1, h2, _⟩ := hr.ys rfl
  exact ⟨⟨fun i hi => log_fit h hr.ei.lg i hi (h1 i hi), h2⟩, (log_low h hL hr.ei.lg).1⟩
theorem can_no {j : Jb} {L : List Af} (hL : ∀ a ∈ L, LkOk j.ts.length a) (hc : Can (lkL L) (rnds (lkL L) (fun _ => 0) j.ts.length)) : ¬ ∃ p, Rgt j.ts L p := fun ⟨p, hp⟩ => by
  refine bf_stop (p := p) (fun e he => ?_) (lk_in hL) (Nat.le_succ j.ts.length) hc
  obtain ⟨a, ha, rfl⟩ := List.mem_map.1 he
  exact hp.l a ha
theorem can_none {j : Jb} {L : List Af} (hL : ∀ a ∈ L, LkOk j.ts.length a) (hc : ¬ Can (lkL L) (rnds (lkL L) (fun _ => 0) j.ts.length)) : ∀ x s c, Wx (lkL L) x x s c → 0 < c → c ≤ j.ts.length → s ≤ 0 := fun x s c hw h0 hn => by
  rcases Int.lt_or_le 0 s with q | q
  · exact absurd ((can_iff (lk_in hL) (Nat.le_succ j.ts.length)).2 ⟨x, s, c, hw, h0, hn, q⟩) hc
  · exact q
theorem lks_lk' {j : Jb} {o : List (List Int)} (h : OkO j o) : ∀ e ∈ lks j o, LkOk j.ts.length e := fun e he => by
  obtain ⟨h1, h2, h3, h4, h5, h6, h7⟩ := lks_ok h e he
  exact ⟨h1, h2, h3, h4, h6, h7⟩
theorem fn50 (j : Jb) (o : List (List Int)) (h : OkO j o) : Sy.Fn Try.prog 50 [aJ j, aO o] (.tup [aI (erlL j (lks j o)), bv (erlB j (lks j o))]) := by
  refine Fn_of_W mixed Xt50 rfl ?_
  have c52 := fn52 j o h
  have hn := h.n
  have hcJ : cJ j = [aT j.ts, aA j.af, aI j.tm] := rfl
  have hLL := lks_lk' h
  repeat (first | refine w1g ?_ | refine w1l ?_ | refine w1q ?_ | refine w1b ?_)
  refine w1r ?_
  (refine sy1 ?_; try exact True.intro)
  repeat (refine w1g ?_)
  refine W_gc [1, 2] [] 0 (by rfl) ?_
  simp (maxSteps := 400000) (disch := omega) only [push_cast, ↓reduceIte, reduceCtorEq, Nat.reduceAdd, Nat.reduceSub, Nat.reduceEqDiff, Nat.reduceLeDiff, Nat.reduceLT, Nat.reduceBEq, Nat.reduceDiv, Nat.reduceMod, Nat.reducePow, Nat.reduceMul, Int.reduceToNat, Int.reduceLT, Int.reduceLE, S.norm, List.map_cons, List.map_nil, keepM]
  repeat' (first | refine w1g ?_ | refine w1l ?_ | refine w1q ?_ | refine w1b ?_ | refine w1p ?_ | ((first | refine w1r ?_ | refine w1k ?_ | refine w1e ?_); (refine sy1 ?_; try exact True.intro)) | refine an2 ?_ | fail)
  refine CallC.inl (Inl_of_W mixed Xs69 rfl (fun vs => ?_))
  (refine sy1 ?_; try exact True.intro)
  repeat' (first | refine w1g ?_ | refine w1l ?_ | refine w1q ?_ | refine w1b ?_ | refine w1p ?_ | ((first | refine w1r ?_ | refine w1k ?_ | refine w1e ?_ | refine CallC.now (c52) ?_); (refine sy1 ?_; try exact True.intro)) | refine an2 ?_ | fail)
  refine ⟨rfl, ⟨by omega, by omega, by omega⟩, Int, 0, cI, 0, rfl, rfl, by omega, rfl, ?_⟩
  simp (maxSteps := 400000) (disch := omega) only [push_cast, ↓reduceIte, reduceCtorEq, Nat.reduceAdd, Nat.reduceSub, Nat.reduceEqDiff, Nat.reduceLeDiff, Nat.reduceLT, Nat.reduceBEq, Nat.reduceDiv, Nat.reduceMod, Nat.reducePow, Nat.reduceMul, Int.reduceToNat, Int.reduceLT, Int.reduceLE, Int.toNat_natCast, hcJ, List.cons_append, List.nil_append, List.append_nil, List.take_succ_cons, List.take_zero, List.drop_succ_cons, List.drop_zero, List.drop_nil, List.length_cons, List.length_nil]
  rw [lsF_rep]
  repeat' (first | refine w1g ?_ | refine w1l ?_ | refine w1q ?_ | refine w1b ?_ | refine w1p ?_ | ((first | refine w1r ?_ | refine w1k ?_ | refine w1e ?_); (refine sy1 ?_; try exact True.intro)) | refine an2 ?_ | fail)
  refine W_name 15 (by rfl) (fun b => ?_)
  (refine sy1 ?_; try exact True.intro)
  refine W_le (le_adoptC 14 5 64 4 dRs cR (by omega) _ rfl rfl (by simp)) ?_
  (refine sy1 ?_; try exact True.intro)
  refine W_le (le_adoptC 14 6 29 1 dAf (cCl b) (by omega) _ rfl rfl (by simp)) ?_
  (refine sy1 ?_; try exact True.intro)
  have hl0 := lsF_len j.ts.length (fun _ => 0)
  rw [hl0]
  clear hl0
  rw [f1_zero]
  refine W_loopU (fun i : Nat => [(24, iv i)]) (fun i => [(12, .row 0 2 1 0 cI (lsF j.ts.length (f1 i)))]) (fun i => i ≤ j.ts.length) (fun i => j.ts.length - i) 0 (by omega) (by rfl) (by rfl) (fun i hi => ?_)
  have hli := lsF_len j.ts.length (f1 i)
  (refine sy1 ?_; try exact True.intro)
  repeat' (first | refine w1g ?_ | refine w1l ?_ | refine w1q ?_ | refine w1b ?_ | refine w1p ?_ | ((first | refine w1r ?_ | refine w1k ?_ | refine w1e ?_); (refine sy1 ?_; try exact True.intro)) | refine an2 ?_ | fail)
  refine W_condD (by rfl) (fun h5 => ?_) (fun h5 => ?_)
  · have hset : (lsF j.ts.length (f1 i)).set i (-1) = lsF j.ts.length (f1 (i + 1)) := by rw [lsF_set (by omega), f1_step]
    repeat' (first | refine w1g ?_ | refine w1l ?_ | refine w1q ?_ | refine w1b ?_ | refine w1p ?_ | ((first | refine w1r ?_ | refine w1k ?_ | refine w1e ?_); simp (maxSteps := 400000) (disch := omega) only [push_cast, ↓reduceIte, reduceCtorEq, Nat.reduceAdd, Nat.reduceSub, Nat.reduceEqDiff, Nat.reduceLeDiff, Nat.reduceLT, Nat.reduceBEq, Nat.reduceDiv, Nat.reduceMod, Nat.reducePow, Nat.reduceMul, Int.reduceToNat, Int.reduceLT, Int.reduceLE, hli]) | refine an2 ?_ | fail)
    refine ⟨rfl, ⟨Nat.le_of_ble_eq_true rfl, rfl⟩, by omega, -1, rfl, rfl, ?_⟩
    rw [hset]
    (refine sy1 ?_; try exact True.intro)
    repeat' (first | refine w1g ?_ | refine w1l ?_ | refine w1q ?_ | refine w1b ?_ | refine w1p ?_ | ((first | refine w1r ?_ | refine w1k ?_ | refine w1e ?_); (refine sy1 ?_; try exact True.intro)) | refine an2 ?_ | fail)
    refine ⟨i + 1, by omega, by omega, by rfl, ?_⟩
    (refine syE ?_; try exact True.intro)
  obtain rfl : i = j.ts.length := by omega
  repeat' (first | refine w1g ?_ | refine w1l ?_ | refine w1q ?_ | refine w1b ?_ | refine w1p ?_ | ((first | refine w1r ?_ | refine w1k ?_ | refine w1e ?_); (refine sy1 ?_; try exact True.intro)) | refine an2 ?_ | fail)
  have hll := lks_len h
  generalize lks j o = L at *
  refine W_loopU (fun k : Nat => [(39, iv k)]) (fun k => [(25, .row k 29 1 dAf (cCl b) (L.take k)), (14, .cells [aT j.ts, aA j.af, aI j.tm, .sl 3 dAf cA L, .row 12 0, .row 24 0, .row 25 k, bv false])]) (fun k => k ≤ L.length) (fun k => L.length - k) 0 (by omega) (by rfl) (by rfl) (fun k hk => ?_)
  have htl : (L.take k).length = k := by rw [List.length_take]; omega
  (refine sy1 ?_; try exact True.intro)
  repeat' (first | refine w1g ?_ | refine w1l ?_ | refine w1q ?_ | refine w1b ?_ | refine w1p ?_ | ((first | refine w1r ?_ | refine w1k ?_ | refine w1e ?_); (refine sy1 ?_; try exact True.intro)) | refine an2 ?_ | fail)
  refine W_condD (by rfl) (fun h6 => ?_) (fun h6 => ?_)
  · have hts := take_snoc dAf L k (by omega)
    obtain ⟨a, hga⟩ : ∃ a, L.getD k dAf = a := ⟨_, rfl⟩
    rw [hga] at hts
    refine W_skip ?_
    (refine sy1 ?_; try exact True.intro)
    repeat (first | refine w1g ?_ | refine w1l ?_ | refine w1q ?_ | refine w1b ?_)
    refine w1r ?_
    simp (maxSteps := 400000) (disch := omega) only [push_cast, ↓reduceIte, reduceCtorEq, Nat.reduceAdd, Nat.reduceSub, Nat.reduceEqDiff, Nat.reduceLeDiff, Nat.reduceLT, Nat.reduceBEq, Nat.reduceDiv, Nat.reduceMod, Nat.reducePow, Nat.reduceMul, Int.reduceToNat, Int.reduceLT, Int.reduceLE, hga]
    refine ⟨⟨by omega, by omega⟩, ?_⟩
    repeat (refine w1g ?_)
    refine W_le (le_frz 8 [5, 37, 38, 39] [25, 24, 23, 2, 12, 14, 15] 60 36 0 (cA a) rfl rfl rfl rfl rfl) ?_
    simp (maxSteps := 400000) (disch := omega) only [push_cast, ↓reduceIte, reduceCtorEq, Nat.reduceAdd, Nat.reduceSub, Nat.reduceEqDiff, Nat.reduceLeDiff, Nat.reduceLT, Nat.reduceBEq, Nat.reduceDiv, Nat.reduceMod, Nat.reducePow, Nat.reduceMul, Int.reduceToNat, Int.reduceLT, Int.reduceLE, List.map_cons, List.map_nil, keepM]
    generalize L.take k = T at *
    refine reg69 j L T a b k vs _ (lsF j.ts.length (f1 j.ts.length)) htl (by omega) ?_
    (refine sy1 ?_; try exact True.intro)
    repeat' (first | refine w1g ?_ | refine w1l ?_ | refine w1q ?_ | refine w1b ?_ | refine w1p ?_ | ((first | refine w1r ?_ | refine w1k ?_ | refine w1e ?_); (refine sy1 ?_; try exact True.intro)) | refine an2 ?_ | fail)
    refine ⟨k + 1, by omega, by omega, by rfl, ?_⟩
    rw [hts]
    (refine syE ?_; try exact True.intro)
  obtain rfl : k = L.length := by omega
  rw [List.take_length]
  repeat' (first | refine w1g ?_ | refine w1l ?_ | refine w1q ?_ | refine w1b ?_ | refine w1p ?_ | ((first | refine w1r ?_ | refine w1k ?_ | refine w1e ?_); (refine sy1 ?_; try exact True.intro)) | refine an2 ?_ | fail)
  refine W_ret ⟨[_], _, ⟨rfl, rfl⟩, rfl, ?_⟩
  simp (maxSteps := 400000) (disch := omega) only [push_cast, ↓reduceIte, reduceCtorEq, Nat.reduceAdd, Nat.reduceSub, Nat.reduceEqDiff, Nat.reduceLeDiff, Nat.reduceLT, Nat.reduceBEq, Nat.reduceDiv, Nat.reduceMod, Nat.reducePow, Nat.reduceMul, Int.reduceToNat, Int.reduceLT, Int.reduceLE, pack, delm]
  have hf1 : lsF j.ts.length (f1 j.ts.length) = (e1 j 0).ss := lsF_congr fun i hi => by unfold f1; rw [if_pos hi]
  rw [hf1]
  refine W_gc [2, 6] [25, 24, 23, 12, 14, 15] 60 (by rfl) ?_
  simp (maxSteps := 400000) (disch := omega) only [push_cast, ↓reduceIte, reduceCtorEq, Nat.reduceAdd, Nat.reduceSub, Nat.reduceEqDiff, Nat.reduceLeDiff, Nat.reduceLT, Nat.reduceBEq, Nat.reduceDiv, Nat.reduceMod, Nat.reducePow, Nat.reduceMul, Int.reduceToNat, Int.reduceLT, Int.reduceLE, S.norm, List.map_cons, List.map_nil, keepM]
  by_cases hc : Can (lkL L) (rnds (lkL L) (fun _ => 0) j.ts.length)
  · obtain ⟨p, hp1, hp2, c70⟩ := fn70s j.ts.length L (by have := h.n0; omega) hn hll hLL hc
    obtain ⟨e1, e2⟩ := erl_no (can_no hLL hc)
    have hpl := cirL_len (brs (lkL L) (j.ts.length + 1)).by' (crcX j.ts.length (lkL L)) p
    have hpp := hp2.pos
    have hrl : 0 < (cirL (brs (lkL L) (j.ts.length + 1)).by' (crcX j.ts.length (lkL L)) p).reverse.length := by rw [List.length_reverse]; omega
    generalize (cirL (brs (lkL L) (j.ts.length + 1)).by' (crcX j.ts.length (lkL L)) p).reverse = C at *
    rw [e1, e2]
    repeat' (first | refine w1g ?_ | refine w1l ?_ | refine w1q ?_ | refine w1b ?_ | refine w1p ?_ | ((first | refine W_regS 11 (by decide) (by decide) ?_ | refine w1r ?_ | refine w1k ?_ | refine w1e ?_ | refine CallC.now (c70) ?_); (refine sy1 ?_; try exact True.intro)) | refine an2 ?_ | fail)
    refine CallC.inlG (fun q => absurd q (by simp [pc])) (fun q => ⟨bv false, ?_⟩)
    (refine sy1 ?_; try exact True.intro)
    refine W_cond (by rfl) (fun _ => ?_) (fun h => by cases h)
    repeat' (first | refine w1g ?_ | refine w1l ?_ | refine w1q ?_ | refine w1b ?_ | refine w1p ?_ | ((first | refine w1r ?_ | refine w1k ?_ | refine w1e ?_); (refine sy1 ?_; try exact True.intro)) | refine an2 ?_ | fail)
    refine W_le (le_nil 4 1 0 cI rfl) ?_
    exact W_ret ⟨[_, _], ⟨rfl, rfl, rfl⟩, rfl⟩
  · have c70 := fn70n j.ts.length L (by have := h.n0; omega) hn hll hLL hc
    have hR0 := fun (tm : List (Nat × AV)) => i71 b j L h.toOkJ hLL hll (can_none hLL hc) (tm := tm) (opq_nil 60)
    repeat' (first | refine w1g ?_ | refine w1l ?_ | refine w1q ?_ | refine w1b ?_ | refine w1p ?_ | ((first | refine W_regS 11 (by decide) (by decide) ?_ | refine w1r ?_ | refine w1k ?_ | refine w1e ?_ | refine CallC.now (c70) ?_); (refine sy1 ?_; try exact True.intro)) | refine an2 ?_ | fail)
    refine CallC.inlG (fun _ => ⟨trivial, Inl_sameM (engE b j L (e1 j 0) ++ []) 60 (fun _ => rfl) ((opq_nil 60).mem (engM_bas b j L _ _ _)) (Inl_le' (hR0 _) (fun r s' hs2 => ?_))⟩) (fun q => absurd (by simp [pc]) q)
    obtain ⟨B', R2, nx2, hB', hX, ⟨ok, e, rfl, rfl, hr⟩, hl⟩ := hs2
    refine ⟨_, ?_, hl⟩
    (refine sy1 ?_; try exact True.intro)
    cases ok
    · obtain ⟨e1, e2⟩ := erl_no (hr.no rfl).1
      rw [e1, e2]
      refine W_cond (by rfl) (fun _ => ?_) (fun h => by cases h)
      repeat' (first | refine w1g ?_ | refine w1l ?_ | refine w1q ?_ | refine w1b ?_ | refine w1p ?_ | ((first | refine w1r ?_ | refine w1k ?_ | refine w1e ?_); (refine sy1 ?_; try exact True.intro)) | refine an2 ?_ | fail)
      refine W_le (le_nil 4 1 0 cI rfl) ?_
      exact W_ret ⟨[_, _], ⟨rfl, rfl, rfl⟩, rfl⟩
    · obtain ⟨q1, q2⟩ := run_yes h.toOkJ hLL hr
      obtain ⟨e1, e2, _⟩ := erl_yes q1 q2
      have hss := hr.ei.ss
      rw [e1, e2, ← hss]
      refine W_cond (by rfl) (fun h => by cases h) (fun _ => ?_)
      simp (maxSteps := 400000) (disch := omega) only [push_cast, ↓reduceIte, reduceCtorEq, Nat.reduceAdd, Nat.reduceSub, Nat.reduceEqDiff, Nat.reduceLeDiff, Nat.reduceLT, Nat.reduceBEq, Nat.reduceDiv, Nat.reduceMod, Nat.reducePow, Nat.reduceMul, Int.reduceToNat, Int.reduceLT, Int.reduceLE, engM, List.cons_append, List.nil_append]
      repeat' (first | refine w1g ?_ | refine w1l ?_ | refine w1q ?_ | refine w1b ?_ | refine w1p ?_ | ((first | refine w1r ?_ | refine w1k ?_ | refine w1e ?_); (refine sy1 ?_; try exact True.intro)) | refine an2 ?_ | fail)
      exact W_ret ⟨[_, _], ⟨rfl, rfl, rfl⟩, rfl⟩
end Go.Proofs.Ytoiohkjomcbadaa

namespace Go.Proofs.Ytoiohkjomcbadaa
open Go Sy
set_option maxRecDepth 100000
set_option maxHeartbeats 4000000
set_option linter.unusedVariables false
set_option linter.unusedSimpArgs false
noncomputable def eaE (j : Jb) (o : List (List Int)) : Int := if chkO j o = 0 then (if erlB j (lks j o) = true then 0 else 15) else chkO j o
noncomputable def eaL (j : Jb) (o : List (List Int)) : List Int := if chkO j o = 0 then erlL j (lks j o) else []
theorem erlL_no {j : Jb} {L : List Af} (h : erlB j L = false) : erlL j L = [] := by unfold erlL; rw [h, if_neg (by decide)]
theorem fn14 (j : Jb) (o : List (List Int)) (h : Gj j) (ho : Go' o) : Sy.Fn Try.prog 14 [aJ j, aO o] (.tup [aI (eaL j o), iv (eaE j o)]) := by
  refine Fn_of_W mixed Xt14 rfl ?_
  have c40 := fn40 j o h ho
  by_cases h0 : chkO j o = 0
  · have e1 : eaL j o = erlL j (lks j o) := by unfold eaL; rw [if_pos h0]
    have e2 : eaE j o = if erlB j (lks j o) = true then 0 else 15 := by unfold eaE; rw [if_pos h0]
    have c50 := fn50 j o (chkO_ok h0).1
    have hno := erlL_no (j := j) (L := lks j o)
    rw [h0] at c40
    rw [e1, e2]
    generalize erlL j (lks j o) = E at *
    generalize erlB j (lks j o) = b at *
    repeat' (first | refine w1g ?_ | refine w1l ?_ | refine w1q ?_ | refine w1b ?_ | refine w1p ?_ | ((first | refine w1r ?_ | refine w1k ?_ | refine w1e ?_ | refine CallC.now (c40) ?_); (refine sy1 ?_; try exact True.intro)) | refine an2 ?_ | fail)
    refine W_cond (by rfl) (fun h => by cases h) (fun _ => ?_)
    repeat' (first | refine w1g ?_ | refine w1l ?_ | refine w1q ?_ | refine w1b ?_ | refine w1p ?_ | ((first | refine w1r ?_ | refine w1k ?_ | refine w1e ?_ | refine CallC.now (c50) ?_); (refine sy1 ?_; try exact True.intro)) | refine an2 ?_ | fail)
    cases b
    · rw [hno rfl]
      refine W_cond (by rfl) (fun _ => ?_) (fun h => by cases h)
      repeat' (first | refine w1g ?_ | refine w1l ?_ | refine w1q ?_ | refine w1b ?_ | refine w1p ?_ | ((first | refine w1r ?_ | refine w1k ?_ | refine w1e ?_); (refine sy1 ?_; try exact True.intro)) | refine an2 ?_ | fail)
      refine W_le (le_nil 4 1 0 cI rfl) ?_
      exact W_ret ⟨[_, _], ⟨rfl, rfl, rfl⟩, rfl⟩
    · refine W_cond (by rfl) (fun h => by cases h) (fun _ => ?_)
      repeat' (first | refine w1g ?_ | refine w1l ?_ | refine w1q ?_ | refine w1b ?_ | refine w1p ?_ | ((first | refine w1r ?_ | refine w1k ?_ | refine w1e ?_); (refine sy1 ?_; try exact True.intro)) | refine an2 ?_ | fail)
      exact W_ret ⟨[_, _], ⟨rfl, rfl, rfl⟩, rfl⟩
  · have e1 : eaL j o = [] := by unfold eaL; rw [if_neg h0]
    have e2 : eaE j o = chkO j o := by unfold eaE; rw [if_neg h0]
    rw [e1, e2]
    generalize chkO j o = E at *
    repeat' (first | refine w1g ?_ | refine w1l ?_ | refine w1q ?_ | refine w1b ?_ | refine w1p ?_ | ((first | refine w1r ?_ | refine w1k ?_ | refine w1e ?_ | refine CallC.now (c40) ?_); (refine sy1 ?_; try exact True.intro)) | refine an2 ?_ | fail)
    refine W_cond (by rfl) (fun _ => ?_) (fun h => absurd (by simpa using h) h0)
    repeat' (first | refine w1g ?_ | refine w1l ?_ | refine w1q ?_ | refine w1b ?_ | refine w1p ?_ | ((first | refine w1r ?_ | refine w1k ?_ | refine w1e ?_); (refine sy1 ?_; try exact True.intro)) | refine an2 ?_ | fail)
    refine W_le (le_nil 4 1 0 cI rfl) ?_
    exact W_ret ⟨[_, _], ⟨rfl, rfl, rfl⟩, rfl⟩
def exW : List Wn := [⟨0, 100⟩, ⟨1000, 2000⟩]
def exJ : Jb := ⟨[⟨60, exW, 0⟩, ⟨60, exW, 0⟩, ⟨60, exW, -1⟩], [⟨0, 2, 50⟩], [30]⟩
def exO : List (List Int) := [[0, 1]]
theorem ex_chk : chkO exJ exO = 0 := by
  have h1 : chkJ exJ = 0 := by decide +kernel
  have h2 : ordB exJ exO = true := by
    unfold ordB
    show (rowB exJ 0 [0, 1] && true) = true
    rw [Bool.and_true, rowB_iff]
    exact List.Perm.refl _
  unfold chkO
  rw [if_pos h1, if_pos (by decide), if_pos h2]
def exP : Nat → Int := fun i => if i = 0 then 0 else 1000
theorem ex_lks : lks exJ exO = [⟨0, 2, 50⟩, ⟨0, 1, 90⟩] := by rfl
theorem ex_rgt : Rgt exJ.ts (lks exJ exO) exP := by
  rw [ex_lks]
  refine ⟨fun i hi => ?_, fun e he => ?_⟩
  · rcases i with _ | _ | _ | i
    · exact ⟨⟨0, 100⟩, by simp [exJ, exW], by decide, by decide⟩
    · exact ⟨⟨1000, 2000⟩, by simp [exJ, exW], by decide, by decide⟩
    · exact ⟨⟨1000, 2000⟩, by simp [exJ, exW], by decide, by decide⟩
    · exact absurd (show i + 1 + 1 + 1 < 3 from hi) (by omega)
  · simp only [List.mem_cons, List.not_mem_nil, or_false] at he
    rcases he with rfl | rfl <;> decide
theorem ex_low : Low exJ.ts (lks exJ exO) exP := by
  rw [ex_lks]
  intro p hp i hi
  have f0 := hp.f 0 (by decide)
  have f1 := hp.f 1 (by decide)
  have f2 := hp.f 2 (by decide)
  have l1 := hp.l ⟨0, 2, 50⟩ (by simp)
  have l2 := hp.l ⟨0, 1, 90⟩ (by simp)
  have key : ∀ x, fitW 60 x exW → (0 ≤ x ∧ x ≤ 40) ∨ 1000 ≤ x := fun x hx => by
    obtain ⟨w, hw, h1, h2⟩ := hx
    simp only [exW, List.mem_cons, List.not_mem_nil, or_false] at hw
    rcases hw with rfl | rfl
    · dsimp only at h1 h2; left; omega
    · dsimp only at h1 h2; right; omega
  have k0 := key _ f0
  have k1 := key _ f1
  have k2 := key _ f2
  have l1' : p 0 + 50 ≤ p 2 := l1
  have l2' : p 0 + 90 ≤ p 1 := l2
  rcases i with _ | _ | _ | i
  · show 0 ≤ p 0; omega
  · show 1000 ≤ p 1; omega
  · show 1000 ≤ p 2; omega
  · exact absurd (show i + 1 + 1 + 1 < 3 from hi) (by omega)
theorem ex_ea : eaE exJ exO = 0 ∧ eaL exJ exO = [0, 1000, 1000] := by
  obtain ⟨h1, h2, _⟩ := erl_yes ex_rgt ex_low
  unfold eaE eaL
  rw [if_pos ex_chk, if_pos ex_chk, h1, h2, if_pos rfl]
  exact ⟨rfl, rfl⟩
theorem ex_gj : Gj exJ := ⟨by decide, by decide, by decide, fun i hi => by
  rcases i with _ | _ | _ | i
  · decide
  · decide
  · decide
  · exact absurd (show i + 1 + 1 + 1 < 3 from hi) (by omega)⟩
theorem ex_go : Go' exO := ⟨by decide, fun t ht => by
  rcases t with _ | t
  · decide
  · simp [exO] at ht⟩
theorem fn49 : Sy.Fn Try.prog 49 [] (aJ exJ) := by
  refine Fn_of_W mixed Xt49 rfl ?_
  repeat' (first | refine w1g ?_ | refine w1l ?_ | refine w1q ?_ | refine w1b ?_ | refine w1p ?_ | ((first | refine w1r ?_ | refine w1k ?_ | refine w1e ?_); (refine sy1 ?_; try exact True.intro)) | refine an2 ?_ | fail)
  refine ⟨rfl, trivial, Wn, dWn, cN, exW, rfl, by omega, fun x _ => ⟨rfl, rfl⟩, rfl, ?_⟩
  (refine sy1 ?_; try exact True.intro)
  repeat (refine w1g ?_)
  refine W_le (le_frzR 1 [0] [0] 60 3 0 37 2 dWn cN exW rfl rfl rfl rfl) ?_
  simp (maxSteps := 400000) (disch := omega) only [push_cast, ↓reduceIte, reduceCtorEq, Nat.reduceAdd, Nat.reduceSub, Nat.reduceEqDiff, Nat.reduceLeDiff, Nat.reduceLT, Nat.reduceBEq, Nat.reduceDiv, Nat.reduceMod, Nat.reducePow, Nat.reduceMul, Int.reduceToNat, Int.reduceLT, Int.reduceLE, List.map_cons, List.map_nil, keepM]
  repeat' (first | refine w1g ?_ | refine w1l ?_ | refine w1q ?_ | refine w1b ?_ | refine w1p ?_ | ((first | refine w1r ?_ | refine w1k ?_ | refine w1e ?_); (refine sy1 ?_; try exact True.intro)) | refine an2 ?_ | fail)
  refine ⟨rfl, trivial, Tk, dTk, cT, exJ.ts, rfl, by omega, fun x _ => ⟨rfl, rfl⟩, rfl, ?_⟩
  (refine sy1 ?_; try exact True.intro)
  refine ⟨rfl, trivial, Af, dAf, cA, exJ.af, rfl, by omega, fun x _ => ⟨rfl, rfl⟩, rfl, ?_⟩
  (refine sy1 ?_; try exact True.intro)
  refine ⟨rfl, trivial, Int, 0, cI, exJ.tm, rfl, by omega, fun x _ => ⟨rfl, rfl⟩, rfl, ?_⟩
  (refine sy1 ?_; try exact True.intro)
  repeat' (first | refine w1g ?_ | refine w1l ?_ | refine w1q ?_ | refine w1b ?_ | refine w1p ?_ | ((first | refine w1r ?_ | refine w1k ?_ | refine w1e ?_); (refine sy1 ?_; try exact True.intro)) | refine an2 ?_ | fail)
  exact W_ret ⟨[_], ⟨⟨by decide, rfl⟩, rfl⟩, rfl⟩
theorem ex_fit : ftE exW 60 41 = 0 ∧ ftV exW 60 41 = 1000 := by decide +kernel
theorem fn13 : Sy.Fn Try.prog 13 [] (bv true) := by
  refine Fn_of_W mixed Xt13 rfl ?_
  have c49 := fn49
  have c14 := fn14 exJ exO ex_gj ex_go
  obtain ⟨e1, e2⟩ := ex_ea
  rw [e1, e2] at c14
  have c42 := fn42 exW 60 41 (by decide)
  obtain ⟨e3, e4⟩ := ex_fit
  rw [e3, e4] at c42
  have hcJ : cJ exJ = [aT exJ.ts, aA exJ.af, aI exJ.tm] := rfl
  have g0 : exJ.ts.getD 0 dTk = ⟨60, exW, 0⟩ := rfl
  have l0 : exJ.ts.length = 3 := rfl
  repeat (first | refine w1g ?_ | refine w1l ?_ | refine w1q ?_ | refine w1b ?_)
  refine w1r ?_
  (refine sy1 ?_; try exact True.intro)
  repeat (first | refine w1g ?_ | refine w1l ?_ | refine w1q ?_ | refine w1b ?_)
  refine W_regP [2, 1] (by decide) ?_
  simp (maxSteps := 400000) (disch := omega) only [push_cast, ↓reduceIte, reduceCtorEq, Nat.reduceAdd, Nat.reduceSub, Nat.reduceEqDiff, Nat.reduceLeDiff, Nat.reduceLT, Nat.reduceBEq, Nat.reduceDiv, Nat.reduceMod, Nat.reducePow, Nat.reduceMul, Int.reduceToNat, Int.reduceLT, Int.reduceLE, chainP, List.take_succ_cons, List.take_zero, List.drop_succ_cons, List.drop_zero]
  refine CallC.now c49 ?_
  simp (maxSteps := 400000) (disch := omega) only [push_cast, ↓reduceIte, reduceCtorEq, Nat.reduceAdd, Nat.reduceSub, Nat.reduceEqDiff, Nat.reduceLeDiff, Nat.reduceLT, Nat.reduceBEq, Nat.reduceDiv, Nat.reduceMod, Nat.reducePow, Nat.reduceMul, Int.reduceToNat, Int.reduceLT, Int.reduceLE, chainP, List.take_succ_cons, List.take_zero, List.drop_succ_cons, List.drop_zero]
  refine ⟨rfl, trivial, Int, 0, cI, [0, 1], rfl, by omega, fun x _ => ⟨rfl, rfl⟩, rfl, ?_⟩
  (refine sy1 ?_; try exact True.intro)
  refine ⟨_, le_frzR 7 [6] [] 60 2 0 3 1 0 cI [0, 1] rfl rfl rfl rfl, ?_⟩
  simp (maxSteps := 400000) (disch := omega) only [push_cast, ↓reduceIte, reduceCtorEq, Nat.reduceAdd, Nat.reduceSub, Nat.reduceEqDiff, Nat.reduceLeDiff, Nat.reduceLT, Nat.reduceBEq, Nat.reduceDiv, Nat.reduceMod, Nat.reducePow, Nat.reduceMul, Int.reduceToNat, Int.reduceLT, Int.reduceLE, List.map_cons, List.map_nil, keepM, chainP, List.take_succ_cons, List.take_zero, List.drop_succ_cons, List.drop_zero]
  refine ⟨rfl, trivial, List Int, [], cO, exO, rfl, by omega, fun x _ => ⟨rfl, rfl⟩, rfl, ?_⟩
  (refine sy1 ?_; try exact True.intro)
  refine ⟨_, le_frzR 8 [6] [] 70 60 0 52 1 [] cO exO rfl rfl rfl rfl, ?_⟩
  simp (maxSteps := 400000) (disch := omega) only [push_cast, ↓reduceIte, reduceCtorEq, Nat.reduceAdd, Nat.reduceSub, Nat.reduceEqDiff, Nat.reduceLeDiff, Nat.reduceLT, Nat.reduceBEq, Nat.reduceDiv, Nat.reduceMod, Nat.reducePow, Nat.reduceMul, Int.reduceToNat, Int.reduceLT, Int.reduceLE, List.map_cons, List.map_nil, keepM, chainP, List.take_succ_cons, List.take_zero, List.drop_succ_cons, List.drop_zero]
  repeat' (first | refine w1g ?_ | refine w1l ?_ | refine w1q ?_ | refine w1b ?_ | refine w1p ?_ | ((first | refine w1r ?_ | refine w1k ?_ | refine w1e ?_ | refine CallC.now (c14) ?_); (refine sy1 ?_; try exact True.intro)) | refine an2 ?_ | fail)
  repeat' (first | refine w1g ?_ | refine w1l ?_ | refine w1q ?_ | refine w1b ?_ | refine w1p ?_ | ((first | refine w1r ?_ | refine w1k ?_ | refine w1e ?_ | refine CallC.now (c49) ?_ | refine CallC.now (c42) ?_); simp (maxSteps := 400000) (disch := omega) only [push_cast, ↓reduceIte, reduceCtorEq, Nat.reduceAdd, Nat.reduceSub, Nat.reduceEqDiff, Nat.reduceLeDiff, Nat.reduceLT, Nat.reduceBEq, Nat.reduceDiv, Nat.reduceMod, Nat.reducePow, Nat.reduceMul, Int.reduceToNat, Int.reduceLT, Int.reduceLE, hcJ, g0, l0]) | refine an2 ?_ | fail)
  exact W_ret ⟨[_], ⟨rfl, rfl⟩, rfl⟩
end Go.Proofs.Ytoiohkjomcbadaa

namespace Go.Proofs.Ytoiohkjomcbadaa
open Go Sy
set_option linter.unusedVariables false
end Go.Proofs.Ytoiohkjomcbadaa

namespace Go.Proofs.Ytoiohkjomcbadaa
open Go Sy
set_option maxRecDepth 100000
set_option maxHeartbeats 4000000
set_option linter.unusedVariables false
set_option linter.unusedSimpArgs false
def f2 (i : Nat) : Nat → Int := fun k => if k < i then noS else 0
end Go.Proofs.Ytoiohkjomcbadaa

namespace Go.Proofs.Ytoiohkjomcbadaa
open Go Sy
set_option maxRecDepth 100000
set_option maxHeartbeats 4000000
set_option linter.unusedVariables false
set_option linter.unusedSimpArgs false
structure RF (j : Jb) (L : List Af) (F : Nat → Int) : Prop where
  low : Low j.ts L F
  fit : ∀ i, i < j.ts.length → fitW (gt j.ts i).mi (F i) (gt j.ts i).ws
  rng : ∀ i, i < j.ts.length → 0 ≤ F i ∧ F i ≤ 1099511627776
end Go.Proofs.Ytoiohkjomcbadaa

namespace Go.Proofs.Ytoiohkjomcbadaa
set_option linter.unusedVariables false
section
variable {α : Type} (lt : α → α → Bool)
structure SW (lt : α → α → Bool) : Prop where
  asym : ∀ {a b}, lt a b = true → lt b a = false
  nt : ∀ {a b c}, lt b a = false → lt c b = false → lt c a = false
variable {lt}
theorem SW.trans (h : SW lt) {a b c : α} (h1 : lt a b = true) (h2 : lt b c = true) : lt a c = true := by
  cases q : lt a c with
  | true => rfl
  | false =>
    have := h.nt q (h.asym h1)
    rw [this] at h2; cases h2
end
end Go.Proofs.Ytoiohkjomcbadaa

namespace Go.Proofs.Ytoiohkjomcbadaa
set_option linter.unusedVariables false
section
variable {α : Type}
end
end Go.Proofs.Ytoiohkjomcbadaa

namespace Go.Proofs.Ytoiohkjomcbadaa
open Go Sy
set_option maxRecDepth 100000
set_option maxHeartbeats 4000000
set_option linter.unusedVariables false
set_option linter.unusedSimpArgs false
theorem wrapU {x : Int} (h : 0 ≤ x ∧ x < 18446744073709551616) : IntKind.u64.wrap x = x := by rw [IntKind.wrap_u64]; omega
end Go.Proofs.Ytoiohkjomcbadaa

namespace Go.Proofs.Ytoiohkjomcbadaa
set_option linter.unusedVariables false
section
variable {α : Type} {lt : α → α → Bool}
end
end Go.Proofs.Ytoiohkjomcbadaa

namespace Go.Proofs.Ytoiohkjomcbadaa
open Go Sy
set_option maxRecDepth 100000
set_option maxHeartbeats 4000000
set_option linter.unusedVariables false
set_option linter.unusedSimpArgs false
end Go.Proofs.Ytoiohkjomcbadaa

namespace Go.Proofs.Ytoiohkjomcbadaa
open Go Sy
set_option maxRecDepth 100000
set_option maxHeartbeats 4000000
set_option linter.unusedVariables false
set_option linter.unusedSimpArgs false
end Go.Proofs.Ytoiohkjomcbadaa

namespace Go.Proofs.Ytoiohkjomcbadaa
open Go Sy
set_option maxRecDepth 100000
set_option maxHeartbeats 4000000
set_option linter.unusedVariables false
set_option linter.unusedSimpArgs false
end Go.Proofs.Ytoiohkjomcbadaa

namespace Go.Proofs.Ytoiohkjomcbadaa
open Go Sy
set_option maxRecDepth 100000
set_option maxHeartbeats 4000000
set_option linter.unusedVariables false
set_option linter.unusedSimpArgs false
end Go.Proofs.Ytoiohkjomcbadaa

namespace Go.Proofs.Ytoiohkjomcbadaa
open Go Sy
set_option maxRecDepth 100000
set_option maxHeartbeats 4000000
set_option linter.unusedVariables false
set_option linter.unusedSimpArgs false
theorem fn127 (x : Int) : Sy.Fn Try.prog 127 [iv x] (bv false) := by
  refine Fn_of_W mixed Xt127 rfl ?_
  repeat' (first | refine w1g ?_ | refine w1l ?_ | refine w1q ?_ | refine w1b ?_ | refine w1p ?_ | ((first | refine w1r ?_ | refine w1k ?_ | refine w1e ?_); simp (maxSteps := 400000) (disch := omega) only [push_cast, ↓reduceIte, reduceCtorEq, Nat.reduceAdd, Nat.reduceSub, Nat.reduceEqDiff, Nat.reduceLeDiff, Nat.reduceLT, Nat.reduceBEq, Nat.reduceDiv, Nat.reduceMod, Nat.reducePow, Nat.reduceMul, Int.reduceToNat, Int.reduceLT, Int.reduceLE, bne_self_eq_false]) | refine an2 ?_ | fail)
  exact W_ret ⟨[_], ⟨rfl, rfl⟩, rfl⟩
def cmI (x y : Int) : Int := if x < y then -1 else if y < x then 1 else 0
theorem fn100 (x y : Int) : Sy.Fn Try.prog 100 [iv x, iv y] (iv (cmI x y)) := by
  refine Fn_of_W mixed Xt100 rfl ?_
  repeat' (first | refine w1g ?_ | refine w1l ?_ | refine w1q ?_ | refine w1b ?_ | refine w1p ?_ | ((first | refine w1r ?_ | refine w1k ?_ | refine w1e ?_ | refine CallC.go _ (fun _ => ⟨trivial, fn127 _⟩) rfl ?_); (refine sy1 ?_; try exact True.intro)) | refine an2 ?_ | fail)
  refine W_cond (by rfl) (fun h => by cases h) (fun _ => ?_)
  repeat' (first | refine w1g ?_ | refine w1l ?_ | refine w1q ?_ | refine w1b ?_ | refine w1p ?_ | ((first | refine w1r ?_ | refine w1k ?_ | refine w1e ?_); (refine sy1 ?_; try exact True.intro)) | refine an2 ?_ | fail)
  refine W_cond (by rfl) (fun h => by cases h) (fun _ => ?_)
  repeat' (first | refine w1g ?_ | refine w1l ?_ | refine w1q ?_ | refine w1b ?_ | refine w1p ?_ | ((first | refine w1r ?_ | refine w1k ?_ | refine w1e ?_); (refine sy1 ?_; try exact True.intro)) | refine an2 ?_ | fail)
  refine W_condD (by rfl) (fun h1 => ?_) (fun h1 => ?_)
  · rw [show cmI x y = -1 by unfold cmI; rw [if_pos h1]]
    repeat' (first | refine w1g ?_ | refine w1l ?_ | refine w1q ?_ | refine w1b ?_ | refine w1p ?_ | ((first | refine w1r ?_ | refine w1k ?_ | refine w1e ?_); (refine sy1 ?_; try exact True.intro)) | refine an2 ?_ | fail)
    exact W_ret ⟨[_], ⟨rfl, rfl⟩, rfl⟩
  repeat' (first | refine w1g ?_ | refine w1l ?_ | refine w1q ?_ | refine w1b ?_ | refine w1p ?_ | ((first | refine w1r ?_ | refine w1k ?_ | refine w1e ?_); (refine sy1 ?_; try exact True.intro)) | refine an2 ?_ | fail)
  refine W_condD (by rfl) (fun h2 => ?_) (fun h2 => ?_)
  · rw [show cmI x y = 1 by unfold cmI; rw [if_neg h1, if_pos h2]]
    repeat' (first | refine w1g ?_ | refine w1l ?_ | refine w1q ?_ | refine w1b ?_ | refine w1p ?_ | ((first | refine w1r ?_ | refine w1k ?_ | refine w1e ?_); (refine sy1 ?_; try exact True.intro)) | refine an2 ?_ | fail)
    exact W_ret ⟨[_], ⟨rfl, rfl⟩, rfl⟩
  · rw [show cmI x y = 0 by unfold cmI; rw [if_neg h1, if_neg h2]]
    repeat' (first | refine w1g ?_ | refine w1l ?_ | refine w1q ?_ | refine w1b ?_ | refine w1p ?_ | ((first | refine w1r ?_ | refine w1k ?_ | refine w1e ?_); (refine sy1 ?_; try exact True.intro)) | refine an2 ?_ | fail)
    exact W_ret ⟨[_], ⟨rfl, rfl⟩, rfl⟩
theorem fn99 (x y : Int) : Sy.Fn Try.prog 99 [aI [x, y]] (iv (if x = 0 then y else x)) := by
  refine Fn_of_W mixed Xt99 rfl ?_
  repeat' (first | refine w1g ?_ | refine w1l ?_ | refine w1q ?_ | refine w1b ?_ | refine w1p ?_ | ((first | refine w1r ?_ | refine w1k ?_ | refine w1e ?_); (refine sy1 ?_; try exact True.intro)) | refine an2 ?_ | fail)
  refine W_loopU (fun i : Nat => [(8, iv i)]) (fun i => []) (fun i => i ≤ 2 ∧ (0 < i → x = 0) ∧ (1 < i → y = 0)) (fun i => 2 - i) 0 ⟨by omega, fun h => by omega, fun h => by omega⟩ (by rfl) (by rfl) (fun i hi => ?_)
  obtain ⟨hi, h0, h1⟩ := hi
  (refine sy1 ?_; try exact True.intro)
  repeat' (first | refine w1g ?_ | refine w1l ?_ | refine w1q ?_ | refine w1b ?_ | refine w1p ?_ | ((first | refine w1r ?_ | refine w1k ?_ | refine w1e ?_); (refine sy1 ?_; try exact True.intro)) | refine an2 ?_ | fail)
  refine W_condD (by rfl) (fun h5 => ?_) (fun h5 => ?_)
  · have key : ∀ z, [x, y].getD i 0 = z → (z ≠ 0 → (if x = 0 then y else x) = z) ∧ (z = 0 → (0 < i + 1 → x = 0) ∧ (1 < i + 1 → y = 0)) := fun z hz => by
      rcases i with _ | _ | i
      · have hz : x = z := hz
        subst hz
        exact ⟨fun q => by rw [if_neg q], fun q => ⟨fun _ => q, fun w => absurd w (by omega)⟩⟩
      · have hz : y = z := hz
        subst hz
        have hx := h0 (by omega)
        exact ⟨fun _ => by rw [if_pos hx], fun q => ⟨fun _ => hx, fun _ => q⟩⟩
      · omega
    obtain ⟨z, hz⟩ : ∃ z, [x, y].getD i 0 = z := ⟨_, rfl⟩
    obtain ⟨k1, k2⟩ := key z hz
    repeat' (first | refine w1g ?_ | refine w1l ?_ | refine w1q ?_ | refine w1b ?_ | refine w1p ?_ | ((first | refine w1r ?_ | refine w1k ?_ | refine w1e ?_); simp (maxSteps := 400000) (disch := omega) only [push_cast, ↓reduceIte, reduceCtorEq, Nat.reduceAdd, Nat.reduceSub, Nat.reduceEqDiff, Nat.reduceLeDiff, Nat.reduceLT, Nat.reduceBEq, Nat.reduceDiv, Nat.reduceMod, Nat.reducePow, Nat.reduceMul, Int.reduceToNat, Int.reduceLT, Int.reduceLE, hz]) | refine an2 ?_ | fail)
    by_cases q : z = 0
    · obtain ⟨k3, k4⟩ := k2 q
      rw [show (z != 0) = false by rw [q]; rfl]
      refine W_cond (by rfl) (fun h => by cases h) (fun _ => ?_)
      repeat' (first | refine w1g ?_ | refine w1l ?_ | refine w1q ?_ | refine w1b ?_ | refine w1p ?_ | ((first | refine w1r ?_ | refine w1k ?_ | refine w1e ?_); (refine sy1 ?_; try exact True.intro)) | refine an2 ?_ | fail)
      refine ⟨i + 1, ⟨by omega, k3, k4⟩, by omega, by rfl, ?_⟩
      (refine syE ?_; try exact True.intro)
    · rw [show (z != 0) = true from bne_iff_ne.2 q, k1 q]
      refine W_cond (by rfl) (fun _ => ?_) (fun h => by cases h)
      repeat' (first | refine w1g ?_ | refine w1l ?_ | refine w1q ?_ | refine w1b ?_ | refine w1p ?_ | ((first | refine w1r ?_ | refine w1k ?_ | refine w1e ?_); (refine sy1 ?_; try exact True.intro)) | refine an2 ?_ | fail)
      exact W_ret ⟨[_], ⟨rfl, rfl⟩, rfl⟩
  · rw [if_pos (h0 (by omega)), h1 (by omega)]
    repeat' (first | refine w1g ?_ | refine w1l ?_ | refine w1q ?_ | refine w1b ?_ | refine w1p ?_ | ((first | refine w1r ?_ | refine w1k ?_ | refine w1e ?_); (refine sy1 ?_; try exact True.intro)) | refine an2 ?_ | fail)
    exact W_ret ⟨[_], ⟨rfl, rfl⟩, rfl⟩
theorem cm_lt (x y : Int) : cmI x y < 0 ↔ x < y := by unfold cmI; repeat' split <;> omega
theorem cm_eq (x y : Int) : cmI x y = 0 ↔ x = y := by unfold cmI; repeat' split <;> omega
end Go.Proofs.Ytoiohkjomcbadaa

namespace Go.Proofs.Ytoiohkjomcbadaa
open Go Sy
set_option maxRecDepth 100000
set_option maxHeartbeats 4000000
set_option linter.unusedVariables false
set_option linter.unusedSimpArgs false
theorem fn22 (a b : List Int) (ha : a.length ≤ 140737488355328) (hb : b.length ≤ 140737488355328) (e : a = b) : Sy.Fn Try.prog 22 [aI a, aI b] (bv true) := by
  subst e
  refine Fn_of_W mixed Xt22 rfl ?_
  repeat' (first | refine w1g ?_ | refine w1l ?_ | refine w1q ?_ | refine w1b ?_ | refine w1p ?_ | ((first | refine w1r ?_ | refine w1k ?_ | refine w1e ?_); simp (maxSteps := 400000) (disch := omega) only [push_cast, ↓reduceIte, reduceCtorEq, Nat.reduceAdd, Nat.reduceSub, Nat.reduceEqDiff, Nat.reduceLeDiff, Nat.reduceLT, Nat.reduceBEq, Nat.reduceDiv, Nat.reduceMod, Nat.reducePow, Nat.reduceMul, Int.reduceToNat, Int.reduceLT, Int.reduceLE, bne_self_eq_false]) | refine an2 ?_ | fail)
  refine W_cond (by rfl) (fun h => by cases h) (fun _ => ?_)
  repeat' (first | refine w1g ?_ | refine w1l ?_ | refine w1q ?_ | refine w1b ?_ | refine w1p ?_ | ((first | refine w1r ?_ | refine w1k ?_ | refine w1e ?_); (refine sy1 ?_; try exact True.intro)) | refine an2 ?_ | fail)
  refine W_loopU (fun i : Nat => [(5, iv i)]) (fun i => []) (fun i => i ≤ a.length) (fun i => a.length - i) 0 (by omega) (by rfl) (by rfl) (fun i hi => ?_)
  (refine sy1 ?_; try exact True.intro)
  repeat' (first | refine w1g ?_ | refine w1l ?_ | refine w1q ?_ | refine w1b ?_ | refine w1p ?_ | ((first | refine w1r ?_ | refine w1k ?_ | refine w1e ?_); (refine sy1 ?_; try exact True.intro)) | refine an2 ?_ | fail)
  refine W_condD (by rfl) (fun h5 => ?_) (fun h5 => ?_)
  · repeat' (first | refine w1g ?_ | refine w1l ?_ | refine w1q ?_ | refine w1b ?_ | refine w1p ?_ | ((first | refine w1r ?_ | refine w1k ?_ | refine w1e ?_); simp (maxSteps := 400000) (disch := omega) only [push_cast, ↓reduceIte, reduceCtorEq, Nat.reduceAdd, Nat.reduceSub, Nat.reduceEqDiff, Nat.reduceLeDiff, Nat.reduceLT, Nat.reduceBEq, Nat.reduceDiv, Nat.reduceMod, Nat.reducePow, Nat.reduceMul, Int.reduceToNat, Int.reduceLT, Int.reduceLE, bne_self_eq_false]) | refine an2 ?_ | fail)
    refine W_cond (by rfl) (fun h => by cases h) (fun _ => ?_)
    repeat' (first | refine w1g ?_ | refine w1l ?_ | refine w1q ?_ | refine w1b ?_ | refine w1p ?_ | ((first | refine w1r ?_ | refine w1k ?_ | refine w1e ?_); (refine sy1 ?_; try exact True.intro)) | refine an2 ?_ | fail)
    refine ⟨i + 1, by omega, by omega, by rfl, ?_⟩
    (refine syE ?_; try exact True.intro)
  · repeat' (first | refine w1g ?_ | refine w1l ?_ | refine w1q ?_ | refine w1b ?_ | refine w1p ?_ | ((first | refine w1r ?_ | refine w1k ?_ | refine w1e ?_); (refine sy1 ?_; try exact True.intro)) | refine an2 ?_ | fail)
    exact W_ret ⟨[_], ⟨rfl, rfl⟩, rfl⟩
end Go.Proofs.Ytoiohkjomcbadaa

namespace Go.Proofs.Ytoiohkjomcbadaa
open Go Sy
set_option maxRecDepth 100000
set_option maxHeartbeats 4000000
set_option linter.unusedVariables false
set_option linter.unusedSimpArgs false
def cCr (ls : List Lg) (a b st : Int) : List AV := [aL ls, iv a, iv b, iv st]
def hvB (ls : List Lg) : Bool := (decide (20 < ls.length) || (decide (7 < ls.length) && decide (ls.length ≤ 12))) || ls.any fun x => decide (40 < x.ws.length)
theorem fn32 (ls : List Lg) (hl : ls.length ≤ 140737488355328) : Sy.Fn Try.prog 32 [aL ls] (bv (hvB ls)) := by
  refine Fn_of_W mixed Xt32 rfl ?_
  have hB : hvB ls = ((decide (20 < ls.length) || (decide (7 < ls.length) && decide (ls.length ≤ 12))) || ls.any fun x => decide (40 < x.ws.length)) := rfl
  have hyes := fun i hi => any_yes (l := ls) (q := fun x => decide (40 < x.ws.length)) dLg (i := i) hi
  have hno := any_no (l := ls) (q := fun x => decide (40 < x.ws.length)) dLg
  generalize (ls.any fun x => decide (40 < x.ws.length)) = A at *
  generalize hvB ls = B at *
  repeat' (first | refine w1g ?_ | refine w1l ?_ | refine w1q ?_ | refine w1b ?_ | refine w1p ?_ | ((first | refine w1r ?_ | refine w1k ?_ | refine w1e ?_); (refine sy1 ?_; try exact True.intro)) | refine an2 ?_ | fail)
  by_cases h0 : 20 < ls.length ∨ (7 < ls.length ∧ ls.length ≤ 12)
  · have : B = true := by rw [hB]; simp only [Bool.or_eq_true, Bool.and_eq_true, decide_eq_true_eq]; exact .inl h0
    rw [this]
    refine W_cond (by rfl) (fun _ => ?_) (fun hb => ?_)
    · repeat' (first | refine w1g ?_ | refine w1l ?_ | refine w1q ?_ | refine w1b ?_ | refine w1p ?_ | ((first | refine w1r ?_ | refine w1k ?_ | refine w1e ?_); (refine sy1 ?_; try exact True.intro)) | refine an2 ?_ | fail)
      exact W_ret ⟨[_], ⟨rfl, rfl⟩, rfl⟩
    · simp only [Bool.or_eq_false_iff, Bool.and_eq_false_iff, decide_eq_false_iff_not] at hb
      omega
  have hA : B = A := by rw [hB, show (decide (20 < ls.length) || (decide (7 < ls.length) && decide (ls.length ≤ 12))) = false by rw [← Bool.not_eq_true, Bool.or_eq_true, Bool.and_eq_true, decide_eq_true_eq, decide_eq_true_eq, decide_eq_true_eq]; exact h0]; rfl
  rw [hA]
  refine W_cond (by rfl) (fun hb => ?_) (fun _ => ?_)
  · simp only [Bool.or_eq_true, Bool.and_eq_true, decide_eq_true_eq] at hb
    omega
  repeat' (first | refine w1g ?_ | refine w1l ?_ | refine w1q ?_ | refine w1b ?_ | refine w1p ?_ | ((first | refine w1r ?_ | refine w1k ?_ | refine w1e ?_); (refine sy1 ?_; try exact True.intro)) | refine an2 ?_ | fail)
  refine W_loopU (fun i : Nat => [(3, iv i)]) (fun i => []) (fun i => i ≤ ls.length ∧ ∀ k, k < i → (fun x : Lg => decide (40 < x.ws.length)) (ls.getD k dLg) = false) (fun i => ls.length - i) 0 ⟨by omega, fun k hk => by omega⟩ (by rfl) (by rfl) (fun i hi => ?_)
  obtain ⟨hi, hp⟩ := hi
  (refine sy1 ?_; try exact True.intro)
  repeat' (first | refine w1g ?_ | refine w1l ?_ | refine w1q ?_ | refine w1b ?_ | refine w1p ?_ | ((first | refine w1r ?_ | refine w1k ?_ | refine w1e ?_); (refine sy1 ?_; try exact True.intro)) | refine an2 ?_ | fail)
  refine W_condD (by rfl) (fun h5 => ?_) (fun h5 => ?_)
  · have hil : i < ls.length := by omega
    have hyes := hyes i hil
    have hup := @up_all _ i hp
    obtain ⟨x, hx⟩ : ∃ x, ls.getD i dLg = x := ⟨_, rfl⟩
    rw [hx] at hyes hup
    repeat' (first | refine w1g ?_ | refine w1l ?_ | refine w1q ?_ | refine w1b ?_ | refine w1p ?_ | ((first | refine w1r ?_ | refine w1k ?_ | refine w1e ?_); simp (maxSteps := 400000) (disch := omega) only [push_cast, ↓reduceIte, reduceCtorEq, Nat.reduceAdd, Nat.reduceSub, Nat.reduceEqDiff, Nat.reduceLeDiff, Nat.reduceLT, Nat.reduceBEq, Nat.reduceDiv, Nat.reduceMod, Nat.reducePow, Nat.reduceMul, Int.reduceToNat, Int.reduceLT, Int.reduceLE, hx]) | refine an2 ?_ | fail)
    refine W_condD (by rfl) (fun h6 => ?_) (fun h6 => ?_)
    · rw [hyes (decide_eq_true (by omega))]
      repeat' (first | refine w1g ?_ | refine w1l ?_ | refine w1q ?_ | refine w1b ?_ | refine w1p ?_ | ((first | refine w1r ?_ | refine w1k ?_ | refine w1e ?_); (refine sy1 ?_; try exact True.intro)) | refine an2 ?_ | fail)
      exact W_ret ⟨[_], ⟨rfl, rfl⟩, rfl⟩
    · repeat' (first | refine w1g ?_ | refine w1l ?_ | refine w1q ?_ | refine w1b ?_ | refine w1p ?_ | ((first | refine w1r ?_ | refine w1k ?_ | refine w1e ?_); (refine sy1 ?_; try exact True.intro)) | refine an2 ?_ | fail)
      refine ⟨i + 1, ⟨by omega, hup (decide_eq_false (by omega))⟩, by omega, by rfl, ?_⟩
      (refine syE ?_; try exact True.intro)
  · rw [hno fun k hk => hp k (by omega)]
    repeat' (first | refine w1g ?_ | refine w1l ?_ | refine w1q ?_ | refine w1b ?_ | refine w1p ?_ | ((first | refine w1r ?_ | refine w1k ?_ | refine w1e ?_); (refine sy1 ?_; try exact True.intro)) | refine an2 ?_ | fail)
    exact W_ret ⟨[_], ⟨rfl, rfl⟩, rfl⟩
def wlB (x : Lg) : Bool := decide (32 < x.ws.length)
def lgB (a : Int) (x : Lg) : Bool := !inR x.mi 1 a || !wnB x.ws
def crE (ls : List Lg) (a b st : Int) : Int := if (decide (12 < ls.length) || ls.any wlB) = true then 6 else if (!inR a 1 10080 || !inR b 1 10080 || ls.any (lgB a)) = true then 2 else if inR st 0 1099511627776 = true then 0 else 3
theorem fn116 (x : Lg) : Sy.Fn Try.prog 116 [.agg (cL x)] (bv (wlB x)) := by
  refine Fn_of_W mixed Xt116 rfl ?_
  repeat' (first | refine w1g ?_ | refine w1l ?_ | refine w1q ?_ | refine w1b ?_ | refine w1p ?_ | ((first | refine w1r ?_ | refine w1k ?_ | refine w1e ?_); (refine sy1 ?_; try exact True.intro)) | refine an2 ?_ | fail)
  exact W_ret ⟨[_], ⟨rfl, rfl⟩, by rw [show wlB x = decide ((32 : Int) < (x.ws.length : Int)) from decide_eq_decide.2 (by omega)]; rfl⟩
theorem fn117 (ls : List Lg) (a b st : Int) (x : Lg) (hx : x.ws.length ≤ 140737488355328) : Sy.Fn Try.prog 117 [.agg (cL x), .fp (cCr ls a b st) 0] (bv (lgB a x)) := by
  refine Fn_of_W mixed Xt117 rfl ?_
  have c87 := fn87 x.mi 1 a
  have c88 := fn88 x.ws hx
  have hc : cCr ls a b st = [aL ls, iv a, iv b, iv st] := rfl
  have hB : lgB a x = (!inR x.mi 1 a || !wnB x.ws) := rfl
  generalize lgB a x = B at *
  generalize inR x.mi 1 a = q1 at *
  generalize wnB x.ws = q2 at *
  repeat' (first | refine w1g ?_ | refine w1l ?_ | refine w1q ?_ | refine w1b ?_ | refine w1p ?_ | ((first | refine w1r ?_ | refine w1k ?_ | refine w1e ?_ | refine CallC.now (c87) ?_ | refine CallC.now (c88) ?_); simp (maxSteps := 400000) (disch := omega) only [push_cast, ↓reduceIte, reduceCtorEq, Nat.reduceAdd, Nat.reduceSub, Nat.reduceEqDiff, Nat.reduceLeDiff, Nat.reduceLT, Nat.reduceBEq, Nat.reduceDiv, Nat.reduceMod, Nat.reducePow, Nat.reduceMul, Int.reduceToNat, Int.reduceLT, Int.reduceLE, hc]) | refine an2 ?_ | fail)
  rw [hB]
  exact W_ret ⟨[_], ⟨rfl, rfl⟩, rfl⟩
theorem fn74 (ls : List Lg) (a b st : Int) (hl : ls.length ≤ 140737488355328) (hw : ∀ x ∈ ls, x.ws.length ≤ 140737488355328) : Sy.Fn Try.prog 74 [.agg (cCr ls a b st)] (iv (crE ls a b st)) := by
  refine Fn_of_W mixed Xt74 rfl ?_
  have c116 := fn115 ls hl 116 [] [] wlB fun x _ => fn116 x
  have c117 := fn115 ls hl 117 [] [.fp (cCr ls a b st) 0] (lgB a) fun x hx => fn117 ls a b st x (hw x hx)
  have d1 := fn87 a 1 10080
  have d2 := fn87 b 1 10080
  have d3 := fn87 st 0 1099511627776
  have hc : cCr ls a b st = [aL ls, iv a, iv b, iv st] := rfl
  have hE : crE ls a b st = if (decide (12 < ls.length) || ls.any wlB) = true then 6 else if (!inR a 1 10080 || !inR b 1 10080 || ls.any (lgB a)) = true then 2 else if inR st 0 1099511627776 = true then 0 else 3 := rfl
  rw [hE]
  have hd : decide (12 < ls.length) = decide ((12 : Int) < (ls.length : Int)) := decide_eq_decide.2 (by omega)
  rw [hd]
  generalize ls.any wlB = x1 at *
  generalize ls.any (lgB a) = x2 at *
  generalize inR a 1 10080 = x3 at *
  generalize inR b 1 10080 = x4 at *
  generalize inR st 0 1099511627776 = x5 at *
  rw [hc] at c117 ⊢
  repeat' (first | refine w1g ?_ | refine w1l ?_ | refine w1q ?_ | refine w1b ?_ | refine w1p ?_ | ((first | refine w1r ?_ | refine w1k ?_ | refine w1e ?_ | refine CallC.now (c116) ?_); (refine sy1 ?_; try exact True.intro)) | refine an2 ?_ | fail)
  cases hq : decide ((12 : Int) < (ls.length : Int)) || x1
  rotate_left
  · rw [if_pos rfl]
    refine W_cond (by rfl) (fun _ => ?_) (fun h => by cases h)
    repeat' (first | refine w1g ?_ | refine w1l ?_ | refine w1q ?_ | refine w1b ?_ | refine w1p ?_ | ((first | refine w1r ?_ | refine w1k ?_ | refine w1e ?_); (refine sy1 ?_; try exact True.intro)) | refine an2 ?_ | fail)
    exact W_ret ⟨[_], ⟨rfl, rfl⟩, rfl⟩
  rw [if_neg (by decide)]
  refine W_cond (by rfl) (fun h => by cases h) (fun _ => ?_)
  repeat' (first | refine w1g ?_ | refine w1l ?_ | refine w1q ?_ | refine w1b ?_ | refine w1p ?_ | ((first | refine w1r ?_ | refine w1k ?_ | refine w1e ?_ | refine CallC.now (d1) ?_ | refine CallC.now (d2) ?_ | refine CallC.now (c117) ?_); (refine sy1 ?_; try exact True.intro)) | refine an2 ?_ | fail)
  cases hq2 : !x3 || !x4 || x2
  rotate_left
  · rw [if_pos rfl]
    refine W_cond (by rfl) (fun _ => ?_) (fun h => by cases h)
    repeat' (first | refine w1g ?_ | refine w1l ?_ | refine w1q ?_ | refine w1b ?_ | refine w1p ?_ | ((first | refine w1r ?_ | refine w1k ?_ | refine w1e ?_); (refine sy1 ?_; try exact True.intro)) | refine an2 ?_ | fail)
    exact W_ret ⟨[_], ⟨rfl, rfl⟩, rfl⟩
  rw [if_neg (by decide)]
  refine W_cond (by rfl) (fun h => by cases h) (fun _ => ?_)
  repeat' (first | refine w1g ?_ | refine w1l ?_ | refine w1q ?_ | refine w1b ?_ | refine w1p ?_ | ((first | refine w1r ?_ | refine w1k ?_ | refine w1e ?_ | refine CallC.now (d3) ?_); (refine sy1 ?_; try exact True.intro)) | refine an2 ?_ | fail)
  cases x5
  · refine W_cond (by rfl) (fun _ => ?_) (fun h => by cases h)
    repeat' (first | refine w1g ?_ | refine w1l ?_ | refine w1q ?_ | refine w1b ?_ | refine w1p ?_ | ((first | refine w1r ?_ | refine w1k ?_ | refine w1e ?_); (refine sy1 ?_; try exact True.intro)) | refine an2 ?_ | fail)
    exact W_ret ⟨[_], ⟨rfl, rfl⟩, rfl⟩
  · refine W_cond (by rfl) (fun h => by cases h) (fun _ => ?_)
    repeat' (first | refine w1g ?_ | refine w1l ?_ | refine w1q ?_ | refine w1b ?_ | refine w1p ?_ | ((first | refine w1r ?_ | refine w1k ?_ | refine w1e ?_); (refine sy1 ?_; try exact True.intro)) | refine an2 ?_ | fail)
    exact W_ret ⟨[_], ⟨rfl, rfl⟩, rfl⟩
theorem fn76 (ls : List Lg) (a b st : Int) (hl : ls.length ≤ 140737488355328) (hw : ∀ x ∈ ls, x.ws.length ≤ 140737488355328) : Sy.Fn Try.prog 76 [aL ls, iv a, iv b, iv st] (iv (crE ls a b st)) := by
  refine Fn_of_W mixed Xt76 rfl ?_
  have d1 := fn55 a 1 10080
  have d2 := fn55 b 1 10080
  have d3 := fn55 st 0 1099511627776
  have hE : crE ls a b st = if (decide (12 < ls.length) || ls.any wlB) = true then 6 else if (!inR a 1 10080 || !inR b 1 10080 || ls.any (lgB a)) = true then 2 else if inR st 0 1099511627776 = true then 0 else 3 := rfl
  rw [hE]
  have hyes := fun i hi => any_yes (l := ls) (q := wlB) dLg (i := i) hi
  have hno := any_no (l := ls) (q := wlB) dLg
  have hyes2 := fun i hi => any_yes (l := ls) (q := lgB a) dLg (i := i) hi
  have hno2 := any_no (l := ls) (q := lgB a) dLg
  generalize ls.any wlB = x1 at *
  generalize ls.any (lgB a) = x2 at *
  generalize inR a 1 10080 = x3 at *
  generalize inR b 1 10080 = x4 at *
  generalize inR st 0 1099511627776 = x5 at *
  repeat' (first | refine w1g ?_ | refine w1l ?_ | refine w1q ?_ | refine w1b ?_ | refine w1p ?_ | ((first | refine w1r ?_ | refine w1k ?_ | refine w1e ?_); (refine sy1 ?_; try exact True.intro)) | refine an2 ?_ | fail)
  refine W_condD (by rfl) (fun h1 => ?_) (fun h1 => ?_)
  · rw [decide_eq_true (show 12 < ls.length by omega), Bool.true_or, if_pos rfl]
    repeat' (first | refine w1g ?_ | refine w1l ?_ | refine w1q ?_ | refine w1b ?_ | refine w1p ?_ | ((first | refine w1r ?_ | refine w1k ?_ | refine w1e ?_); (refine sy1 ?_; try exact True.intro)) | refine an2 ?_ | fail)
    exact W_ret ⟨[_], ⟨rfl, rfl⟩, rfl⟩
  rw [decide_eq_false (show ¬ 12 < ls.length by omega), Bool.false_or]
  repeat' (first | refine w1g ?_ | refine w1l ?_ | refine w1q ?_ | refine w1b ?_ | refine w1p ?_ | ((first | refine w1r ?_ | refine w1k ?_ | refine w1e ?_); (refine sy1 ?_; try exact True.intro)) | refine an2 ?_ | fail)
  refine W_loopU (fun i : Nat => [(9, iv i)]) (fun i => []) (fun i => i ≤ ls.length ∧ ∀ k, k < i → wlB (ls.getD k dLg) = false) (fun i => ls.length - i) 0 ⟨by omega, fun k hk => by omega⟩ (by rfl) (by rfl) (fun i hi => ?_)
  obtain ⟨hi, hp⟩ := hi
  (refine sy1 ?_; try exact True.intro)
  repeat' (first | refine w1g ?_ | refine w1l ?_ | refine w1q ?_ | refine w1b ?_ | refine w1p ?_ | ((first | refine w1r ?_ | refine w1k ?_ | refine w1e ?_); (refine sy1 ?_; try exact True.intro)) | refine an2 ?_ | fail)
  refine W_condD (by rfl) (fun h5 => ?_) (fun h5 => ?_)
  · have hil : i < ls.length := by omega
    have hyes := hyes i hil
    have hup := @up_all _ i hp
    obtain ⟨x, hx⟩ : ∃ x, ls.getD i dLg = x := ⟨_, rfl⟩
    have hxl := hw x (by rw [← hx]; exact getD_mem' dLg ls i hil)
    have hwl : wlB x = decide (32 < x.ws.length) := rfl
    rw [hx] at hyes hup
    repeat' (first | refine w1g ?_ | refine w1l ?_ | refine w1q ?_ | refine w1b ?_ | refine w1p ?_ | ((first | refine w1r ?_ | refine w1k ?_ | refine w1e ?_); simp (maxSteps := 400000) (disch := omega) only [push_cast, ↓reduceIte, reduceCtorEq, Nat.reduceAdd, Nat.reduceSub, Nat.reduceEqDiff, Nat.reduceLeDiff, Nat.reduceLT, Nat.reduceBEq, Nat.reduceDiv, Nat.reduceMod, Nat.reducePow, Nat.reduceMul, Int.reduceToNat, Int.reduceLT, Int.reduceLE, hx]) | refine an2 ?_ | fail)
    refine W_condD (by rfl) (fun h6 => ?_) (fun h6 => ?_)
    · rw [hyes (by rw [hwl]; exact decide_eq_true (by omega)), if_pos rfl]
      repeat' (first | refine w1g ?_ | refine w1l ?_ | refine w1q ?_ | refine w1b ?_ | refine w1p ?_ | ((first | refine w1r ?_ | refine w1k ?_ | refine w1e ?_); (refine sy1 ?_; try exact True.intro)) | refine an2 ?_ | fail)
      exact W_ret ⟨[_], ⟨rfl, rfl⟩, rfl⟩
    · repeat' (first | refine w1g ?_ | refine w1l ?_ | refine w1q ?_ | refine w1b ?_ | refine w1p ?_ | ((first | refine w1r ?_ | refine w1k ?_ | refine w1e ?_); (refine sy1 ?_; try exact True.intro)) | refine an2 ?_ | fail)
      refine ⟨i + 1, ⟨by omega, hup (by rw [hwl]; exact decide_eq_false (by omega))⟩, by omega, by rfl, ?_⟩
      (refine syE ?_; try exact True.intro)
  rw [hno fun k hk => hp k (by omega), if_neg (by decide)]
  repeat' (first | refine w1g ?_ | refine w1l ?_ | refine w1q ?_ | refine w1b ?_ | refine w1p ?_ | ((first | refine w1r ?_ | refine w1k ?_ | refine w1e ?_ | refine CallC.now (d1) ?_ | refine CallC.now (d2) ?_); (refine sy1 ?_; try exact True.intro)) | refine an2 ?_ | fail)
  cases hq : !x3 || !x4
  rotate_left
  · rw [Bool.true_or, if_pos rfl]
    refine W_cond (by rfl) (fun _ => ?_) (fun h => by cases h)
    repeat' (first | refine w1g ?_ | refine w1l ?_ | refine w1q ?_ | refine w1b ?_ | refine w1p ?_ | ((first | refine w1r ?_ | refine w1k ?_ | refine w1e ?_); (refine sy1 ?_; try exact True.intro)) | refine an2 ?_ | fail)
    exact W_ret ⟨[_], ⟨rfl, rfl⟩, rfl⟩
  rw [Bool.false_or]
  refine W_cond (by rfl) (fun h => by cases h) (fun _ => ?_)
  repeat' (first | refine w1g ?_ | refine w1l ?_ | refine w1q ?_ | refine w1b ?_ | refine w1p ?_ | ((first | refine w1r ?_ | refine w1k ?_ | refine w1e ?_); (refine sy1 ?_; try exact True.intro)) | refine an2 ?_ | fail)
  refine W_loopU (fun i : Nat => [(10, iv i)]) (fun i => []) (fun i => i ≤ ls.length ∧ ∀ k, k < i → lgB a (ls.getD k dLg) = false) (fun i => ls.length - i) 0 ⟨by omega, fun k hk => by omega⟩ (by rfl) (by rfl) (fun i hi => ?_)
  obtain ⟨hi, hp⟩ := hi
  (refine sy1 ?_; try exact True.intro)
  repeat' (first | refine w1g ?_ | refine w1l ?_ | refine w1q ?_ | refine w1b ?_ | refine w1p ?_ | ((first | refine w1r ?_ | refine w1k ?_ | refine w1e ?_); (refine sy1 ?_; try exact True.intro)) | refine an2 ?_ | fail)
  refine W_condD (by rfl) (fun h5 => ?_) (fun h5 => ?_)
  · have hil : i < ls.length := by omega
    have hyes2 := hyes2 i hil
    have hup := @up_all _ i hp
    obtain ⟨x, hx⟩ : ∃ x, ls.getD i dLg = x := ⟨_, rfl⟩
    have hxl := hw x (by rw [← hx]; exact getD_mem' dLg ls i hil)
    have hlb : lgB a x = (!inR x.mi 1 a || !wnB x.ws) := rfl
    have d4 := fn55 x.mi 1 a
    have d5 := fn56 x.ws hxl
    rw [hx] at hyes2 hup
    generalize lgB a x = Bx at *
    generalize inR x.mi 1 a = q1 at *
    generalize wnB x.ws = q2 at *
    repeat' (first | refine w1g ?_ | refine w1l ?_ | refine w1q ?_ | refine w1b ?_ | refine w1p ?_ | ((first | refine w1r ?_ | refine w1k ?_ | refine w1e ?_ | refine CallC.now (d4) ?_ | refine CallC.now (d5) ?_); simp (maxSteps := 400000) (disch := omega) only [push_cast, ↓reduceIte, reduceCtorEq, Nat.reduceAdd, Nat.reduceSub, Nat.reduceEqDiff, Nat.reduceLeDiff, Nat.reduceLT, Nat.reduceBEq, Nat.reduceDiv, Nat.reduceMod, Nat.reducePow, Nat.reduceMul, Int.reduceToNat, Int.reduceLT, Int.reduceLE, hx]) | refine an2 ?_ | fail)
    rw [← hlb]
    cases Bx
    · refine W_cond (by rfl) (fun h => by cases h) (fun _ => ?_)
      repeat' (first | refine w1g ?_ | refine w1l ?_ | refine w1q ?_ | refine w1b ?_ | refine w1p ?_ | ((first | refine w1r ?_ | refine w1k ?_ | refine w1e ?_); (refine sy1 ?_; try exact True.intro)) | refine an2 ?_ | fail)
      refine ⟨i + 1, ⟨by omega, hup rfl⟩, by omega, by rfl, ?_⟩
      (refine syE ?_; try exact True.intro)
    · rw [hyes2 rfl, if_pos rfl]
      refine W_cond (by rfl) (fun _ => ?_) (fun h => by cases h)
      repeat' (first | refine w1g ?_ | refine w1l ?_ | refine w1q ?_ | refine w1b ?_ | refine w1p ?_ | ((first | refine w1r ?_ | refine w1k ?_ | refine w1e ?_); (refine sy1 ?_; try exact True.intro)) | refine an2 ?_ | fail)
      exact W_ret ⟨[_], ⟨rfl, rfl⟩, rfl⟩
  rw [hno2 fun k hk => hp k (by omega), if_neg (by decide)]
  repeat' (first | refine w1g ?_ | refine w1l ?_ | refine w1q ?_ | refine w1b ?_ | refine w1p ?_ | ((first | refine w1r ?_ | refine w1k ?_ | refine w1e ?_ | refine CallC.now (d3) ?_); (refine sy1 ?_; try exact True.intro)) | refine an2 ?_ | fail)
  cases x5
  · refine W_cond (by rfl) (fun _ => ?_) (fun h => by cases h)
    repeat' (first | refine w1g ?_ | refine w1l ?_ | refine w1q ?_ | refine w1b ?_ | refine w1p ?_ | ((first | refine w1r ?_ | refine w1k ?_ | refine w1e ?_); (refine sy1 ?_; try exact True.intro)) | refine an2 ?_ | fail)
    exact W_ret ⟨[_], ⟨rfl, rfl⟩, rfl⟩
  · refine W_cond (by rfl) (fun h => by cases h) (fun _ => ?_)
    repeat' (first | refine w1g ?_ | refine w1l ?_ | refine w1q ?_ | refine w1b ?_ | refine w1p ?_ | ((first | refine w1r ?_ | refine w1k ?_ | refine w1e ?_); (refine sy1 ?_; try exact True.intro)) | refine an2 ?_ | fail)
    exact W_ret ⟨[_], ⟨rfl, rfl⟩, rfl⟩
end Go.Proofs.Ytoiohkjomcbadaa

namespace Go.Proofs.Ytoiohkjomcbadaa
open Go Sy
set_option maxRecDepth 100000
set_option maxHeartbeats 4000000
set_option linter.unusedVariables false
set_option linter.unusedSimpArgs false
abbrev gl (ls : List Lg) (i : Nat) : Lg := ls.getD i dLg
structure OkC (ls : List Lg) (a b st : Int) : Prop where
  n : ls.length ≤ 12
  w : ∀ i, i < ls.length → (gl ls i).ws.length ≤ 32
  ra : 1 ≤ a ∧ a ≤ 10080
  rb : 1 ≤ b ∧ b ≤ 10080
  m : ∀ i, i < ls.length → 1 ≤ (gl ls i).mi ∧ (gl ls i).mi ≤ a
  k : ∀ i, i < ls.length → WnOk 0 (gl ls i).ws
  s : 0 ≤ st ∧ st ≤ 1099511627776
theorem crE_ok {ls : List Lg} {a b st : Int} (h : crE ls a b st = 0) : OkC ls a b st := by
  unfold crE at h
  split at h
  · cases h
  rename_i h1
  split at h
  · cases h
  rename_i h2
  split at h
  rotate_left
  · cases h
  rename_i h3
  simp only [Bool.or_eq_true, decide_eq_true_eq, not_or, Bool.not_eq_true', Bool.not_eq_false] at h1 h2
  obtain ⟨h1, h4⟩ := h1
  obtain ⟨⟨h5, h6⟩, h7⟩ := h2
  have q1 : ∀ i, i < ls.length → ¬ wlB (gl ls i) = true := fun i hi q => h4 (List.any_eq_true.2 ⟨_, getD_mem' dLg ls i hi, q⟩)
  have q2 : ∀ i, i < ls.length → ¬ lgB a (gl ls i) = true := fun i hi q => h7 (List.any_eq_true.2 ⟨_, getD_mem' dLg ls i hi, q⟩)
  have q3 : ∀ i, i < ls.length → inR (gl ls i).mi 1 a = true ∧ wnB (gl ls i).ws = true := fun i hi => by
    have := q2 i hi
    unfold lgB at this
    cases x : inR (gl ls i).mi 1 a <;> cases y : wnB (gl ls i).ws <;> simp_all
  refine ⟨by omega, fun i hi => ?_, inR_iff.1 h5, inR_iff.1 h6, fun i hi => inR_iff.1 (q3 i hi).1, fun i hi => wnB_iff.1 (q3 i hi).2, inR_iff.1 h3⟩
  have := q1 i hi
  unfold wlB at this
  rw [decide_eq_true_eq] at this
  omega
def peC (ls : List Lg) (st : Int) (l : List Int) (i : Nat) : Int := if i = 0 then st else gi l (i - 1) + (gl ls (i - 1)).mi
def b1C (ls : List Lg) (st : Int) (l : List Int) (i : Nat) : Bool := decide (gi l i < peC ls st l i) || !fitB (gl ls i).mi (gi l i) (gl ls i).ws
def dvC (ls : List Lg) (b : Int) (l : List Int) : Nat → Int
  | 0 => 0
  | i + 1 => (if 0 < i ∧ b ≤ gi l i - peC ls 0 l i then 0 else dvC ls b l i) + (gl ls i).mi
def b2C (ls : List Lg) (a b : Int) (l : List Int) (i : Nat) : Bool := decide (a < dvC ls b l (i + 1))
def ckE (ls : List Lg) (a b st : Int) (l : List Int) : Int := if crE ls a b st = 0 then (if l.length = ls.length then (if 0 ≤ fstI (b1C ls st l) ls.length then 21 else if 0 ≤ fstI (b2C ls a b l) ls.length then 12 else 0) else 17) else crE ls a b st
def ckI (ls : List Lg) (a b st : Int) (l : List Int) : Int := if crE ls a b st = 0 then (if l.length = ls.length then (if 0 ≤ fstI (b1C ls st l) ls.length then fstI (b1C ls st l) ls.length else if 0 ≤ fstI (b2C ls a b l) ls.length then fstI (b2C ls a b l) ls.length else 0) else 0) else 0
theorem dvC_rng {ls : List Lg} {a b st : Int} (h : OkC ls a b st) (l : List Int) : ∀ i, i ≤ ls.length → 0 ≤ dvC ls b l i ∧ dvC ls b l i ≤ 10080 * (i : Int)
  | 0, _ => ⟨Int.le_refl 0, Int.le_refl 0⟩
  | i + 1, hi => by
    have ih := dvC_rng h l i (by omega)
    have := h.m i (by omega)
    have := h.ra
    show 0 ≤ (if 0 < i ∧ b ≤ gi l i - peC ls 0 l i then 0 else dvC ls b l i) + (gl ls i).mi ∧ _ + (gl ls i).mi ≤ _
    push_cast
    split <;> omega
theorem fit_rng {mi x : Int} {ws : List Wn} (hw : WnOk 0 ws) (hm : 0 ≤ mi) (h : fitB mi x ws = true) : 0 ≤ x ∧ x ≤ 1099511627776 := by
  obtain ⟨w, hw1, h1, h2⟩ := fitB_iff.1 h
  have := hw.all w hw1
  omega
theorem fn34 (ls : List Lg) (a b st : Int) (l : List Int) (hl : ls.length ≤ 140737488355328) (hw : ∀ x ∈ ls, x.ws.length ≤ 140737488355328) (hll : l.length ≤ 140737488355328) : Sy.Fn Try.prog 34 [aL ls, iv a, iv b, iv st, aI l] (.tup [iv (ckI ls a b st l), iv (ckE ls a b st l)]) := by
  refine Fn_of_W mixed Xt34 rfl ?_
  have c76 := fn76 ls a b st hl hw
  have eE : ckE ls a b st l = if crE ls a b st = 0 then (if l.length = ls.length then (if 0 ≤ fstI (b1C ls st l) ls.length then 21 else if 0 ≤ fstI (b2C ls a b l) ls.length then 12 else 0) else 17) else crE ls a b st := rfl
  have eI : ckI ls a b st l = if crE ls a b st = 0 then (if l.length = ls.length then (if 0 ≤ fstI (b1C ls st l) ls.length then fstI (b1C ls st l) ls.length else if 0 ≤ fstI (b2C ls a b l) ls.length then fstI (b2C ls a b l) ls.length else 0) else 0) else 0 := rfl
  rw [eE, eI]
  by_cases h0 : crE ls a b st = 0
  rotate_left
  · rw [if_neg h0, if_neg h0]
    generalize crE ls a b st = E at *
    repeat' (first | refine w1g ?_ | refine w1l ?_ | refine w1q ?_ | refine w1b ?_ | refine w1p ?_ | ((first | refine w1r ?_ | refine w1k ?_ | refine w1e ?_ | refine CallC.now (c76) ?_); (refine sy1 ?_; try exact True.intro)) | refine an2 ?_ | fail)
    refine W_cond (by rfl) (fun _ => ?_) (fun h => absurd (by simpa using h) h0)
    repeat' (first | refine w1g ?_ | refine w1l ?_ | refine w1q ?_ | refine w1b ?_ | refine w1p ?_ | ((first | refine w1r ?_ | refine w1k ?_ | refine w1e ?_); (refine sy1 ?_; try exact True.intro)) | refine an2 ?_ | fail)
    exact W_ret ⟨[_, _], ⟨rfl, rfl, rfl⟩, rfl⟩
  rw [if_pos h0, if_pos h0]
  have hok := crE_ok h0
  rw [h0] at c76
  repeat' (first | refine w1g ?_ | refine w1l ?_ | refine w1q ?_ | refine w1b ?_ | refine w1p ?_ | ((first | refine w1r ?_ | refine w1k ?_ | refine w1e ?_ | refine CallC.now (c76) ?_); (refine sy1 ?_; try exact True.intro)) | refine an2 ?_ | fail)
  refine W_cond (by rfl) (fun h => by cases h) (fun _ => ?_)
  repeat' (first | refine w1g ?_ | refine w1l ?_ | refine w1q ?_ | refine w1b ?_ | refine w1p ?_ | ((first | refine w1r ?_ | refine w1k ?_ | refine w1e ?_); (refine sy1 ?_; try exact True.intro)) | refine an2 ?_ | fail)
  by_cases h2 : l.length = ls.length
  rotate_left
  · rw [if_neg h2, if_neg h2, show ((l.length : Int) != (ls.length : Int)) = true from bne_iff_ne.2 (by omega)]
    refine W_cond (by rfl) (fun _ => ?_) (fun h => by cases h)
    repeat' (first | refine w1g ?_ | refine w1l ?_ | refine w1q ?_ | refine w1b ?_ | refine w1p ?_ | ((first | refine w1r ?_ | refine w1k ?_ | refine w1e ?_); (refine sy1 ?_; try exact True.intro)) | refine an2 ?_ | fail)
    exact W_ret ⟨[_, _], ⟨rfl, rfl, rfl⟩, rfl⟩
  rw [if_pos h2, if_pos h2, show ((l.length : Int) != (ls.length : Int)) = false by rw [h2, bne_self_eq_false]]
  refine W_cond (by rfl) (fun h => by cases h) (fun _ => ?_)
  have hn := hok.n
  have hdr := fun i hi => dvC_rng hok l i hi
  have hat1 := fun i hi hj h => fstI_at (p := b1C ls st l) (n := ls.length) (i := i) hi hj h
  have hno1 := fun h => fstI_none (p := b1C ls st l) (n := ls.length) h
  have hat2 := fun i hi hj h => fstI_at (p := b2C ls a b l) (n := ls.length) (i := i) hi hj h
  have hno2 := fun h => fstI_none (p := b2C ls a b l) (n := ls.length) h
  generalize fstI (b1C ls st l) ls.length = f1 at *
  generalize fstI (b2C ls a b l) ls.length = f2 at *
  repeat' (first | refine w1g ?_ | refine w1l ?_ | refine w1q ?_ | refine w1b ?_ | refine w1p ?_ | ((first | refine w1r ?_ | refine w1k ?_ | refine w1e ?_); (refine sy1 ?_; try exact True.intro)) | refine an2 ?_ | fail)
  refine W_loopU (fun i : Nat => [(13, iv (peC ls st l i)), (14, iv i)]) (fun i => []) (fun i => i ≤ ls.length ∧ ∀ k, k < i → b1C ls st l k = false) (fun i => ls.length - i) 0 ⟨by omega, fun k hk => by omega⟩ (by rfl) (by rfl) (fun i hi => ?_)
  obtain ⟨hi, hp⟩ := hi
  (refine sy1 ?_; try exact True.intro)
  repeat' (first | refine w1g ?_ | refine w1l ?_ | refine w1q ?_ | refine w1b ?_ | refine w1p ?_ | ((first | refine w1r ?_ | refine w1k ?_ | refine w1e ?_); (refine sy1 ?_; try exact True.intro)) | refine an2 ?_ | fail)
  refine W_condD (by rfl) (fun h5 => ?_) (fun h5 => ?_)
  · have hil : i < ls.length := by omega
    have hat := hat1 i hil hp
    have hup := @up_all _ i hp
    have hm := hok.m i hil
    have ha := hok.ra
    have hk := hok.k i hil
    have hw2 := hok.w i hil
    have hb1 : b1C ls st l i = (decide (gi l i < peC ls st l i) || !fitB (gl ls i).mi (gi l i) (gl ls i).ws) := rfl
    have hgl : ls.getD i dLg = gl ls i := rfl
    have hgi : l.getD i 0 = gi l i := rfl
    have c77 := fn77 (gl ls i).ws (gl ls i).mi (gi l i) (by omega) hk ⟨by omega, by omega⟩
    have hfr := fun q => fit_rng (x := gi l i) hk (show 0 ≤ (gl ls i).mi by omega) q
    have hps : peC ls st l (i + 1) = gi l i + (gl ls i).mi := by unfold peC; rw [if_neg (by omega), Nat.add_sub_cancel]
    generalize gl ls i = x at *
    generalize gi l i = y at *
    generalize b1C ls st l i = B at *
    generalize fitB x.mi y x.ws = F at *
    repeat' (first | refine w1g ?_ | refine w1l ?_ | refine w1q ?_ | refine w1b ?_ | refine w1p ?_ | ((first | refine w1r ?_ | refine w1k ?_ | refine w1e ?_ | refine CallC.now (c77) ?_); simp (maxSteps := 400000) (disch := omega) only [push_cast, ↓reduceIte, reduceCtorEq, Nat.reduceAdd, Nat.reduceSub, Nat.reduceEqDiff, Nat.reduceLeDiff, Nat.reduceLT, Nat.reduceBEq, Nat.reduceDiv, Nat.reduceMod, Nat.reducePow, Nat.reduceMul, Int.reduceToNat, Int.reduceLT, Int.reduceLE, hgl, hgi]) | refine an2 ?_ | fail)
    rw [← hb1]
    cases B
    · refine W_cond (by rfl) (fun h => by cases h) (fun _ => ?_)
      have hF : F = true := by
        cases F
        · rw [Bool.not_false, Bool.or_true] at hb1; cases hb1
        · rfl
      have hfr := hfr hF
      repeat' (first | refine w1g ?_ | refine w1l ?_ | refine w1q ?_ | refine w1b ?_ | refine w1p ?_ | ((first | refine w1r ?_ | refine w1k ?_ | refine w1e ?_); simp (maxSteps := 400000) (disch := omega) only [push_cast, ↓reduceIte, reduceCtorEq, Nat.reduceAdd, Nat.reduceSub, Nat.reduceEqDiff, Nat.reduceLeDiff, Nat.reduceLT, Nat.reduceBEq, Nat.reduceDiv, Nat.reduceMod, Nat.reducePow, Nat.reduceMul, Int.reduceToNat, Int.reduceLT, Int.reduceLE, hgl, hgi]) | refine an2 ?_ | fail)
      refine ⟨i + 1, ⟨by omega, hup rfl⟩, by omega, by rfl, ?_⟩
      rw [hps]
      (refine syE ?_; try exact True.intro)
    · have hf := hat rfl
      rw [if_pos (show 0 ≤ f1 by omega), if_pos (show 0 ≤ f1 by omega), hf]
      refine W_cond (by rfl) (fun _ => ?_) (fun h => by cases h)
      repeat' (first | refine w1g ?_ | refine w1l ?_ | refine w1q ?_ | refine w1b ?_ | refine w1p ?_ | ((first | refine w1r ?_ | refine w1k ?_ | refine w1e ?_); (refine sy1 ?_; try exact True.intro)) | refine an2 ?_ | fail)
      exact W_ret ⟨[_, _], ⟨rfl, rfl, rfl⟩, rfl⟩
  obtain rfl : i = ls.length := by omega
  have hf1 := hno1 fun k hk => hp k (by omega)
  rw [if_neg (show ¬ 0 ≤ f1 by omega), if_neg (show ¬ 0 ≤ f1 by omega)]
  have hlr : ∀ i, i < ls.length → 0 ≤ gi l i ∧ gi l i ≤ 1099511627776 := fun i hi => by
    have h1 := hp i hi
    unfold b1C at h1
    rw [Bool.or_eq_false_iff] at h1
    have hm := hok.m i hi
    exact fit_rng (mi := (gl ls i).mi) (hok.k i hi) (by omega) (by simpa using h1.2)
  clear hat1 hno1 hf1 hp
  repeat' (first | refine w1g ?_ | refine w1l ?_ | refine w1q ?_ | refine w1b ?_ | refine w1p ?_ | ((first | refine w1r ?_ | refine w1k ?_ | refine w1e ?_); (refine sy1 ?_; try exact True.intro)) | refine an2 ?_ | fail)
  refine W_loopU (fun i : Nat => [(15, iv (dvC ls b l i)), (16, iv i)]) (fun i => []) (fun i => i ≤ ls.length ∧ ∀ k, k < i → b2C ls a b l k = false) (fun i => ls.length - i) 0 ⟨by omega, fun k hk => by omega⟩ (by rfl) (by rfl) (fun i hi => ?_)
  obtain ⟨hi, hp⟩ := hi
  (refine sy1 ?_; try exact True.intro)
  repeat' (first | refine w1g ?_ | refine w1l ?_ | refine w1q ?_ | refine w1b ?_ | refine w1p ?_ | ((first | refine w1r ?_ | refine w1k ?_ | refine w1e ?_); (refine sy1 ?_; try exact True.intro)) | refine an2 ?_ | fail)
  refine W_condD (by rfl) (fun h6 => ?_) (fun h6 => ?_)
  · have hil : i < ls.length := by omega
    have hat := hat2 i hil hp
    have hup := @up_all _ i hp
    have hm := hok.m i hil
    have ha := hok.ra
    have hb := hok.rb
    have hdi := hdr i hi
    have hyi := hlr i hil
    have hpv : 0 < i → (1 ≤ (gl ls (i - 1)).mi ∧ (gl ls (i - 1)).mi ≤ a) ∧ 0 ≤ gi l (i - 1) ∧ gi l (i - 1) ≤ 1099511627776 := fun q => ⟨hok.m (i - 1) (by omega), hlr (i - 1) (by omega)⟩
    have hb2 : b2C ls a b l i = decide (a < dvC ls b l (i + 1)) := rfl
    have hds : dvC ls b l (i + 1) = (if 0 < i ∧ b ≤ gi l i - peC ls 0 l i then 0 else dvC ls b l i) + (gl ls i).mi := rfl
    have hpe : 0 < i → peC ls 0 l i = gi l (i - 1) + (gl ls (i - 1)).mi := fun q => by unfold peC; rw [if_neg (by omega)]
    have hgl : ls.getD i dLg = gl ls i := rfl
    have hgi : l.getD i 0 = gi l i := rfl
    have hgl2 : ls.getD (i - 1) dLg = gl ls (i - 1) := rfl
    have hgi2 : l.getD (i - 1) 0 = gi l (i - 1) := rfl
    have hit : ((i : Int) - 1).toNat = i - 1 := by omega
    have hz : i = 0 → (ls.getD (i - 1) dLg).mi = (gl ls (i - 1)).mi := fun _ => rfl
    generalize peC ls 0 l i = pe at *
    generalize gl ls i = x at *
    generalize gi l i = y at *
    generalize gl ls (i - 1) = x' at *
    generalize gi l (i - 1) = y' at *
    generalize b2C ls a b l i = B at *
    obtain ⟨dv', hdn⟩ : ∃ d, dvC ls b l (i + 1) = d := ⟨_, rfl⟩
    rw [hdn] at hb2 hds
    generalize dvC ls b l i = dv at *
    repeat' (first | refine w1g ?_ | refine w1l ?_ | refine w1q ?_ | refine w1b ?_ | refine w1p ?_ | ((first | refine w1r ?_ | refine w1k ?_ | refine w1e ?_); simp (maxSteps := 400000) (disch := omega) only [push_cast, ↓reduceIte, reduceCtorEq, Nat.reduceAdd, Nat.reduceSub, Nat.reduceEqDiff, Nat.reduceLeDiff, Nat.reduceLT, Nat.reduceBEq, Nat.reduceDiv, Nat.reduceMod, Nat.reducePow, Nat.reduceMul, Int.reduceToNat, Int.reduceLT, Int.reduceLE, hgl, hgi, hit, hgl2, hgi2]) | refine an2 ?_ | fail)
    have hcnd : (decide ((0 : Int) < (i : Int)) && decide (b ≤ IntKind.i64.wrap (IntKind.i64.wrap (y - y') - x'.mi))) = decide (0 < i ∧ b ≤ y - pe) := by
      by_cases q : 0 < i
      · obtain ⟨v1, v2⟩ := hpv q
        have := hpe q
        rw [wrap64 (x := y - y') ⟨by omega, by omega⟩, wrap64 (x := y - y' - x'.mi) ⟨by omega, by omega⟩, decide_eq_true (show (0 : Int) < (i : Int) by omega), Bool.true_and]
        exact decide_eq_decide.2 (by omega)
      · rw [decide_eq_false (show ¬ (0 : Int) < (i : Int) by omega), Bool.false_and]
        exact (decide_eq_false (fun z => q z.1)).symm
    rw [hcnd]
    by_cases hq : 0 < i ∧ b ≤ y - pe
    · rw [if_pos hq] at hds
      rw [decide_eq_true hq]
      refine W_cond (by rfl) (fun _ => ?_) (fun h => by cases h)
      repeat' (first | refine w1g ?_ | refine w1l ?_ | refine w1q ?_ | refine w1b ?_ | refine w1p ?_ | ((first | refine w1r ?_ | refine w1k ?_ | refine w1e ?_); simp (maxSteps := 400000) (disch := omega) only [push_cast, ↓reduceIte, reduceCtorEq, Nat.reduceAdd, Nat.reduceSub, Nat.reduceEqDiff, Nat.reduceLeDiff, Nat.reduceLT, Nat.reduceBEq, Nat.reduceDiv, Nat.reduceMod, Nat.reducePow, Nat.reduceMul, Int.reduceToNat, Int.reduceLT, Int.reduceLE, hgl, hgi]) | refine an2 ?_ | fail)
      cases B
      · refine W_condD (by rfl) (fun h7 => ?_) (fun h7 => ?_)
        · exact absurd (decide_eq_true (show a < dv' by omega)) (by rw [← hb2]; decide)
        · repeat' (first | refine w1g ?_ | refine w1l ?_ | refine w1q ?_ | refine w1b ?_ | refine w1p ?_ | ((first | refine w1r ?_ | refine w1k ?_ | refine w1e ?_); (refine sy1 ?_; try exact True.intro)) | refine an2 ?_ | fail)
          refine ⟨i + 1, ⟨by omega, hup rfl⟩, by omega, by rfl, ?_⟩
          rw [hdn]
          (refine syE ?_; try exact True.intro)
          first | done | omega
      · have hf := hat rfl
        have h8 : a < dv' := of_decide_eq_true hb2.symm
        rw [if_pos (show 0 ≤ f2 by omega), if_pos (show 0 ≤ f2 by omega), hf]
        refine W_condD (by rfl) (fun h7 => ?_) (fun h7 => ?_)
        · repeat' (first | refine w1g ?_ | refine w1l ?_ | refine w1q ?_ | refine w1b ?_ | refine w1p ?_ | ((first | refine w1r ?_ | refine w1k ?_ | refine w1e ?_); (refine sy1 ?_; try exact True.intro)) | refine an2 ?_ | fail)
          exact W_ret ⟨[_, _], ⟨rfl, rfl, rfl⟩, rfl⟩
        · omega
    · rw [if_neg hq] at hds
      rw [decide_eq_false hq]
      refine W_cond (by rfl) (fun h => by cases h) (fun _ => ?_)
      repeat' (first | refine w1g ?_ | refine w1l ?_ | refine w1q ?_ | refine w1b ?_ | refine w1p ?_ | ((first | refine w1r ?_ | refine w1k ?_ | refine w1e ?_); simp (maxSteps := 400000) (disch := omega) only [push_cast, ↓reduceIte, reduceCtorEq, Nat.reduceAdd, Nat.reduceSub, Nat.reduceEqDiff, Nat.reduceLeDiff, Nat.reduceLT, Nat.reduceBEq, Nat.reduceDiv, Nat.reduceMod, Nat.reducePow, Nat.reduceMul, Int.reduceToNat, Int.reduceLT, Int.reduceLE, hgl, hgi]) | refine an2 ?_ | fail)
      cases B
      · refine W_condD (by rfl) (fun h7 => ?_) (fun h7 => ?_)
        · exact absurd (decide_eq_true (show a < dv' by omega)) (by rw [← hb2]; decide)
        · repeat' (first | refine w1g ?_ | refine w1l ?_ | refine w1q ?_ | refine w1b ?_ | refine w1p ?_ | ((first | refine w1r ?_ | refine w1k ?_ | refine w1e ?_); (refine sy1 ?_; try exact True.intro)) | refine an2 ?_ | fail)
          refine ⟨i + 1, ⟨by omega, hup rfl⟩, by omega, by rfl, ?_⟩
          rw [hdn]
          (refine syE ?_; try exact True.intro)
          first | done | omega
      · have hf := hat rfl
        have h8 : a < dv' := of_decide_eq_true hb2.symm
        rw [if_pos (show 0 ≤ f2 by omega), if_pos (show 0 ≤ f2 by omega), hf]
        refine W_condD (by rfl) (fun h7 => ?_) (fun h7 => ?_)
        · repeat' (first | refine w1g ?_ | refine w1l ?_ | refine w1q ?_ | refine w1b ?_ | refine w1p ?_ | ((first | refine w1r ?_ | refine w1k ?_ | refine w1e ?_); (refine sy1 ?_; try exact True.intro)) | refine an2 ?_ | fail)
          exact W_ret ⟨[_, _], ⟨rfl, rfl, rfl⟩, rfl⟩
        · omega
  · obtain rfl : i = ls.length := by omega
    have hf2 := hno2 fun k hk => hp k (by omega)
    rw [if_neg (show ¬ 0 ≤ f2 by omega), if_neg (show ¬ 0 ≤ f2 by omega)]
    repeat' (first | refine w1g ?_ | refine w1l ?_ | refine w1q ?_ | refine w1b ?_ | refine w1p ?_ | ((first | refine w1r ?_ | refine w1k ?_ | refine w1e ?_); (refine sy1 ?_; try exact True.intro)) | refine an2 ?_ | fail)
    exact W_ret ⟨[_, _], ⟨rfl, rfl, rfl⟩, rfl⟩
theorem fn33 (ls : List Lg) (a b st : Int) (l : List Int) (hl : ls.length ≤ 140737488355328) (hw : ∀ x ∈ ls, x.ws.length ≤ 140737488355328) (hll : l.length ≤ 140737488355328) : Sy.Fn Try.prog 33 [aL ls, iv a, iv b, iv st, aI l] (.tup [iv (ckI ls a b st l), iv (ckE ls a b st l)]) := by
  refine Fn_of_W mixed Xt33 rfl ?_
  have c74 := fn74 ls a b st hl hw
  have hcC : cCr ls a b st = [aL ls, iv a, iv b, iv st] := rfl
  rw [hcC] at c74
  have eE : ckE ls a b st l = if crE ls a b st = 0 then (if l.length = ls.length then (if 0 ≤ fstI (b1C ls st l) ls.length then 21 else if 0 ≤ fstI (b2C ls a b l) ls.length then 12 else 0) else 17) else crE ls a b st := rfl
  have eI : ckI ls a b st l = if crE ls a b st = 0 then (if l.length = ls.length then (if 0 ≤ fstI (b1C ls st l) ls.length then fstI (b1C ls st l) ls.length else if 0 ≤ fstI (b2C ls a b l) ls.length then fstI (b2C ls a b l) ls.length else 0) else 0) else 0 := rfl
  rw [eE, eI]
  by_cases h0 : crE ls a b st = 0
  rotate_left
  · rw [if_neg h0, if_neg h0]
    generalize crE ls a b st = E at *
    repeat' (first | refine w1g ?_ | refine w1l ?_ | refine w1q ?_ | refine w1b ?_ | refine w1p ?_ | ((first | refine w1r ?_ | refine w1k ?_ | refine w1e ?_ | refine CallC.now (c74) ?_); (refine sy1 ?_; try exact True.intro)) | refine an2 ?_ | fail)
    refine W_cond (by rfl) (fun _ => ?_) (fun h => absurd (by simpa using h) h0)
    repeat' (first | refine w1g ?_ | refine w1l ?_ | refine w1q ?_ | refine w1b ?_ | refine w1p ?_ | ((first | refine w1r ?_ | refine w1k ?_ | refine w1e ?_); (refine sy1 ?_; try exact True.intro)) | refine an2 ?_ | fail)
    exact W_ret ⟨[_, _], ⟨rfl, rfl, rfl⟩, rfl⟩
  rw [if_pos h0, if_pos h0]
  have hok := crE_ok h0
  rw [h0] at c74
  repeat' (first | refine w1g ?_ | refine w1l ?_ | refine w1q ?_ | refine w1b ?_ | refine w1p ?_ | ((first | refine w1r ?_ | refine w1k ?_ | refine w1e ?_ | refine CallC.now (c74) ?_); (refine sy1 ?_; try exact True.intro)) | refine an2 ?_ | fail)
  refine W_cond (by rfl) (fun h => by cases h) (fun _ => ?_)
  repeat' (first | refine w1g ?_ | refine w1l ?_ | refine w1q ?_ | refine w1b ?_ | refine w1p ?_ | ((first | refine w1r ?_ | refine w1k ?_ | refine w1e ?_); (refine sy1 ?_; try exact True.intro)) | refine an2 ?_ | fail)
  by_cases h2 : l.length = ls.length
  rotate_left
  · rw [if_neg h2, if_neg h2, show ((l.length : Int) != (ls.length : Int)) = true from bne_iff_ne.2 (by omega)]
    refine W_cond (by rfl) (fun _ => ?_) (fun h => by cases h)
    repeat' (first | refine w1g ?_ | refine w1l ?_ | refine w1q ?_ | refine w1b ?_ | refine w1p ?_ | ((first | refine w1r ?_ | refine w1k ?_ | refine w1e ?_); (refine sy1 ?_; try exact True.intro)) | refine an2 ?_ | fail)
    exact W_ret ⟨[_, _], ⟨rfl, rfl, rfl⟩, rfl⟩
  rw [if_pos h2, if_pos h2, show ((l.length : Int) != (ls.length : Int)) = false by rw [h2, bne_self_eq_false]]
  refine W_cond (by rfl) (fun h => by cases h) (fun _ => ?_)
  have hn := hok.n
  have hdr := fun i hi => dvC_rng hok l i hi
  have hat1 := fun i hi hj h => fstI_at (p := b1C ls st l) (n := ls.length) (i := i) hi hj h
  have hno1 := fun h => fstI_none (p := b1C ls st l) (n := ls.length) h
  have hat2 := fun i hi hj h => fstI_at (p := b2C ls a b l) (n := ls.length) (i := i) hi hj h
  have hno2 := fun h => fstI_none (p := b2C ls a b l) (n := ls.length) h
  generalize fstI (b1C ls st l) ls.length = f1 at *
  generalize fstI (b2C ls a b l) ls.length = f2 at *
  repeat' (first | refine w1g ?_ | refine w1l ?_ | refine w1q ?_ | refine w1b ?_ | refine w1p ?_ | ((first | refine w1r ?_ | refine w1k ?_ | refine w1e ?_); (refine sy1 ?_; try exact True.intro)) | refine an2 ?_ | fail)
  refine W_loopU (fun i : Nat => [(14, iv (peC ls st l i)), (38, iv i)]) (fun i => []) (fun i => i ≤ ls.length ∧ ∀ k, k < i → b1C ls st l k = false) (fun i => ls.length - i) 0 ⟨by omega, fun k hk => by omega⟩ (by rfl) (by rfl) (fun i hi => ?_)
  obtain ⟨hi, hp⟩ := hi
  (refine sy1 ?_; try exact True.intro)
  repeat' (first | refine w1g ?_ | refine w1l ?_ | refine w1q ?_ | refine w1b ?_ | refine w1p ?_ | ((first | refine w1r ?_ | refine w1k ?_ | refine w1e ?_); (refine sy1 ?_; try exact True.intro)) | refine an2 ?_ | fail)
  refine W_condD (by rfl) (fun h5 => ?_) (fun h5 => ?_)
  · have hil : i < ls.length := by omega
    have hat := hat1 i hil hp
    have hup := @up_all _ i hp
    have hm := hok.m i hil
    have ha := hok.ra
    have hk := hok.k i hil
    have hw2 := hok.w i hil
    have hb1 : b1C ls st l i = (decide (gi l i < peC ls st l i) || !fitB (gl ls i).mi (gi l i) (gl ls i).ws) := rfl
    have hgl : ls.getD i dLg = gl ls i := rfl
    have hgi : l.getD i 0 = gi l i := rfl
    have c75 := fn75 (gl ls i).ws (gl ls i).mi (gi l i) (by omega) hk ⟨by omega, by omega⟩
    have hfr := fun q => fit_rng (x := gi l i) hk (show 0 ≤ (gl ls i).mi by omega) q
    have hps : peC ls st l (i + 1) = gi l i + (gl ls i).mi := by unfold peC; rw [if_neg (by omega), Nat.add_sub_cancel]
    generalize gl ls i = x at *
    generalize gi l i = y at *
    generalize b1C ls st l i = B at *
    generalize fitB x.mi y x.ws = F at *
    repeat' (first | refine w1g ?_ | refine w1l ?_ | refine w1q ?_ | refine w1b ?_ | refine w1p ?_ | ((first | refine w1r ?_ | refine w1k ?_ | refine w1e ?_ | refine CallC.now (c75) ?_); simp (maxSteps := 400000) (disch := omega) only [push_cast, ↓reduceIte, reduceCtorEq, Nat.reduceAdd, Nat.reduceSub, Nat.reduceEqDiff, Nat.reduceLeDiff, Nat.reduceLT, Nat.reduceBEq, Nat.reduceDiv, Nat.reduceMod, Nat.reducePow, Nat.reduceMul, Int.reduceToNat, Int.reduceLT, Int.reduceLE, hgl, hgi]) | refine an2 ?_ | fail)
    rw [← hb1]
    cases B
    · refine W_cond (by rfl) (fun h => by cases h) (fun _ => ?_)
      have hF : F = true := by
        cases F
        · rw [Bool.not_false, Bool.or_true] at hb1; cases hb1
        · rfl
      have hfr := hfr hF
      repeat' (first | refine w1g ?_ | refine w1l ?_ | refine w1q ?_ | refine w1b ?_ | refine w1p ?_ | ((first | refine w1r ?_ | refine w1k ?_ | refine w1e ?_); simp (maxSteps := 400000) (disch := omega) only [push_cast, ↓reduceIte, reduceCtorEq, Nat.reduceAdd, Nat.reduceSub, Nat.reduceEqDiff, Nat.reduceLeDiff, Nat.reduceLT, Nat.reduceBEq, Nat.reduceDiv, Nat.reduceMod, Nat.reducePow, Nat.reduceMul, Int.reduceToNat, Int.reduceLT, Int.reduceLE, hgl, hgi]) | refine an2 ?_ | fail)
      refine ⟨i + 1, ⟨by omega, hup rfl⟩, by omega, by rfl, ?_⟩
      rw [hps]
      (refine syE ?_; try exact True.intro)
    · have hf := hat rfl
      rw [if_pos (show 0 ≤ f1 by omega), if_pos (show 0 ≤ f1 by omega), hf]
      refine W_cond (by rfl) (fun _ => ?_) (fun h => by cases h)
      repeat' (first | refine w1g ?_ | refine w1l ?_ | refine w1q ?_ | refine w1b ?_ | refine w1p ?_ | ((first | refine w1r ?_ | refine w1k ?_ | refine w1e ?_); (refine sy1 ?_; try exact True.intro)) | refine an2 ?_ | fail)
      exact W_ret ⟨[_, _], ⟨rfl, rfl, rfl⟩, rfl⟩
  obtain rfl : i = ls.length := by omega
  have hf1 := hno1 fun k hk => hp k (by omega)
  rw [if_neg (show ¬ 0 ≤ f1 by omega), if_neg (show ¬ 0 ≤ f1 by omega)]
  have hlr : ∀ i, i < ls.length → 0 ≤ gi l i ∧ gi l i ≤ 1099511627776 := fun i hi => by
    have h1 := hp i hi
    unfold b1C at h1
    rw [Bool.or_eq_false_iff] at h1
    have hm := hok.m i hi
    exact fit_rng (mi := (gl ls i).mi) (hok.k i hi) (by omega) (by simpa using h1.2)
  clear hat1 hno1 hf1 hp
  repeat' (first | refine w1g ?_ | refine w1l ?_ | refine w1q ?_ | refine w1b ?_ | refine w1p ?_ | ((first | refine w1r ?_ | refine w1k ?_ | refine w1e ?_); (refine sy1 ?_; try exact True.intro)) | refine an2 ?_ | fail)
  refine W_loopU (fun i : Nat => [(14, iv (peC ls 0 l i)), (17, iv (dvC ls b l i)), (72, iv i)]) (fun i => []) (fun i => i ≤ ls.length ∧ ∀ k, k < i → b2C ls a b l k = false) (fun i => ls.length - i) 0 ⟨by omega, fun k hk => by omega⟩ (by rfl) (by rfl) (fun i hi => ?_)
  obtain ⟨hi, hp⟩ := hi
  (refine sy1 ?_; try exact True.intro)
  repeat' (first | refine w1g ?_ | refine w1l ?_ | refine w1q ?_ | refine w1b ?_ | refine w1p ?_ | ((first | refine w1r ?_ | refine w1k ?_ | refine w1e ?_); (refine sy1 ?_; try exact True.intro)) | refine an2 ?_ | fail)
  refine W_condD (by rfl) (fun h6 => ?_) (fun h6 => ?_)
  · have hil : i < ls.length := by omega
    have hat := hat2 i hil hp
    have hup := @up_all _ i hp
    have hm := hok.m i hil
    have ha := hok.ra
    have hb := hok.rb
    have hdi := hdr i hi
    have hyi := hlr i hil
    have hpv : 0 < i → (1 ≤ (gl ls (i - 1)).mi ∧ (gl ls (i - 1)).mi ≤ a) ∧ 0 ≤ gi l (i - 1) ∧ gi l (i - 1) ≤ 1099511627776 := fun q => ⟨hok.m (i - 1) (by omega), hlr (i - 1) (by omega)⟩
    have hb2 : b2C ls a b l i = decide (a < dvC ls b l (i + 1)) := rfl
    have hds : dvC ls b l (i + 1) = (if 0 < i ∧ b ≤ gi l i - peC ls 0 l i then 0 else dvC ls b l i) + (gl ls i).mi := rfl
    have hpe : 0 < i → peC ls 0 l i = gi l (i - 1) + (gl ls (i - 1)).mi := fun q => by unfold peC; rw [if_neg (by omega)]
    have hpn : peC ls 0 l (i + 1) = gi l i + (gl ls i).mi := by unfold peC; rw [if_neg (by omega), Nat.add_sub_cancel]
    have hgl : ls.getD i dLg = gl ls i := rfl
    have hgi : l.getD i 0 = gi l i := rfl
    have hgl2 : ls.getD (i - 1) dLg = gl ls (i - 1) := rfl
    have hgi2 : l.getD (i - 1) 0 = gi l (i - 1) := rfl
    have hit : ((i : Int) - 1).toNat = i - 1 := by omega
    have hz : i = 0 → (ls.getD (i - 1) dLg).mi = (gl ls (i - 1)).mi := fun _ => rfl
    generalize peC ls 0 l i = pe at *
    generalize gl ls i = x at *
    generalize gi l i = y at *
    generalize gl ls (i - 1) = x' at *
    generalize gi l (i - 1) = y' at *
    generalize b2C ls a b l i = B at *
    obtain ⟨dv', hdn⟩ : ∃ d, dvC ls b l (i + 1) = d := ⟨_, rfl⟩
    rw [hdn] at hb2 hds
    generalize dvC ls b l i = dv at *
    repeat' (first | refine w1g ?_ | refine w1l ?_ | refine w1q ?_ | refine w1b ?_ | refine w1p ?_ | ((first | refine w1r ?_ | refine w1k ?_ | refine w1e ?_); simp (maxSteps := 400000) (disch := omega) only [push_cast, ↓reduceIte, reduceCtorEq, Nat.reduceAdd, Nat.reduceSub, Nat.reduceEqDiff, Nat.reduceLeDiff, Nat.reduceLT, Nat.reduceBEq, Nat.reduceDiv, Nat.reduceMod, Nat.reducePow, Nat.reduceMul, Int.reduceToNat, Int.reduceLT, Int.reduceLE, hgl, hgi, hit, hgl2, hgi2]) | refine an2 ?_ | fail)
    have hcnd : (decide ((0 : Int) < (i : Int)) && decide (b ≤ IntKind.i64.wrap (y - pe))) = decide (0 < i ∧ b ≤ y - pe) := by
      by_cases q : 0 < i
      · obtain ⟨v1, v2⟩ := hpv q
        have := hpe q
        rw [wrap64 (x := y - pe) ⟨by omega, by omega⟩, decide_eq_true (show (0 : Int) < (i : Int) by omega), Bool.true_and]
        exact decide_eq_decide.2 (by omega)
      · rw [decide_eq_false (show ¬ (0 : Int) < (i : Int) by omega), Bool.false_and]
        exact (decide_eq_false (fun z => q z.1)).symm
    rw [hcnd]
    by_cases hq : 0 < i ∧ b ≤ y - pe
    · rw [if_pos hq] at hds
      rw [decide_eq_true hq]
      refine W_cond (by rfl) (fun _ => ?_) (fun h => by cases h)
      repeat' (first | refine w1g ?_ | refine w1l ?_ | refine w1q ?_ | refine w1b ?_ | refine w1p ?_ | ((first | refine w1r ?_ | refine w1k ?_ | refine w1e ?_); simp (maxSteps := 400000) (disch := omega) only [push_cast, ↓reduceIte, reduceCtorEq, Nat.reduceAdd, Nat.reduceSub, Nat.reduceEqDiff, Nat.reduceLeDiff, Nat.reduceLT, Nat.reduceBEq, Nat.reduceDiv, Nat.reduceMod, Nat.reducePow, Nat.reduceMul, Int.reduceToNat, Int.reduceLT, Int.reduceLE, hgl, hgi]) | refine an2 ?_ | fail)
      cases B
      · refine W_condD (by rfl) (fun h7 => ?_) (fun h7 => ?_)
        · exact absurd (decide_eq_true (show a < dv' by omega)) (by rw [← hb2]; decide)
        · repeat' (first | refine w1g ?_ | refine w1l ?_ | refine w1q ?_ | refine w1b ?_ | refine w1p ?_ | ((first | refine w1r ?_ | refine w1k ?_ | refine w1e ?_); (refine sy1 ?_; try exact True.intro)) | refine an2 ?_ | fail)
          refine ⟨i + 1, ⟨by omega, hup rfl⟩, by omega, by rfl, ?_⟩
          rw [hdn, hpn]
          (refine syE ?_; try exact True.intro)
          first | done | omega
      · have hf := hat rfl
        have h8 : a < dv' := of_decide_eq_true hb2.symm
        rw [if_pos (show 0 ≤ f2 by omega), if_pos (show 0 ≤ f2 by omega), hf]
        refine W_condD (by rfl) (fun h7 => ?_) (fun h7 => ?_)
        · repeat' (first | refine w1g ?_ | refine w1l ?_ | refine w1q ?_ | refine w1b ?_ | refine w1p ?_ | ((first | refine w1r ?_ | refine w1k ?_ | refine w1e ?_); (refine sy1 ?_; try exact True.intro)) | refine an2 ?_ | fail)
          exact W_ret ⟨[_, _], ⟨rfl, rfl, rfl⟩, rfl⟩
        · omega
    · rw [if_neg hq] at hds
      rw [decide_eq_false hq]
      refine W_cond (by rfl) (fun h => by cases h) (fun _ => ?_)
      repeat' (first | refine w1g ?_ | refine w1l ?_ | refine w1q ?_ | refine w1b ?_ | refine w1p ?_ | ((first | refine w1r ?_ | refine w1k ?_ | refine w1e ?_); simp (maxSteps := 400000) (disch := omega) only [push_cast, ↓reduceIte, reduceCtorEq, Nat.reduceAdd, Nat.reduceSub, Nat.reduceEqDiff, Nat.reduceLeDiff, Nat.reduceLT, Nat.reduceBEq, Nat.reduceDiv, Nat.reduceMod, Nat.reducePow, Nat.reduceMul, Int.reduceToNat, Int.reduceLT, Int.reduceLE, hgl, hgi]) | refine an2 ?_ | fail)
      cases B
      · refine W_condD (by rfl) (fun h7 => ?_) (fun h7 => ?_)
        · exact absurd (decide_eq_true (show a < dv' by omega)) (by rw [← hb2]; decide)
        · repeat' (first | refine w1g ?_ | refine w1l ?_ | refine w1q ?_ | refine w1b ?_ | refine w1p ?_ | ((first | refine w1r ?_ | refine w1k ?_ | refine w1e ?_); (refine sy1 ?_; try exact True.intro)) | refine an2 ?_ | fail)
          refine ⟨i + 1, ⟨by omega, hup rfl⟩, by omega, by rfl, ?_⟩
          rw [hdn, hpn]
          (refine syE ?_; try exact True.intro)
          first | done | omega
      · have hf := hat rfl
        have h8 : a < dv' := of_decide_eq_true hb2.symm
        rw [if_pos (show 0 ≤ f2 by omega), if_pos (show 0 ≤ f2 by omega), hf]
        refine W_condD (by rfl) (fun h7 => ?_) (fun h7 => ?_)
        · repeat' (first | refine w1g ?_ | refine w1l ?_ | refine w1q ?_ | refine w1b ?_ | refine w1p ?_ | ((first | refine w1r ?_ | refine w1k ?_ | refine w1e ?_); (refine sy1 ?_; try exact True.intro)) | refine an2 ?_ | fail)
          exact W_ret ⟨[_, _], ⟨rfl, rfl, rfl⟩, rfl⟩
        · omega
  · obtain rfl : i = ls.length := by omega
    have hf2 := hno2 fun k hk => hp k (by omega)
    rw [if_neg (show ¬ 0 ≤ f2 by omega), if_neg (show ¬ 0 ≤ f2 by omega)]
    repeat' (first | refine w1g ?_ | refine w1l ?_ | refine w1q ?_ | refine w1b ?_ | refine w1p ?_ | ((first | refine w1r ?_ | refine w1k ?_ | refine w1e ?_); (refine sy1 ?_; try exact True.intro)) | refine an2 ?_ | fail)
    exact W_ret ⟨[_, _], ⟨rfl, rfl, rfl⟩, rfl⟩
end Go.Proofs.Ytoiohkjomcbadaa

namespace Go.Proofs.Ytoiohkjomcbadaa
open Go Sy
set_option maxRecDepth 100000
set_option maxHeartbeats 4000000
set_option linter.unusedVariables false
set_option linter.unusedSimpArgs false
def lxC : List Int → List Int → Int
  | [], [] => 0
  | [], _ => -1
  | _ :: _, [] => 1
  | x :: l, y :: m => if cmI x y = 0 then lxC l m else cmI x y
theorem lx_at {l m : List Int} (hl : l.length = m.length) : ∀ i, i ≤ l.length → (∀ k, k < i → gi l k = gi m k) → lxC l m = lxC (l.drop i) (m.drop i) := by
  intro i
  induction i with
  | zero => intro _ _; rfl
  | succ i ih =>
    intro hi hk
    rw [ih (by omega) (fun k h => hk k (by omega))]
    have h1 : i < l.length := by omega
    have h2 : i < m.length := by omega
    rw [List.drop_eq_getElem_cons h1, List.drop_eq_getElem_cons h2]
    have h3 := hk i (by omega)
    have e1 : gi l i = l[i] := by show l.getD i 0 = _; rw [List.getD_eq_getElem?_getD, List.getElem?_eq_getElem h1]; rfl
    have e2 : gi m i = m[i] := by show m.getD i 0 = _; rw [List.getD_eq_getElem?_getD, List.getElem?_eq_getElem h2]; rfl
    show (if cmI l[i] m[i] = 0 then _ else _) = _
    rw [if_pos (by rw [cm_eq]; omega)]
theorem lx_eq {l m : List Int} (hl : l.length = m.length) (h : ∀ k, k < l.length → gi l k = gi m k) : lxC l m = 0 := by
  rw [lx_at hl l.length (Nat.le_refl _) h, List.drop_length, hl, List.drop_length]
  rfl
theorem lx_ne {l m : List Int} (hl : l.length = m.length) {i : Nat} (hi : i < l.length) (h : ∀ k, k < i → gi l k = gi m k) (hn : gi l i ≠ gi m i) : lxC l m = cmI (gi l i) (gi m i) := by
  rw [lx_at hl i (by omega) h]
  have h1 : i < l.length := by omega
  have h2 : i < m.length := by omega
  rw [List.drop_eq_getElem_cons h1, List.drop_eq_getElem_cons h2]
  have e1 : gi l i = l[i] := by show l.getD i 0 = _; rw [List.getD_eq_getElem?_getD, List.getElem?_eq_getElem h1]; rfl
  have e2 : gi m i = m[i] := by show m.getD i 0 = _; rw [List.getD_eq_getElem?_getD, List.getElem?_eq_getElem h2]; rfl
  show (if cmI l[i] m[i] = 0 then _ else cmI l[i] m[i]) = _
  rw [if_neg (by rw [cm_eq]; omega), e1, e2]
theorem fn83 (l m : List Int) (hl : l.length = m.length) (hb : l.length ≤ 1000000) : Sy.Fn Try.prog 83 [aI l, aI m] (bv (decide (lxC l m < 0))) := by
  refine Fn_of_W mixed Xt83 rfl ?_
  have hne := fun i hi h hn => lx_ne hl (i := i) hi h hn
  have heq := lx_eq hl
  generalize lxC l m = V at *
  repeat' (first | refine w1g ?_ | refine w1l ?_ | refine w1q ?_ | refine w1b ?_ | refine w1p ?_ | ((first | refine w1r ?_ | refine w1k ?_ | refine w1e ?_); (refine sy1 ?_; try exact True.intro)) | refine an2 ?_ | fail)
  refine W_loopU (fun i : Nat => [(5, iv i)]) (fun i => []) (fun i => i ≤ l.length ∧ ∀ k, k < i → gi l k = gi m k) (fun i => l.length - i) 0 ⟨by omega, fun k hk => by omega⟩ (by rfl) (by rfl) (fun i hi => ?_)
  obtain ⟨hi, hp⟩ := hi
  (refine sy1 ?_; try exact True.intro)
  repeat' (first | refine w1g ?_ | refine w1l ?_ | refine w1q ?_ | refine w1b ?_ | refine w1p ?_ | ((first | refine w1r ?_ | refine w1k ?_ | refine w1e ?_); (refine sy1 ?_; try exact True.intro)) | refine an2 ?_ | fail)
  refine W_condD (by rfl) (fun h5 => ?_) (fun h5 => ?_)
  · have hil : i < l.length := by omega
    have hne := hne i hil hp
    have hup := @up_all _ i hp
    have g1 : l.getD i 0 = gi l i := rfl
    have g2 : m.getD i 0 = gi m i := rfl
    generalize gi l i = x at *
    generalize gi m i = y at *
    repeat' (first | refine w1g ?_ | refine w1l ?_ | refine w1q ?_ | refine w1b ?_ | refine w1p ?_ | ((first | refine w1r ?_ | refine w1k ?_ | refine w1e ?_); simp (maxSteps := 400000) (disch := omega) only [push_cast, ↓reduceIte, reduceCtorEq, Nat.reduceAdd, Nat.reduceSub, Nat.reduceEqDiff, Nat.reduceLeDiff, Nat.reduceLT, Nat.reduceBEq, Nat.reduceDiv, Nat.reduceMod, Nat.reducePow, Nat.reduceMul, Int.reduceToNat, Int.reduceLT, Int.reduceLE, g1, g2]) | refine an2 ?_ | fail)
    by_cases q : x = y
    · rw [show (x != y) = false by rw [q, bne_self_eq_false]]
      refine W_cond (by rfl) (fun h => by cases h) (fun _ => ?_)
      repeat' (first | refine w1g ?_ | refine w1l ?_ | refine w1q ?_ | refine w1b ?_ | refine w1p ?_ | ((first | refine w1r ?_ | refine w1k ?_ | refine w1e ?_); (refine sy1 ?_; try exact True.intro)) | refine an2 ?_ | fail)
      refine ⟨i + 1, ⟨by omega, hup q⟩, by omega, by rfl, ?_⟩
      (refine syE ?_; try exact True.intro)
    · rw [show (x != y) = true from bne_iff_ne.2 q, hne q, show decide (cmI x y < 0) = decide (x < y) from decide_eq_decide.2 (cm_lt x y)]
      refine W_cond (by rfl) (fun _ => ?_) (fun h => by cases h)
      repeat' (first | refine w1g ?_ | refine w1l ?_ | refine w1q ?_ | refine w1b ?_ | refine w1p ?_ | ((first | refine w1r ?_ | refine w1k ?_ | refine w1e ?_); simp (maxSteps := 400000) (disch := omega) only [push_cast, ↓reduceIte, reduceCtorEq, Nat.reduceAdd, Nat.reduceSub, Nat.reduceEqDiff, Nat.reduceLeDiff, Nat.reduceLT, Nat.reduceBEq, Nat.reduceDiv, Nat.reduceMod, Nat.reducePow, Nat.reduceMul, Int.reduceToNat, Int.reduceLT, Int.reduceLE, g1, g2]) | refine an2 ?_ | fail)
      exact W_ret ⟨[_], ⟨rfl, rfl⟩, rfl⟩
  · rw [heq fun k hk => hp k (by omega)]
    repeat' (first | refine w1g ?_ | refine w1l ?_ | refine w1q ?_ | refine w1b ?_ | refine w1p ?_ | ((first | refine w1r ?_ | refine w1k ?_ | refine w1e ?_); (refine sy1 ?_; try exact True.intro)) | refine an2 ?_ | fail)
    exact W_ret ⟨[_], ⟨rfl, rfl⟩, rfl⟩
theorem fn120 (l m : List Int) (hl : l.length = m.length) (hb : l.length ≤ 1000000) : Sy.Fn Try.prog 120 [aI l, aI m] (iv (lxC l m)) := by
  refine Fn_of_W mixed Xt120 rfl ?_
  have hne := fun i hi h hn => lx_ne hl (i := i) hi h hn
  have heq := lx_eq hl
  generalize lxC l m = V at *
  repeat' (first | refine w1g ?_ | refine w1l ?_ | refine w1q ?_ | refine w1b ?_ | refine w1p ?_ | ((first | refine w1r ?_ | refine w1k ?_ | refine w1e ?_); (refine sy1 ?_; try exact True.intro)) | refine an2 ?_ | fail)
  refine W_loopU (fun i : Nat => [(11, iv i)]) (fun i => []) (fun i => i ≤ l.length ∧ ∀ k, k < i → gi l k = gi m k) (fun i => l.length - i) 0 ⟨by omega, fun k hk => by omega⟩ (by rfl) (by rfl) (fun i hi => ?_)
  obtain ⟨hi, hp⟩ := hi
  (refine sy1 ?_; try exact True.intro)
  repeat' (first | refine w1g ?_ | refine w1l ?_ | refine w1q ?_ | refine w1b ?_ | refine w1p ?_ | ((first | refine w1r ?_ | refine w1k ?_ | refine w1e ?_); (refine sy1 ?_; try exact True.intro)) | refine an2 ?_ | fail)
  refine W_condD (by rfl) (fun h5 => ?_) (fun h5 => ?_)
  · have hil : i < l.length := by omega
    have hne := hne i hil hp
    have hup := @up_all _ i hp
    have c100 := fn100 (gi l i) (gi m i)
    have g1 : l.getD i 0 = gi l i := rfl
    have g2 : m.getD i 0 = gi m i := rfl
    have hce := cm_eq (gi l i) (gi m i)
    generalize gi l i = x at *
    generalize gi m i = y at *
    generalize cmI x y = z at *
    repeat' (first | refine w1g ?_ | refine w1l ?_ | refine w1q ?_ | refine w1b ?_ | refine w1p ?_ | ((first | refine w1r ?_ | refine w1k ?_ | refine w1e ?_); simp (maxSteps := 400000) (disch := omega) only [push_cast, ↓reduceIte, reduceCtorEq, Nat.reduceAdd, Nat.reduceSub, Nat.reduceEqDiff, Nat.reduceLeDiff, Nat.reduceLT, Nat.reduceBEq, Nat.reduceDiv, Nat.reduceMod, Nat.reducePow, Nat.reduceMul, Int.reduceToNat, Int.reduceLT, Int.reduceLE, g1, g2]) | refine an2 ?_ | fail)
    refine W_condD (by rfl) (fun h6 => absurd h6 (by omega)) (fun h6 => ?_)
    repeat' (first | refine w1g ?_ | refine w1l ?_ | refine w1q ?_ | refine w1b ?_ | refine w1p ?_ | ((first | refine w1r ?_ | refine w1k ?_ | refine w1e ?_ | refine CallC.now (c100) ?_); simp (maxSteps := 400000) (disch := omega) only [push_cast, ↓reduceIte, reduceCtorEq, Nat.reduceAdd, Nat.reduceSub, Nat.reduceEqDiff, Nat.reduceLeDiff, Nat.reduceLT, Nat.reduceBEq, Nat.reduceDiv, Nat.reduceMod, Nat.reducePow, Nat.reduceMul, Int.reduceToNat, Int.reduceLT, Int.reduceLE, g1, g2]) | refine an2 ?_ | fail)
    by_cases q : x = y
    · rw [show (z != 0) = false by rw [hce.2 q]; rfl]
      refine W_cond (by rfl) (fun h => by cases h) (fun _ => ?_)
      repeat' (first | refine w1g ?_ | refine w1l ?_ | refine w1q ?_ | refine w1b ?_ | refine w1p ?_ | ((first | refine w1r ?_ | refine w1k ?_ | refine w1e ?_); (refine sy1 ?_; try exact True.intro)) | refine an2 ?_ | fail)
      refine ⟨i + 1, ⟨by omega, hup q⟩, by omega, by rfl, ?_⟩
      (refine syE ?_; try exact True.intro)
    · rw [show (z != 0) = true from bne_iff_ne.2 fun w => q (hce.1 w), hne q]
      refine W_cond (by rfl) (fun _ => ?_) (fun h => by cases h)
      repeat' (first | refine w1g ?_ | refine w1l ?_ | refine w1q ?_ | refine w1b ?_ | refine w1p ?_ | ((first | refine w1r ?_ | refine w1k ?_ | refine w1e ?_); (refine sy1 ?_; try exact True.intro)) | refine an2 ?_ | fail)
      exact W_ret ⟨[_], ⟨rfl, rfl⟩, rfl⟩
  · rw [heq fun k hk => hp k (by omega)]
    repeat' (first | refine w1g ?_ | refine w1l ?_ | refine w1q ?_ | refine w1b ?_ | refine w1p ?_ | ((first | refine w1r ?_ | refine w1k ?_ | refine w1e ?_); (refine sy1 ?_; try exact True.intro)) | refine an2 ?_ | fail)
    refine W_condD (by rfl) (fun h6 => absurd h6 (by omega)) (fun h6 => ?_)
    repeat' (first | refine w1g ?_ | refine w1l ?_ | refine w1q ?_ | refine w1b ?_ | refine w1p ?_ | ((first | refine w1r ?_ | refine w1k ?_ | refine w1e ?_); (refine sy1 ?_; try exact True.intro)) | refine an2 ?_ | fail)
    exact W_ret ⟨[_], ⟨rfl, rfl⟩, rfl⟩
def bfC (l m : List Int) : Int := if cmI (gi l (l.length - 1)) (gi m (l.length - 1)) = 0 then lxC l m else cmI (gi l (l.length - 1)) (gi m (l.length - 1))
theorem fn79 (l m : List Int) (hl : l.length = m.length) (h0 : 0 < l.length) (hb : l.length ≤ 1000000) : Sy.Fn Try.prog 79 [aI l, aI m] (bv (decide (bfC l m < 0))) := by
  refine Fn_of_W mixed Xt79 rfl ?_
  have c120 := fn120 l m hl hb
  have c100 := fn100 (gi l (l.length - 1)) (gi m (l.length - 1))
  have c99 := fn99 (cmI (gi l (l.length - 1)) (gi m (l.length - 1))) (lxC l m)
  have hB : bfC l m = if cmI (gi l (l.length - 1)) (gi m (l.length - 1)) = 0 then lxC l m else cmI (gi l (l.length - 1)) (gi m (l.length - 1)) := rfl
  rw [← hB] at c99
  have hli : ((l.length : Int) - 1).toNat = l.length - 1 := by omega
  have g1 : l.getD (l.length - 1) 0 = gi l (l.length - 1) := rfl
  have g2 : m.getD (l.length - 1) 0 = gi m (l.length - 1) := rfl
  have hml : l.length - 1 < m.length := by omega
  generalize bfC l m = V at *
  generalize lxC l m = V2 at *
  generalize cmI (gi l (l.length - 1)) (gi m (l.length - 1)) = V3 at *
  repeat' (first | refine w1g ?_ | refine w1l ?_ | refine w1q ?_ | refine w1b ?_ | refine w1p ?_ | ((first | refine w1r ?_ | refine w1k ?_ | refine w1e ?_ | refine CallC.now (c100) ?_ | refine CallC.now (c120) ?_); simp (maxSteps := 400000) (disch := omega) only [push_cast, ↓reduceIte, reduceCtorEq, Nat.reduceAdd, Nat.reduceSub, Nat.reduceEqDiff, Nat.reduceLeDiff, Nat.reduceLT, Nat.reduceBEq, Nat.reduceDiv, Nat.reduceMod, Nat.reducePow, Nat.reduceMul, Int.reduceToNat, Int.reduceLT, Int.reduceLE, hli, g1, g2]) | refine an2 ?_ | fail)
  refine ⟨rfl, trivial, Int, 0, cI, [V3, V2], rfl, by omega, fun x _ => ⟨rfl, rfl⟩, rfl, ?_⟩
  (refine sy1 ?_; try exact True.intro)
  repeat' (first | refine w1g ?_ | refine w1l ?_ | refine w1q ?_ | refine w1b ?_ | refine w1p ?_ | ((first | refine w1r ?_ | refine w1k ?_ | refine w1e ?_ | refine CallC.go _ (fun _ => ⟨trivial, c99⟩) rfl ?_); (refine sy1 ?_; try exact True.intro)) | refine an2 ?_ | fail)
  exact W_ret ⟨[_], ⟨rfl, rfl⟩, rfl⟩
end Go.Proofs.Ytoiohkjomcbadaa

namespace Go.Proofs.Ytoiohkjomcbadaa
open Go Sy
set_option maxRecDepth 100000
set_option maxHeartbeats 4000000
set_option linter.unusedVariables false
set_option linter.unusedSimpArgs false
def stC (ls : List Lg) (b : Int) (c : Nat → Bool) (i : Nat) (t : Int) : Int := fstW (gl ls i).mi (if 0 < i ∧ c i = true then t + b else t) (gl ls i).ws
def frC (ls : List Lg) (b st : Int) (c : Nat → Bool) : Nat → Int
  | 0 => st
  | i + 1 => stC ls b c i (frC ls b st c i) + (gl ls i).mi
def atC (ls : List Lg) (b st : Int) (c : Nat → Bool) (i : Nat) : Int := stC ls b c i (frC ls b st c i)
def msC (m i : Nat) : Bool := decide (m / 2 ^ i % 2 = 1)
def liC (ls : List Lg) (b st : Int) (c : Nat → Bool) : Bool := (List.range ls.length).all fun i => decide (0 ≤ atC ls b st c i)
def tmL (ls : List Lg) (b st : Int) (c : Nat → Bool) : List Int := if liC ls b st c = true then lsF ls.length (atC ls b st c) else []
def tmO (ls : List Lg) (a b st : Int) (c : Nat → Bool) : Bool := liC ls b st c && decide (ckE ls a b st (lsF ls.length (atC ls b st c)) = 0)
theorem stC_rng {ls : List Lg} {a b st : Int} (h : OkC ls a b st) (c : Nat → Bool) {i : Nat} (hi : i < ls.length) (t : Int) : stC ls b c i t = -1 ∨ (0 ≤ stC ls b c i t ∧ stC ls b c i t ≤ 1099511627776) := by
  have hm := h.m i hi
  unfold stC
  rcases fst_fit (mi := (gl ls i).mi) (fr := if 0 < i ∧ c i = true then t + b else t) (h.k i hi) (Int.le_refl 0) (by omega) with q | ⟨q1, q2, q3⟩
  · exact .inl q
  · exact .inr ⟨q1, fit_le (h.k i hi) (by omega) q3⟩
theorem frC_rng {ls : List Lg} {a b st : Int} (h : OkC ls a b st) (c : Nat → Bool) : ∀ i, i ≤ ls.length → (∀ k, k < i → 0 ≤ atC ls b st c k) → 0 ≤ frC ls b st c i ∧ frC ls b st c i ≤ 1099511627776 + 10080
  | 0, _, _ => by have := h.s; show 0 ≤ st ∧ st ≤ _; omega
  | i + 1, hi, hk => by
    have h1 := hk i (by omega)
    have h2 := stC_rng h c (show i < ls.length by omega) (frC ls b st c i)
    have h3 := h.m i (by omega)
    have h4 := h.ra
    have e : atC ls b st c i = stC ls b c i (frC ls b st c i) := rfl
    show 0 ≤ stC ls b c i (frC ls b st c i) + (gl ls i).mi ∧ stC ls b c i (frC ls b st c i) + (gl ls i).mi ≤ _
    omega
theorem fn82 (ls : List Lg) (a b st : Int) (m : Nat) (h0 : crE ls a b st = 0) (hw : ∀ x ∈ ls, x.ws.length ≤ 140737488355328) (hm : m ≤ 1000000) : Sy.Fn Try.prog 82 [aL ls, iv a, iv b, iv st, iv m] (.tup [aI (tmL ls b st (msC m)), bv (tmO ls a b st (msC m))]) := by
  refine Fn_of_W mixed Xt82 rfl ?_
  have h := crE_ok h0
  have hn := h.n
  have hO : tmO ls a b st (msC m) = (liC ls b st (msC m) && decide (ckE ls a b st (lsF ls.length (atC ls b st (msC m))) = 0)) := rfl
  have hLL : tmL ls b st (msC m) = if liC ls b st (msC m) = true then lsF ls.length (atC ls b st (msC m)) else [] := rfl
  have hlen := lsF_len ls.length (atC ls b st (msC m))
  have c34 := fn34 ls a b st (lsF ls.length (atC ls b st (msC m))) (by omega) hw (by omega)
  have hyes : (∀ i, i < ls.length → 0 ≤ atC ls b st (msC m) i) → liC ls b st (msC m) = true := fun q => by
    unfold liC; rw [List.all_eq_true]; exact fun i hi => decide_eq_true (q i (List.mem_range.1 hi))
  have hno : ∀ i, i < ls.length → atC ls b st (msC m) i < 0 → liC ls b st (msC m) = false := fun i hi q => by
    unfold liC; rw [← Bool.not_eq_true, List.all_eq_true]; intro z
    have := of_decide_eq_true (z i (List.mem_range.2 hi)); omega
  have hfr := frC_rng h (msC m)
  have hst := fun i hi t => stC_rng h (msC m) (i := i) hi t
  rw [hO, hLL]
  generalize liC ls b st (msC m) = LB at *
  generalize ckI ls a b st (lsF ls.length (atC ls b st (msC m))) = KI at *
  generalize ckE ls a b st (lsF ls.length (atC ls b st (msC m))) = KE at *
  repeat' (first | refine w1g ?_ | refine w1l ?_ | refine w1q ?_ | refine w1b ?_ | refine w1p ?_ | ((first | refine w1r ?_ | refine w1k ?_ | refine w1e ?_); (refine sy1 ?_; try exact True.intro)) | refine an2 ?_ | fail)
  refine W_le (le_adopt 12 2 1 (0 : Int) cI (by omega) rfl) ?_
  (refine sy1 ?_; try exact True.intro)
  refine W_loopU (fun i : Nat => [(12, .row 6 i), (13, iv (frC ls b st (msC m) i)), (14, iv i)]) (fun i => [(6, .row i 2 1 0 cI (lsF i (atC ls b st (msC m))))]) (fun i => i ≤ ls.length ∧ ∀ k, k < i → 0 ≤ atC ls b st (msC m) k) (fun i => ls.length - i) 0 ⟨by omega, fun k hk => by omega⟩ (by rfl) (by rfl) (fun i hi => ?_)
  obtain ⟨hi, hp⟩ := hi
  have hfr := hfr i hi hp
  have hli := lsF_len i (atC ls b st (msC m))
  (refine sy1 ?_; try exact True.intro)
  repeat' (first | refine w1g ?_ | refine w1l ?_ | refine w1q ?_ | refine w1b ?_ | refine w1p ?_ | ((first | refine w1r ?_ | refine w1k ?_ | refine w1e ?_); (refine sy1 ?_; try exact True.intro)) | refine an2 ?_ | fail)
  refine W_condD (by rfl) (fun h5 => ?_) (fun h5 => ?_)
  · have hil : i < ls.length := by omega
    have hgl : ls.getD i dLg = gl ls i := rfl
    obtain ⟨N, hN⟩ : ∃ N : Nat, 2 ^ i = N := ⟨_, rfl⟩
    have hN1 : 0 < N ∧ N ≤ 4096 := by
      rw [← hN]
      exact ⟨Nat.pow_pos (by omega), Nat.le_trans (Nat.pow_le_pow_right (by omega) (show i ≤ 12 by omega)) (by decide)⟩
    have hwu : IntKind.u64.wrap (i : Int) = i := wrapU ⟨by omega, by omega⟩
    have hsh : IntKind.i64.wrap (1 * 2 ^ min i IntKind.i64.bits) = (N : Int) := by
      rw [Nat.min_eq_left (show i ≤ IntKind.i64.bits by show i ≤ 64; omega), Int.one_mul, show (2 : Int) ^ i = (N : Int) by rw [← hN]; push_cast; first | done | rfl]
      exact wrap64 ⟨by omega, by omega⟩
    have hN0 : ¬ (N : Int) = 0 := by omega
    obtain ⟨D, hD⟩ : ∃ D, (m : Int).tdiv (N : Int) = D := ⟨_, rfl⟩
    have hDm : D = ((m / N : Nat) : Int) := by
      rw [← hD, Int.tdiv_eq_ediv_of_nonneg (by omega)]; push_cast; first | done | rfl
    have hDr : 0 ≤ D ∧ D ≤ 1000000 := by
      rw [hDm]
      have := Nat.div_le_self m N
      exact ⟨Int.natCast_nonneg _, by omega⟩
    have hms : (D.tmod 2 == 1) = msC m i := by
      have h3 : D.tmod 2 = ((m / N % 2 : Nat) : Int) := by
        rw [hDm, Int.tmod_eq_emod_of_nonneg (by omega)]; push_cast; first | done | rfl
      unfold msC
      rw [hN, h3, Bool.eq_iff_iff, beq_iff_eq, decide_eq_true_eq]
      omega
    repeat' (first | refine w1g ?_ | refine w1l ?_ | refine w1q ?_ | refine w1b ?_ | refine w1p ?_ | ((first | refine w1r ?_ | refine w1k ?_ | refine w1e ?_); simp (maxSteps := 400000) (disch := omega) only [push_cast, ↓reduceIte, reduceCtorEq, Nat.reduceAdd, Nat.reduceSub, Nat.reduceEqDiff, Nat.reduceLeDiff, Nat.reduceLT, Nat.reduceBEq, Nat.reduceDiv, Nat.reduceMod, Nat.reducePow, Nat.reduceMul, Int.reduceToNat, Int.reduceLT, Int.reduceLE, hgl, hwu, hsh, hD, Int.toNat_natCast]) | refine an2 ?_ | fail)
    have hm1 := h.m i hil
    have ha := h.ra
    have hb := h.rb
    have hw2 := h.w i hil
    have hk := h.k i hil
    have hsu : lsF i (atC ls b st (msC m)) ++ [atC ls b st (msC m) i] = lsF (i + 1) (atC ls b st (msC m)) := by
      unfold lsF; rw [List.range_succ, List.map_append]; rfl
    have hst := hst i hil (frC ls b st (msC m) i)
    have hfs : frC ls b st (msC m) (i + 1) = atC ls b st (msC m) i + (gl ls i).mi := rfl
    have hae : atC ls b st (msC m) i = fstW (gl ls i).mi (if 0 < i ∧ msC m i = true then frC ls b st (msC m) i + b else frC ls b st (msC m) i) (gl ls i).ws := rfl
    have hae2 : atC ls b st (msC m) i = stC ls b (msC m) i (frC ls b st (msC m) i) := rfl
    rw [← hae2] at hst
    have hno := hno i hil
    have c95 := fn95 (gl ls i).ws (gl ls i).mi (if 0 < i ∧ msC m i = true then frC ls b st (msC m) i + b else frC ls b st (msC m) i) (by omega) hk ⟨by omega, by omega⟩
    rw [← hae] at c95
    have hup := @up_all _ i hp
    obtain ⟨A, hA⟩ : ∃ A, atC ls b st (msC m) i = A := ⟨_, rfl⟩
    rw [hA] at hst hfs hno c95 hsu hup
    obtain ⟨x, hx⟩ : ∃ x, gl ls i = x := ⟨_, rfl⟩
    rw [hx] at hgl c95 hfs hm1
    obtain ⟨t, ht⟩ : ∃ t, frC ls b st (msC m) i = t := ⟨_, rfl⟩
    rw [ht] at hfr c95 ⊢
    rw [hms]
    by_cases hq : 0 < i ∧ msC m i = true
    · rw [if_pos hq] at c95
      rw [show (decide ((0 : Int) < (i : Int)) && msC m i) = true by rw [decide_eq_true (show (0 : Int) < (i : Int) by omega), hq.2]; rfl]
      refine W_cond (by rfl) (fun _ => ?_) (fun h => by cases h)
      repeat' (first | refine w1g ?_ | refine w1l ?_ | refine w1q ?_ | refine w1b ?_ | refine w1p ?_ | ((first | refine w1r ?_ | refine w1k ?_ | refine w1e ?_ | refine CallC.now (c95) ?_); simp (maxSteps := 400000) (disch := omega) only [push_cast, ↓reduceIte, reduceCtorEq, Nat.reduceAdd, Nat.reduceSub, Nat.reduceEqDiff, Nat.reduceLeDiff, Nat.reduceLT, Nat.reduceBEq, Nat.reduceDiv, Nat.reduceMod, Nat.reducePow, Nat.reduceMul, Int.reduceToNat, Int.reduceLT, Int.reduceLE, hgl]) | refine an2 ?_ | fail)
      refine W_condD (by rfl) (fun h7 => ?_) (fun h7 => ?_)
      · rw [hno h7, if_neg (by decide), Bool.false_and]
        repeat' (first | refine w1g ?_ | refine w1l ?_ | refine w1q ?_ | refine w1b ?_ | refine w1p ?_ | ((first | refine w1r ?_ | refine w1k ?_ | refine w1e ?_); (refine sy1 ?_; try exact True.intro)) | refine an2 ?_ | fail)
        refine W_le (le_nil 10 1 0 cI rfl) ?_
        exact W_ret ⟨[_, _], ⟨rfl, rfl, rfl⟩, rfl⟩
      · repeat' (first | refine w1g ?_ | refine w1l ?_ | refine w1q ?_ | refine w1b ?_ | refine w1p ?_ | ((first | refine w1r ?_ | refine w1k ?_ | refine w1e ?_); simp (maxSteps := 400000) (disch := omega) only [push_cast, ↓reduceIte, reduceCtorEq, Nat.reduceAdd, Nat.reduceSub, Nat.reduceEqDiff, Nat.reduceLeDiff, Nat.reduceLT, Nat.reduceBEq, Nat.reduceDiv, Nat.reduceMod, Nat.reducePow, Nat.reduceMul, Int.reduceToNat, Int.reduceLT, Int.reduceLE, hgl]) | refine an2 ?_ | fail)
        refine ⟨rfl, trivial, Int, 0, cI, [A], rfl, by omega, fun x _ => ⟨rfl, rfl⟩, rfl, ?_⟩
        (refine sy1 ?_; try exact True.intro)
        refine ⟨rfl, ⟨Nat.le_of_ble_eq_true rfl, rfl⟩, trivial, [A], rfl, by first | omega | (simp; omega), by first | omega | (simp; omega), ?_⟩
        (refine sy1 ?_; try exact True.intro)
        rw [hsu]
        repeat' (first | refine w1g ?_ | refine w1l ?_ | refine w1q ?_ | refine w1b ?_ | refine w1p ?_ | ((first | refine w1r ?_ | refine w1k ?_ | refine w1e ?_); simp (maxSteps := 400000) (disch := omega) only [push_cast, ↓reduceIte, reduceCtorEq, Nat.reduceAdd, Nat.reduceSub, Nat.reduceEqDiff, Nat.reduceLeDiff, Nat.reduceLT, Nat.reduceBEq, Nat.reduceDiv, Nat.reduceMod, Nat.reducePow, Nat.reduceMul, Int.reduceToNat, Int.reduceLT, Int.reduceLE, hgl]) | refine an2 ?_ | fail)
        refine ⟨i + 1, ⟨by omega, hup (by omega)⟩, by omega, by rfl, ?_⟩
        rw [hfs]
        (refine syE ?_; try exact True.intro)
    · rw [if_neg hq] at c95
      rw [show (decide ((0 : Int) < (i : Int)) && msC m i) = false by
        rw [Bool.and_eq_false_iff, decide_eq_false_iff_not]
        by_cases z : 0 < i
        · right; cases hc : msC m i
          · rfl
          · exact absurd ⟨z, hc⟩ hq
        · left; omega]
      refine W_cond (by rfl) (fun h => by cases h) (fun _ => ?_)
      repeat' (first | refine w1g ?_ | refine w1l ?_ | refine w1q ?_ | refine w1b ?_ | refine w1p ?_ | ((first | refine w1r ?_ | refine w1k ?_ | refine w1e ?_ | refine CallC.now (c95) ?_); simp (maxSteps := 400000) (disch := omega) only [push_cast, ↓reduceIte, reduceCtorEq, Nat.reduceAdd, Nat.reduceSub, Nat.reduceEqDiff, Nat.reduceLeDiff, Nat.reduceLT, Nat.reduceBEq, Nat.reduceDiv, Nat.reduceMod, Nat.reducePow, Nat.reduceMul, Int.reduceToNat, Int.reduceLT, Int.reduceLE, hgl]) | refine an2 ?_ | fail)
      refine W_condD (by rfl) (fun h7 => ?_) (fun h7 => ?_)
      · rw [hno h7, if_neg (by decide), Bool.false_and]
        repeat' (first | refine w1g ?_ | refine w1l ?_ | refine w1q ?_ | refine w1b ?_ | refine w1p ?_ | ((first | refine w1r ?_ | refine w1k ?_ | refine w1e ?_); (refine sy1 ?_; try exact True.intro)) | refine an2 ?_ | fail)
        refine W_le (le_nil 10 1 0 cI rfl) ?_
        exact W_ret ⟨[_, _], ⟨rfl, rfl, rfl⟩, rfl⟩
      · repeat' (first | refine w1g ?_ | refine w1l ?_ | refine w1q ?_ | refine w1b ?_ | refine w1p ?_ | ((first | refine w1r ?_ | refine w1k ?_ | refine w1e ?_); simp (maxSteps := 400000) (disch := omega) only [push_cast, ↓reduceIte, reduceCtorEq, Nat.reduceAdd, Nat.reduceSub, Nat.reduceEqDiff, Nat.reduceLeDiff, Nat.reduceLT, Nat.reduceBEq, Nat.reduceDiv, Nat.reduceMod, Nat.reducePow, Nat.reduceMul, Int.reduceToNat, Int.reduceLT, Int.reduceLE, hgl]) | refine an2 ?_ | fail)
        refine ⟨rfl, trivial, Int, 0, cI, [A], rfl, by omega, fun x _ => ⟨rfl, rfl⟩, rfl, ?_⟩
        (refine sy1 ?_; try exact True.intro)
        refine ⟨rfl, ⟨Nat.le_of_ble_eq_true rfl, rfl⟩, trivial, [A], rfl, by first | omega | (simp; omega), by first | omega | (simp; omega), ?_⟩
        (refine sy1 ?_; try exact True.intro)
        rw [hsu]
        repeat' (first | refine w1g ?_ | refine w1l ?_ | refine w1q ?_ | refine w1b ?_ | refine w1p ?_ | ((first | refine w1r ?_ | refine w1k ?_ | refine w1e ?_); simp (maxSteps := 400000) (disch := omega) only [push_cast, ↓reduceIte, reduceCtorEq, Nat.reduceAdd, Nat.reduceSub, Nat.reduceEqDiff, Nat.reduceLeDiff, Nat.reduceLT, Nat.reduceBEq, Nat.reduceDiv, Nat.reduceMod, Nat.reducePow, Nat.reduceMul, Int.reduceToNat, Int.reduceLT, Int.reduceLE, hgl]) | refine an2 ?_ | fail)
        refine ⟨i + 1, ⟨by omega, hup (by omega)⟩, by omega, by rfl, ?_⟩
        rw [hfs]
        (refine syE ?_; try exact True.intro)
  obtain rfl : i = ls.length := by omega
  rw [hyes hp, if_pos rfl, Bool.true_and]
  repeat' (first | refine w1g ?_ | refine w1l ?_ | refine w1q ?_ | refine w1b ?_ | refine w1p ?_ | ((first | refine w1r ?_ | refine w1k ?_ | refine w1e ?_ | refine CallC.go _ (fun _ => ⟨trivial, c34⟩) rfl ?_); (refine sy1 ?_; try exact True.intro)) | refine an2 ?_ | fail)
  refine W_le (le_frzR 10 [11] [] 60 6 ls.length 2 1 0 cI (lsF ls.length (atC ls b st (msC m))) rfl rfl rfl rfl) ?_
  simp (maxSteps := 400000) (disch := omega) only [push_cast, ↓reduceIte, reduceCtorEq, Nat.reduceAdd, Nat.reduceSub, Nat.reduceEqDiff, Nat.reduceLeDiff, Nat.reduceLT, Nat.reduceBEq, Nat.reduceDiv, Nat.reduceMod, Nat.reducePow, Nat.reduceMul, Int.reduceToNat, Int.reduceLT, Int.reduceLE, List.map_cons, List.map_nil, keepM]
  exact W_ret ⟨[_, _], ⟨rfl, rfl, rfl⟩, rfl⟩
end Go.Proofs.Ytoiohkjomcbadaa

