/- For all maps, sizes and places, Cheapest, Bound, Reach and CheckCut return what the document says; maps of at most 12 places, 30 roads and 5 works, or refused ones; at most 100 numbers. -/
import Derived.Test.YtfbdlmenhoagmaaP4
import Derived.Test.YtfbdlmenhoagmaaRows
import Derived.ShutString
namespace Go.Proofs.Ytfbdlmenhoagmaa
open Go Sy
set_option maxRecDepth 100000
set_option maxHeartbeats 4000000
set_option linter.unusedVariables false
set_option linter.unusedSimpArgs false
theorem eq_of_gi {l k : List Int} (h : l.length = k.length) (he : ∀ j, j < l.length → gi l j = gi k j) : l = k := by
  apply List.ext_getElem h
  intro i h1 h2
  have := he i h1
  simpa [gi, List.getD, h1, h2] using this
theorem fn33 (l k : List Int) (hl : l.length ≤ 1000000) (hk : k.length ≤ 1000000) : Sy.Fn Try.prog 33 [aI l, aI k] (bv (decide (l = k))) := by
  refine Fn_of_W mixed Xt33 rfl ?_
  repeat' (first | refine w1g ?_ | refine w1l ?_ | refine w1q ?_ | refine w1b ?_ | refine w1p ?_ | ((first | refine w1r ?_ | refine w1k ?_ | refine w1e ?_); (refine sy1 ?_; try exact True.intro)) | refine an2 ?_ | fail)
  refine W_cond (by rfl) (fun h => ?_) (fun h => ?_)
  · rw [bne_iff_ne] at h
    rw [decide_eq_false (fun q => h (by rw [q]))]
    repeat' (first | refine w1g ?_ | refine w1l ?_ | refine w1q ?_ | refine w1b ?_ | refine w1p ?_ | ((first | refine w1r ?_ | refine w1k ?_ | refine w1e ?_); (refine sy1 ?_; try exact True.intro)) | refine an2 ?_ | fail)
    exact W_ret ⟨[_], ⟨rfl, rfl⟩, rfl⟩
  rw [bne_eq_false_iff_eq] at h
  have hlen : l.length = k.length := by omega
  repeat' (first | refine w1g ?_ | refine w1l ?_ | refine w1q ?_ | refine w1b ?_ | refine w1p ?_ | ((first | refine w1r ?_ | refine w1k ?_ | refine w1e ?_); (refine sy1 ?_; try exact True.intro)) | refine an2 ?_ | fail)
  refine W_loopU (fun i : Nat => [(5, iv i)]) (fun i => []) (fun i => i ≤ l.length ∧ ∀ j, j < i → gi l j = gi k j) (fun i => l.length - i) 0 ⟨by omega, fun j hj => by omega⟩ (by rfl) (by rfl) (fun i hi => ?_)
  obtain ⟨hi, hp⟩ := hi
  (refine sy1 ?_; try exact True.intro)
  repeat' (first | refine w1g ?_ | refine w1l ?_ | refine w1q ?_ | refine w1b ?_ | refine w1p ?_ | ((first | refine w1r ?_ | refine w1k ?_ | refine w1e ?_); (refine sy1 ?_; try exact True.intro)) | refine an2 ?_ | fail)
  refine W_condD (by rfl) (fun h5 => ?_) (fun h5 => ?_)
  · have hlt : i < l.length := by omega
    have h1 : l.getD i 0 = gi l i := rfl
    have h2 : k.getD i 0 = gi k i := rfl
    repeat' (first | refine w1g ?_ | refine w1l ?_ | refine w1q ?_ | refine w1b ?_ | refine w1p ?_ | ((first | refine w1r ?_ | refine w1k ?_ | refine w1e ?_); simp (maxSteps := 400000) (disch := omega) only [push_cast, ↓reduceIte, reduceCtorEq, Nat.reduceAdd, Nat.reduceSub, Nat.reduceEqDiff, Nat.reduceLeDiff, Nat.reduceLT, Nat.reduceBEq, Nat.reduceDiv, Nat.reduceMod, Nat.reducePow, Nat.reduceMul, Int.reduceToNat, Int.reduceLT, Int.reduceLE, h1, h2]) | refine an2 ?_ | fail)
    refine W_cond (by rfl) (fun h => ?_) (fun h => ?_)
    · rw [bne_iff_ne] at h
      rw [decide_eq_false (fun q => h (by rw [q]))]
      repeat' (first | refine w1g ?_ | refine w1l ?_ | refine w1q ?_ | refine w1b ?_ | refine w1p ?_ | ((first | refine w1r ?_ | refine w1k ?_ | refine w1e ?_); (refine sy1 ?_; try exact True.intro)) | refine an2 ?_ | fail)
      exact W_ret ⟨[_], ⟨rfl, rfl⟩, rfl⟩
    · rw [bne_eq_false_iff_eq] at h
      repeat' (first | refine w1g ?_ | refine w1l ?_ | refine w1q ?_ | refine w1b ?_ | refine w1p ?_ | ((first | refine w1r ?_ | refine w1k ?_ | refine w1e ?_); (refine sy1 ?_; try exact True.intro)) | refine an2 ?_ | fail)
      refine ⟨i + 1, ⟨by omega, fun j hj => ?_⟩, by omega, by rfl, ?_⟩
      · rcases Nat.lt_or_ge j i with q | q
        · exact hp j q
        · rw [show j = i by omega]; exact h
      (refine syE ?_; try exact True.intro)
  · rw [decide_eq_true (eq_of_gi hlen (fun j hj => hp j (by omega)))]
    repeat' (first | refine w1g ?_ | refine w1l ?_ | refine w1q ?_ | refine w1b ?_ | refine w1p ?_ | ((first | refine w1r ?_ | refine w1k ?_ | refine w1e ?_); (refine sy1 ?_; try exact True.intro)) | refine an2 ?_ | fail)
    exact W_ret ⟨[_], ⟨rfl, rfl⟩, rfl⟩
theorem set_gi {n : Int} {s : List Int} (hs : Srt n 0 s) {i : Nat} (h : i < s.length) : ∃ x : Nat, gi s i = x ∧ (x : Int) < n := by
  have h1 := hs.mem (gi s i) (by unfold gi; exact getD_mem' 0 s i h)
  exact ⟨(gi s i).toNat, by omega, by omega⟩
theorem fn123 (m : Mp) (s : List Int) (road k : Nat) (h : OkM m) (hs : Srt m.ws.length 0 s) (hr : road < m.rs.length) (hk : k < 6) : Sy.Fn Try.prog 123 [aM m, aI s, iv road, iv k] (iv (limL m s road k)) := by
  refine Fn_of_W mixed Xt123 rfl ?_
  have hw := h.nw
  have hlim : nth (cR (gr m road)) (6 + k) = iv ((gr m road).lim k) := by
    rcases k with _ | _ | _ | _ | _ | _ | k <;> first | rfl | omega
  have hgr : m.rs.getD road dR = gr m road := rfl
  have hsl := hs.len (by omega)
  repeat' (first | refine w1g ?_ | refine w1l ?_ | refine w1q ?_ | refine w1b ?_ | refine w1p ?_ | ((first | refine w1r ?_ | refine w1k ?_ | refine w1e ?_); simp (maxSteps := 400000) (disch := omega) only [push_cast, ↓reduceIte, reduceCtorEq, Nat.reduceAdd, Nat.reduceSub, Nat.reduceEqDiff, Nat.reduceLeDiff, Nat.reduceLT, Nat.reduceBEq, Nat.reduceDiv, Nat.reduceMod, Nat.reducePow, Nat.reduceMul, Int.reduceToNat, Int.reduceLT, Int.reduceLE, hgr, hlim, Nat.mul_one, Nat.add_assoc]) | refine an2 ?_ | fail)
  refine W_loopU (fun i : Nat => [(9, iv (limL m (s.take i) road k)), (10, iv i)]) (fun i => []) (fun i => i ≤ s.length) (fun i => s.length - i) 0 (by omega) (by rfl) (by rfl) (fun i hi => ?_)
  (refine sy1 ?_; try exact True.intro)
  repeat' (first | refine w1g ?_ | refine w1l ?_ | refine w1q ?_ | refine w1b ?_ | refine w1p ?_ | ((first | refine w1r ?_ | refine w1k ?_ | refine w1e ?_); (refine sy1 ?_; try exact True.intro)) | refine an2 ?_ | fail)
  refine W_condD (by rfl) (fun h5 => ?_) (fun h5 => ?_)
  · have hlt : i < s.length := by omega
    obtain ⟨x, hx, hxn⟩ := set_gi hs hlt
    have hx2 : s.getD i 0 = (x : Int) := hx
    have ec : limL m (s.take (i + 1)) road k = limS m road k (limL m (s.take i) road k) x := by rw [take_snoc hlt, hx, limL_snoc]
    have es : ∀ n : Int, limS m road k n x = if (gw m x).k = k ∧ (road : Int) ∈ (gw m x).rs then max n (gw m x).l else n := fun _ => rfl
    have hgw : m.ws.getD x dW = gw m x := rfl
    have hwl := h.s x (by omega)
    have c107 := fn107 (gw m x).rs (road : Int) (by omega)
    rw [es] at ec
    generalize limL m (s.take i) road k = C at *
    generalize gw m x = w at *
    repeat' (first | refine w1g ?_ | refine w1l ?_ | refine w1q ?_ | refine w1b ?_ | refine w1p ?_ | ((first | refine w1r ?_ | refine w1k ?_ | refine w1e ?_ | refine CallC.go _ (fun _ => ⟨trivial, c107⟩) rfl ?_); simp (maxSteps := 400000) (disch := omega) only [push_cast, ↓reduceIte, reduceCtorEq, Nat.reduceAdd, Nat.reduceSub, Nat.reduceEqDiff, Nat.reduceLeDiff, Nat.reduceLT, Nat.reduceBEq, Nat.reduceDiv, Nat.reduceMod, Nat.reducePow, Nat.reduceMul, Int.reduceToNat, Int.reduceLT, Int.reduceLE, hx2, hgw]) | refine an2 ?_ | fail)
    refine W_cond (by rfl) (fun hz => ?_) (fun hz => ?_)
    · rw [Bool.and_eq_true, beq_iff_eq, decide_eq_true_eq] at hz
      rw [if_pos hz] at ec
      repeat' (first | refine w1g ?_ | refine w1l ?_ | refine w1q ?_ | refine w1b ?_ | refine w1p ?_ | ((first | refine w1r ?_ | refine w1k ?_ | refine w1e ?_); (refine sy1 ?_; try exact True.intro)) | refine an2 ?_ | fail)
      refine ⟨i + 1, by omega, by omega, by rfl, ?_⟩
      rw [ec]
      (refine syE ?_; try exact True.intro)
    · have hz : ¬ (w.k = k ∧ (road : Int) ∈ w.rs) := by
        rintro ⟨z1, z2⟩
        rw [z1, decide_eq_true z2] at hz
        simp at hz
      rw [if_neg hz] at ec
      repeat' (first | refine w1g ?_ | refine w1l ?_ | refine w1q ?_ | refine w1b ?_ | refine w1p ?_ | ((first | refine w1r ?_ | refine w1k ?_ | refine w1e ?_); (refine sy1 ?_; try exact True.intro)) | refine an2 ?_ | fail)
      refine ⟨i + 1, by omega, by omega, by rfl, ?_⟩
      rw [ec]
      (refine syE ?_; try exact True.intro)
  · have hil : i = s.length := by omega
    rw [hil, List.take_length]
    repeat' (first | refine w1g ?_ | refine w1l ?_ | refine w1q ?_ | refine w1b ?_ | refine w1p ?_ | ((first | refine w1r ?_ | refine w1k ?_ | refine w1e ?_); (refine sy1 ?_; try exact True.intro)) | refine an2 ?_ | fail)
    exact W_ret ⟨[_], ⟨rfl, rfl⟩, rfl⟩
theorem srt_take {n : Int} : ∀ (l : List Int) (lo : Int) (i : Nat), Srt n lo l → Srt n lo (l.take i)
  | [], _, i, _ => by simp; trivial
  | x :: l, lo, 0, h => by simp; trivial
  | x :: l, lo, i + 1, h => by
    rw [List.take_succ_cons]
    exact ⟨h.1, h.2.1, srt_take l (x + 1) i h.2.2⟩
theorem fn92 (m : Mp) (s : List Int) (h : OkM m) (hs : Srt m.ws.length 0 s) : Sy.Fn Try.prog 92 [aM m, aI s] (iv (costL m s)) := by
  refine Fn_of_W mixed Xt92 rfl ?_
  have hw := h.nw
  have hsl := hs.len (by omega)
  repeat' (first | refine w1g ?_ | refine w1l ?_ | refine w1q ?_ | refine w1b ?_ | refine w1p ?_ | ((first | refine w1r ?_ | refine w1k ?_ | refine w1e ?_); (refine sy1 ?_; try exact True.intro)) | refine an2 ?_ | fail)
  refine W_loopU (fun i : Nat => [(5, iv (costL m (s.take i))), (6, iv i)]) (fun i => []) (fun i => i ≤ s.length) (fun i => s.length - i) 0 (by omega) (by rfl) (by rfl) (fun i hi => ?_)
  (refine sy1 ?_; try exact True.intro)
  repeat' (first | refine w1g ?_ | refine w1l ?_ | refine w1q ?_ | refine w1b ?_ | refine w1p ?_ | ((first | refine w1r ?_ | refine w1k ?_ | refine w1e ?_); (refine sy1 ?_; try exact True.intro)) | refine an2 ?_ | fail)
  refine W_condD (by rfl) (fun h5 => ?_) (fun h5 => ?_)
  · have hlt : i < s.length := by omega
    obtain ⟨x, hx, hxn⟩ := set_gi hs hlt
    have hx2 : s.getD i 0 = (x : Int) := hx
    have ec : costL m (s.take (i + 1)) = costL m (s.take i) + (gw m x).c := by rw [take_snoc hlt, hx, costL_snoc]; rfl
    have hgw : m.ws.getD x dW = gw m x := rfl
    have b1 := costL_set h (srt_take s 0 i hs)
    have b2 := costL_set h (srt_take s 0 (i + 1) hs)
    rw [ec] at b2
    generalize costL m (s.take i) = C at *
    repeat' (first | refine w1g ?_ | refine w1l ?_ | refine w1q ?_ | refine w1b ?_ | refine w1p ?_ | ((first | refine w1r ?_ | refine w1k ?_ | refine w1e ?_); simp (maxSteps := 400000) (disch := omega) only [push_cast, ↓reduceIte, reduceCtorEq, Nat.reduceAdd, Nat.reduceSub, Nat.reduceEqDiff, Nat.reduceLeDiff, Nat.reduceLT, Nat.reduceBEq, Nat.reduceDiv, Nat.reduceMod, Nat.reducePow, Nat.reduceMul, Int.reduceToNat, Int.reduceLT, Int.reduceLE, hx2, hgw]) | refine an2 ?_ | fail)
    refine ⟨i + 1, by omega, by omega, by rfl, ?_⟩
    rw [ec]
    (refine syE ?_; try exact True.intro)
  · have hil : i = s.length := by omega
    rw [hil, List.take_length]
    repeat' (first | refine w1g ?_ | refine w1l ?_ | refine w1q ?_ | refine w1b ?_ | refine w1p ?_ | ((first | refine w1r ?_ | refine w1k ?_ | refine w1e ?_); (refine sy1 ?_; try exact True.intro)) | refine an2 ?_ | fail)
    exact W_ret ⟨[_], ⟨rfl, rfl⟩, rfl⟩
end Go.Proofs.Ytfbdlmenhoagmaa

namespace Go.Proofs.Ytfbdlmenhoagmaa
open Go Sy
set_option maxRecDepth 100000
set_option maxHeartbeats 4000000
set_option linter.unusedVariables false
set_option linter.unusedSimpArgs false
theorem fn80 (m : Mp) (f : Nat → Int) (s rs : List Int) (h : OkM m) (hs : Srt m.ws.length 0 s) (hr : rdE m rs = 0) : Sy.Fn Try.prog 80 [aM m, .agg (c6 f), aI s, aI rs] (aC (czR m f s rs)) := by
  refine Fn_of_W mixed Xt80 rfl ?_
  obtain ⟨hl3, hlr⟩ := rdE_ok hr
  repeat' (first | refine w1g ?_ | refine w1l ?_ | refine w1q ?_ | refine w1b ?_ | refine w1p ?_ | ((first | refine w1r ?_ | refine w1k ?_ | refine w1e ?_); (refine sy1 ?_; try exact True.intro)) | refine an2 ?_ | fail)
  refine W_le (le_adopt 9 57 4 dC cC (by omega) rfl) ?_
  (refine sy1 ?_; try exact True.intro)
  refine W_loopU (fun i : Nat => [(9, .row 5 (czR m f s (rs.take i)).length), (10, iv i)]) (fun i => [(5, .row (czR m f s (rs.take i)).length 57 4 dC cC (czR m f s (rs.take i)))]) (fun i => i ≤ rs.length) (fun i => rs.length - i) 0 (by omega) (by rfl) (by rfl) (fun i hi => ?_)
  have hcl := czR_len m f s (rs.take i)
  have htl : (rs.take i).length = i := by rw [List.length_take]; omega
  rw [htl] at hcl
  (refine sy1 ?_; try exact True.intro)
  repeat' (first | refine w1g ?_ | refine w1l ?_ | refine w1q ?_ | refine w1b ?_ | refine w1p ?_ | ((first | refine w1r ?_ | refine w1k ?_ | refine w1e ?_); (refine sy1 ?_; try exact True.intro)) | refine an2 ?_ | fail)
  refine W_condD (by rfl) (fun h5 => ?_) (fun h5 => ?_)
  rotate_left
  · have hil : i = rs.length := by omega
    rw [hil, List.take_length]
    repeat' (first | refine w1g ?_ | refine w1l ?_ | refine w1q ?_ | refine w1b ?_ | refine w1p ?_ | ((first | refine w1r ?_ | refine w1k ?_ | refine w1e ?_); (refine sy1 ?_; try exact True.intro)) | refine an2 ?_ | fail)
    refine W_ret ⟨[_], ⟨rfl, rfl⟩, ?_⟩
    simp (maxSteps := 400000) (disch := omega) only [push_cast, ↓reduceIte, reduceCtorEq, Nat.reduceAdd, Nat.reduceSub, Nat.reduceEqDiff, Nat.reduceLeDiff, Nat.reduceLT, Nat.reduceBEq, Nat.reduceDiv, Nat.reduceMod, Nat.reducePow, Nat.reduceMul, Int.reduceToNat, Int.reduceLT, Int.reduceLE, pack]
  have hlt : i < rs.length := by omega
  have hsn : czR m f s (rs.take (i + 1)) = czR m f s (rs.take i) ++ czK m f s (gi rs i).toNat 6 := by rw [take_snoc hlt, czR_snoc]
  obtain ⟨road, hrd⟩ : ∃ road : Nat, gi rs i = road := ⟨(gi rs i).toNat, by have := hlr i hlt; omega⟩
  have hrl : road < m.rs.length := by have := hlr i hlt; omega
  rw [hrd, Int.toNat_natCast] at hsn
  have hrd2 : rs.getD i 0 = (road : Int) := hrd
  generalize czR m f s (rs.take i) = X at *
  repeat' (first | refine w1g ?_ | refine w1l ?_ | refine w1q ?_ | refine w1b ?_ | refine w1p ?_ | ((first | refine w1r ?_ | refine w1k ?_ | refine w1e ?_); simp (maxSteps := 400000) (disch := omega) only [push_cast, ↓reduceIte, reduceCtorEq, Nat.reduceAdd, Nat.reduceSub, Nat.reduceEqDiff, Nat.reduceLeDiff, Nat.reduceLT, Nat.reduceBEq, Nat.reduceDiv, Nat.reduceMod, Nat.reducePow, Nat.reduceMul, Int.reduceToNat, Int.reduceLT, Int.reduceLE, hrd2]) | refine an2 ?_ | fail)
  refine W_loopU (fun k : Nat => [(9, .row 5 (X ++ czK m f s road k).length), (11, iv k)]) (fun k => [(5, .row (X ++ czK m f s road k).length 57 4 dC cC (X ++ czK m f s road k))]) (fun k => k ≤ 6) (fun k => 6 - k) 0 (by omega) (by rfl) (by simp only [czK, List.range_zero, List.flatMap_nil, List.append_nil]; rfl) (fun k hk => ?_)
  have hkl := czK_len m f s road k
  have hks := czK_succ m f s road k
  have hal : (X ++ czK m f s road k).length ≤ 1000000 := by rw [List.length_append]; omega
  (refine sy1 ?_; try exact True.intro)
  repeat' (first | refine w1g ?_ | refine w1l ?_ | refine w1q ?_ | refine w1b ?_ | refine w1p ?_ | ((first | refine w1r ?_ | refine w1k ?_ | refine w1e ?_); (refine sy1 ?_; try exact True.intro)) | refine an2 ?_ | fail)
  refine W_condD (by rfl) (fun h6 => ?_) (fun h6 => ?_)
  · have hk6 : k < 6 := by omega
    have c123 := fn123 m s road k h hs hrl hk6
    have ez : cz1 m f s road k = if limL m s road k < f k then [⟨road, k, limL m s road k, f k⟩] else [] := rfl
    obtain ⟨n, hnl⟩ : ∃ n, n = limL m s road k := ⟨_, rfl⟩
    rw [← hnl] at c123 ez
    have hys : X ++ czK m f s road (k + 1) = (X ++ czK m f s road k) ++ cz1 m f s road k := by rw [hks, List.append_assoc]
    generalize X ++ czK m f s road k = Y at *
    repeat' (first | refine w1g ?_ | refine w1l ?_ | refine w1q ?_ | refine w1b ?_ | refine w1p ?_ | ((first | refine w1r ?_ | refine w1k ?_ | refine w1e ?_ | refine CallC.now (c123) ?_); simp (maxSteps := 400000) (disch := omega) only [push_cast, ↓reduceIte, reduceCtorEq, Nat.reduceAdd, Nat.reduceSub, Nat.reduceEqDiff, Nat.reduceLeDiff, Nat.reduceLT, Nat.reduceBEq, Nat.reduceDiv, Nat.reduceMod, Nat.reducePow, Nat.reduceMul, Int.reduceToNat, Int.reduceLT, Int.reduceLE, hrd2, Nat.mul_one, Nat.zero_add]) | refine an2 ?_ | fail)
    refine W_condD (by rfl) (fun q => ?_) (fun q => ?_)
    · rw [if_pos q] at ez
      repeat' (first | refine w1g ?_ | refine w1l ?_ | refine w1q ?_ | refine w1b ?_ | refine w1p ?_ | ((first | refine w1r ?_ | refine w1k ?_ | refine w1e ?_); simp (maxSteps := 400000) (disch := omega) only [push_cast, ↓reduceIte, reduceCtorEq, Nat.reduceAdd, Nat.reduceSub, Nat.reduceEqDiff, Nat.reduceLeDiff, Nat.reduceLT, Nat.reduceBEq, Nat.reduceDiv, Nat.reduceMod, Nat.reducePow, Nat.reduceMul, Int.reduceToNat, Int.reduceLT, Int.reduceLE, hrd2, Nat.mul_one, Nat.zero_add]) | refine an2 ?_ | fail)
      refine ⟨rfl, trivial, Cs, dC, cC, [⟨road, k, n, f k⟩], rfl, by omega, fun x _ => ⟨rfl, rfl⟩, rfl, ?_⟩
      (refine sy1 ?_; try exact True.intro)
      refine ⟨rfl, ⟨Nat.le_of_ble_eq_true rfl, rfl⟩, trivial, [(⟨road, k, n, f k⟩ : Cs)], rfl, by first | omega | (simp; omega), by first | omega | (simp; omega), ?_⟩
      (refine sy1 ?_; try exact True.intro)
      repeat' (first | refine w1g ?_ | refine w1l ?_ | refine w1q ?_ | refine w1b ?_ | refine w1p ?_ | ((first | refine w1r ?_ | refine w1k ?_ | refine w1e ?_); (refine sy1 ?_; try exact True.intro)) | refine an2 ?_ | fail)
      refine ⟨k + 1, by omega, by omega, by rfl, ?_⟩
      rw [hys, ez, List.length_append]
      (refine syE ?_; try exact True.intro)
    · rw [if_neg q] at ez
      repeat' (first | refine w1g ?_ | refine w1l ?_ | refine w1q ?_ | refine w1b ?_ | refine w1p ?_ | ((first | refine w1r ?_ | refine w1k ?_ | refine w1e ?_); (refine sy1 ?_; try exact True.intro)) | refine an2 ?_ | fail)
      refine ⟨k + 1, by omega, by omega, by rfl, ?_⟩
      rw [hys, ez, List.append_nil]
      (refine syE ?_; try exact True.intro)
  · have hk6 : k = 6 := by omega
    subst hk6
    rw [← hsn]
    rw [← hsn] at hal
    repeat' (first | refine w1g ?_ | refine w1l ?_ | refine w1q ?_ | refine w1b ?_ | refine w1p ?_ | ((first | refine w1r ?_ | refine w1k ?_ | refine w1e ?_); (refine sy1 ?_; try exact True.intro)) | refine an2 ?_ | fail)
    refine ⟨i + 1, by omega, by omega, by rfl, ?_⟩
    (refine syE ?_; try exact True.intro)
end Go.Proofs.Ytfbdlmenhoagmaa

namespace Go.Proofs.Ytfbdlmenhoagmaa
open Go Sy
set_option maxRecDepth 100000
set_option maxHeartbeats 4000000
set_option linter.unusedVariables false
set_option linter.unusedSimpArgs false
end Go.Proofs.Ytfbdlmenhoagmaa

namespace Go.Proofs.Ytfbdlmenhoagmaa
open Go Sy
set_option maxRecDepth 100000
set_option maxHeartbeats 4000000
set_option linter.unusedVariables false
set_option linter.unusedSimpArgs false
def BI (g : List Int → Int) (ok : List Int → Bool) (L : List (List Int)) (i : Nat) (b : Int) : Prop :=
  (b = -1 ∧ leastL g ok (L.take i) = none) ∨ (0 ≤ b ∧ b < i ∧ leastL g ok (L.take i) = some (L.getD b.toNat [], g (L.getD b.toNat [])))
theorem take_snocL {L : List (List Int)} {i : Nat} (h : i < L.length) : L.take (i + 1) = L.take i ++ [L.getD i []] := by
  rw [List.take_add_one]
  simp [List.getD, h]
theorem BI.yes {g : List Int → Int} {ok : List Int → Bool} {L : List (List Int)} {i : Nat} {b : Int} (h : BI g ok L i b) (hi : i < L.length) (ho : ok (L.getD i []) = true) (hl : b < 0 ∨ g (L.getD i []) < g (L.getD b.toNat [])) : BI g ok L (i + 1) i := by
  right
  refine ⟨by omega, by omega, ?_⟩
  rw [take_snocL hi, leastL_snoc, Int.toNat_natCast]
  unfold lstep
  rw [if_pos ho]
  rcases h with ⟨h1, h2⟩ | ⟨h1, h2, h3⟩
  · rw [h2]
  · rw [h3]
    show (if _ then _ else _) = _
    rw [if_pos (by omega)]
theorem BI.no {g : List Int → Int} {ok : List Int → Bool} {L : List (List Int)} {i : Nat} {b : Int} (h : BI g ok L i b) (hi : i < L.length) (ho : ok (L.getD i []) = false ∨ (0 ≤ b ∧ g (L.getD b.toNat []) ≤ g (L.getD i []))) : BI g ok L (i + 1) b := by
  have e : ∀ x, leastL g ok (L.take i) = x → (x = none → b < 0) → (∀ p, x = some p → p.2 = g (L.getD b.toNat [])) → leastL g ok (L.take (i + 1)) = x := fun x hx h1 h2 => by
    rw [take_snocL hi, leastL_snoc, hx]
    unfold lstep
    rcases ho with ho | ⟨ho1, ho2⟩
    · rw [if_neg (by rw [ho]; simp)]
    · rcases x with _ | ⟨y, n⟩
      · have := h1 rfl; omega
      · have := h2 _ rfl
        dsimp only at this
        split
        · show (if _ then _ else _) = _
          rw [if_neg (by omega)]
        · rfl
  rcases h with ⟨h1, h2⟩ | ⟨h1, h2, h3⟩
  · exact .inl ⟨h1, e _ h2 (fun _ => by omega) (fun p hp => by cases hp)⟩
  · exact .inr ⟨h1, by omega, e _ h3 (fun q => by cases q) (fun p hp => by cases hp; rfl)⟩
end Go.Proofs.Ytfbdlmenhoagmaa

namespace Go.Proofs.Ytfbdlmenhoagmaa
open Go Sy
set_option maxRecDepth 100000
set_option maxHeartbeats 4000000
set_option linter.unusedVariables false
set_option linter.unusedSimpArgs false
end Go.Proofs.Ytfbdlmenhoagmaa

namespace Go.Proofs.Ytfbdlmenhoagmaa
open Go Sy
set_option linter.unusedVariables false
inductive Pt (m : Mp) (fr : Int) : List Int → Int → Prop
  | nil : Pt m fr [] fr
  | snoc {l : List Int} {a : Int} {i : Nat} : Pt m fr l a → i < m.rs.length → (gr m i).f = a → Pt m fr (l ++ [(i : Int)]) (gr m i).t
theorem Pt.rng {m : Mp} {fr a : Int} {l : List Int} (h : Pt m fr l a) : ∀ x ∈ l, 0 ≤ x ∧ x < m.rs.length := by
  induction h with
  | nil => intro x hx; cases hx
  | snoc _ hi _ ih =>
    intro x hx
    rcases List.mem_append.1 hx with hx | hx
    · exact ih x hx
    · rw [List.mem_singleton] at hx; omega
theorem count_set : ∀ (l : List Bool) (i : Nat), i < l.length → l.getD i false = false → (l.set i true).count false + 1 = l.count false
  | [], i, h, _ => by simp at h
  | b :: l, 0, h, hb => by
    have : b = false := by simpa using hb
    subst this
    simp
  | b :: l, i + 1, h, hb => by
    have h1 := count_set l i (by simpa using h) (by simpa using hb)
    rw [List.set_cons_succ, List.count_cons, List.count_cons]
    omega
end Go.Proofs.Ytfbdlmenhoagmaa

namespace Go.Proofs.Ytfbdlmenhoagmaa
open Go Sy
set_option maxRecDepth 100000
set_option maxHeartbeats 4000000
set_option linter.unusedVariables false
set_option linter.unusedSimpArgs false
end Go.Proofs.Ytfbdlmenhoagmaa

namespace Go.Proofs.Ytfbdlmenhoagmaa
open Go Sy
set_option linter.unusedVariables false
theorem allU_mem {m : Mp} {f : Nat → Int} {rs s : List Int} (h : allU m f rs s = true) : ∀ x ∈ rs, usB m f s x.toNat = true := fun x hx => by
  unfold allU at h
  rw [Bool.not_eq_true', ← Bool.not_eq_true, List.any_eq_true] at h
  apply Classical.byContradiction
  intro q
  exact h ⟨x, hx, by simpa using q⟩
theorem pt_wk {m : Mp} {f : Nat → Int} {s : List Int} {fr a : Int} {l : List Int} (hok : OkM m) (h : Pt m fr l a) (hu : ∀ x ∈ l, usB m f s x.toNat = true) : Wk (edgC m false (cU m f s)) fr.toNat a.toNat (sumR m l) := by
  induction h with
  | nil => exact .nil
  | snoc h1 hi hf ih =>
    rename_i l' a' i
    have hus : usB m f s i = true := by simpa using hu (i : Int) (by simp)
    obtain ⟨he, hc⟩ := us_edge (m := m) (f := f) (s := s) (bk := false) hi hus
    have ihh := ih (fun x hx => hu x (List.mem_append_left _ hx))
    rw [sumR_snoc, Int.toNat_natCast]
    have e1 : (edC m false (cU m f s) i).x = a'.toNat := by rw [← hf]; rfl
    have e2 : (edC m false (cU m f s) i).y = (gr m i).t.toNat := rfl
    rw [← e1] at ihh
    have h5 := (roadB_ok (hok.r i hi)).c
    have h6 := Wk.snoc ihh he (by rw [hc]; omega)
    rw [hc, e2] at h6
    exact h6
theorem price_le {m : Mp} {f : Nat → Int} {fr to : Int} {x s : List Int} (h : OkM m) (hf : 0 ≤ fr ∧ fr < m.n) (ht : 0 ≤ to ∧ to < m.n) (hp : Pt m fr x to) (hx : x.length ≤ 100) (hs : Srt m.ws.length 0 s) (hu : allU m f x s = true) : ∃ z k, bestS m f fr to = some (z, k) ∧ k ≤ sumR m x + costL m s := by
  have h1 := (pt_wk h hp (allU_mem hu)).rev
  have h1 : Wk (edgC m true (cU m f s)) to.toNat fr.toNat (sumR m x) := h1
  obtain ⟨k1, k2⟩ := edgC_ok h true (c := cU m f s) (fun i hi => (cU_rng h f s hi).1)
  obtain ⟨h3, h4⟩ := dL_dst h f s true ht
  have h5 := fix_le k1 h3 h4 h1
  have h5 : gi (dL m f s to) fr.toNat ≤ sumR m x := h5
  have h6 := (sumR_rng h hp.rng).2
  have h7 : (x.length : Int) * 1073741824 ≤ 100 * 1073741824 := by omega
  obtain ⟨z, k, h8, h9⟩ := best_le (m := m) (f := f) (fr := fr) (to := to) hs (by unfold okS; rw [decide_eq_true_eq]; omega)
  exact ⟨z, k, h8, by unfold cfS at h9; omega⟩
theorem sumR_from (m : Mp) : ∀ (l : List Int) (a : Int), l.foldl (fun n x => n + (gr m x.toNat).c) a = a + sumR m l
  | [], a => by simp [sumR]
  | x :: l, a => by
    have h1 := sumR_from m l (a + (gr m x.toNat).c)
    have h2 := sumR_from m l (0 + (gr m x.toNat).c)
    unfold sumR
    rw [List.foldl_cons, List.foldl_cons, h1, h2]
    omega
theorem sumR_cons (m : Mp) (x : Int) (l : List Int) : sumR m (x :: l) = (gr m x.toNat).c + sumR m l := by
  have h2 := sumR_from m l (0 + (gr m x.toNat).c)
  have e : sumR m (x :: l) = l.foldl (fun n x => n + (gr m x.toNat).c) (0 + (gr m x.toNat).c) := rfl
  rw [e, h2]; omega
theorem Pt.cons {m : Mp} {a b : Int} {l : List Int} {i : Nat} (hi : i < m.rs.length) (h : Pt m (gr m i).t l b) (hf : (gr m i).f = a) : Pt m a ((i : Int) :: l) b := by
  induction h with
  | nil =>
    have := Pt.snoc (Pt.nil (m := m) (fr := a)) hi hf
    exact this
  | snoc _ h2 h3 ih => exact .snoc ih h2 h3
theorem atP_cons (m : Mp) (a x : Int) (l : List Int) (i : Nat) : atP m a (x :: l) (i + 1) = atP m (gr m x.toNat).t l i := by
  unfold atP
  rw [if_neg (by omega)]
  rcases i with _ | j
  · rfl
  · rw [if_neg (by omega)]; rfl
structure Way (m : Mp) (f : Nat → Int) (s left : List Int) (to a : Int) (l : List Int) : Prop where
  u : ∀ x ∈ l, usB m f s x.toNat = true
  c : sumR m l = gi left a.toNat
  p : Pt m a l to
  f : ∀ i, i < l.length → (gr m (gi l i).toNat).f = atP m a l i
  d : ∀ i, i < l.length → gi left (gr m (gi l i).toNat).t.toNat < gi left (atP m a l i).toNat
  e : atP m a l l.length = to
theorem way_ok {m : Mp} {f : Nat → Int} {s : List Int} {to : Int} (h : OkM m) (ht : 0 ≤ to ∧ to < m.n) : ∀ (k : Nat) (a : Int), AtW m f s (dL m f s to) to a → rk (dL m f s to) m.n.toNat a.toNat ≤ k → Way m f s (dL m f s to) to a (wayC m f s (dL m f s to) to k a) ∧ (wayC m f s (dL m f s to) to k a).length ≤ k := by
  have h0 : gi (dL m f s to) to.toNat = 0 := (dL_dst h f s true ht).1.src
  have base : ∀ a, a = to → Way m f s (dL m f s to) to a [] := fun a e => by
    subst e
    exact ⟨fun x hx => (by cases hx), (by rw [h0]; rfl), .nil, fun i hi => (by simp at hi), fun i hi => (by simp at hi), rfl⟩
  intro k
  induction k with
  | zero =>
    intro a ha hr
    have hat : a = to := by
      apply Classical.byContradiction
      intro hne
      obtain ⟨h1, h2, _⟩ := nxt_spec h ht ha hne
      have := (hit_step h ht ha h1 h2).2.2.2.2
      omega
    exact ⟨base a hat, Nat.le_refl _⟩
  | succ k ih =>
    intro a ha hr
    by_cases hat : a = to
    · have e : wayC m f s (dL m f s to) to (k + 1) a = [] := by simp only [wayC]; rw [if_pos hat]
      rw [e]
      exact ⟨base a hat, by simp⟩
    · obtain ⟨h1, h2, _⟩ := nxt_spec h ht ha hat
      obtain ⟨g1, g2, g3, g4, g5⟩ := hit_step h ht ha h1 h2
      have e : wayC m f s (dL m f s to) to (k + 1) a = (nxt m f s (dL m f s to) a : Int) :: wayC m f s (dL m f s to) to k (gr m (nxt m f s (dL m f s to) a)).t := by simp only [wayC]; rw [if_neg hat]
      rw [e]
      obtain ⟨W, hl⟩ := ih _ g4 (by omega)
      generalize nxt m f s (dL m f s to) a = i at *
      generalize wayC m f s (dL m f s to) to k (gr m i).t = l at *
      have hc := (roadB_ok (h.r i h1)).c
      refine ⟨⟨fun x hx => ?_, ?_, W.p.cons h1 g2, fun j hj => ?_, fun j hj => ?_, ?_⟩, by simpa using hl⟩
      · rcases List.mem_cons.1 hx with rfl | hx
        · simpa using g1
        · exact W.u x hx
      · rw [sumR_cons, W.c, Int.toNat_natCast]; omega
      · rcases j with _ | j
        · exact g2
        · rw [atP_cons, Int.toNat_natCast]
          exact W.f j (by simpa using hj)
      · rcases j with _ | j
        · show gi (dL m f s to) (gr m i).t.toNat < gi (dL m f s to) a.toNat
          omega
        · rw [atP_cons, Int.toNat_natCast]
          exact W.d j (by simpa using hj)
      · rw [List.length_cons, atP_cons, Int.toNat_natCast]
        exact W.e
theorem best_way {m : Mp} {f : Nat → Int} {fr to : Int} {s : List Int} {n : Int} (h : OkM m) (hf : 0 ≤ fr ∧ fr < m.n) (ht : 0 ≤ to ∧ to < m.n) (hb : bestS m f fr to = some (s, n)) :
    Srt m.ws.length 0 s ∧ Way m f s (dL m f s to) to fr (wayS m f fr to s) ∧ (wayS m f fr to s).length ≤ 64 ∧ n = sumR m (wayS m f fr to s) + costL m s ∧ ∀ i, i < s.length → allU m f (wayS m f fr to s) (del s i) = false := by
  obtain ⟨b1, b2, b3, b4⟩ := best_some hb
  have hN := h.n
  have hlr := dL_rng h f s true ht (y := fr.toNat) (by omega)
  have hlr : 0 ≤ gi (dL m f s to) fr.toNat ∧ gi (dL m f s to) fr.toNat ≤ 1125899906842624 := hlr
  have hA0 : AtW m f s (dL m f s to) to fr := ⟨hf, by omega, (by unfold okS at b3; rw [decide_eq_true_eq] at b3; exact b3)⟩
  obtain ⟨W, hl⟩ := way_ok h ht m.n.toNat fr hA0 (rk_le _ _ _)
  have hW : wayC m f s (dL m f s to) to m.n.toNat fr = wayS m f fr to s := rfl
  rw [hW] at W hl
  have hn : n = sumR m (wayS m f fr to s) + costL m s := by rw [b4, W.c]; rfl
  refine ⟨b2, W, by omega, hn, fun i hi => ?_⟩
  cases hq : allU m f (wayS m f fr to s) (del s i)
  · rfl
  · exfalso
    obtain ⟨z, k, h4, h5⟩ := price_le h hf ht W.p (by omega) (del_srt s 0 i b2) hq
    rw [hb] at h4
    cases h4
    have h6 := del_cost m hi
    have h7 := b2.mem _ (getD_mem 0 s i hi)
    have h8 := (workB_ok (h.w (gi s i).toNat (by show (s.getD i 0).toNat < _; omega))).c
    omega
end Go.Proofs.Ytfbdlmenhoagmaa

namespace Go.Proofs.Ytfbdlmenhoagmaa
open Go Sy
set_option maxRecDepth 100000
set_option maxHeartbeats 4000000
set_option linter.unusedVariables false
set_option linter.unusedSimpArgs false
end Go.Proofs.Ytfbdlmenhoagmaa

namespace Go.Proofs.Ytfbdlmenhoagmaa
open Go Sy
set_option maxRecDepth 100000
set_option maxHeartbeats 4000000
set_option linter.unusedVariables false
set_option linter.unusedSimpArgs false
theorem fn105 (m : Mp) (h : m.ws.length ≤ 1000000) : Sy.Fn Try.prog 105 [aM m] (aI (evL m.ws.length)) := by
  refine Fn_of_W mixed Xt105 rfl ?_
  repeat' (first | refine w1g ?_ | refine w1l ?_ | refine w1q ?_ | refine w1b ?_ | refine w1p ?_ | ((first | refine w1r ?_ | refine w1k ?_ | refine w1e ?_); (refine sy1 ?_; try exact True.intro)) | refine an2 ?_ | fail)
  refine W_le (le_adopt 3 3 1 0 cI (by omega) rfl) ?_
  (refine sy1 ?_; try exact True.intro)
  refine W_loopU (fun i : Nat => [(3, .row 4 i), (4, iv i)]) (fun i => [(4, .row i 3 1 0 cI (evL i))]) (fun i => i ≤ m.ws.length) (fun i => m.ws.length - i) 0 (by omega) (by rfl) (by rfl) (fun i hi => ?_)
  have hel := ev_len i
  (refine sy1 ?_; try exact True.intro)
  repeat' (first | refine w1g ?_ | refine w1l ?_ | refine w1q ?_ | refine w1b ?_ | refine w1p ?_ | ((first | refine w1r ?_ | refine w1k ?_ | refine w1e ?_); (refine sy1 ?_; try exact True.intro)) | refine an2 ?_ | fail)
  refine W_condD (by rfl) (fun h5 => ?_) (fun h5 => ?_)
  · repeat' (first | refine w1g ?_ | refine w1l ?_ | refine w1q ?_ | refine w1b ?_ | refine w1p ?_ | ((first | refine w1r ?_ | refine w1k ?_ | refine w1e ?_); (refine sy1 ?_; try exact True.intro)) | refine an2 ?_ | fail)
    refine ⟨rfl, trivial, Int, 0, cI, [(i : Int)], rfl, by omega, fun x _ => ⟨rfl, rfl⟩, rfl, ?_⟩
    (refine sy1 ?_; try exact True.intro)
    refine ⟨rfl, ⟨Nat.le_of_ble_eq_true rfl, rfl⟩, trivial, [(i : Int)], rfl, by first | omega | (simp; omega), by first | omega | (simp; omega), ?_⟩
    (refine sy1 ?_; try exact True.intro)
    repeat' (first | refine w1g ?_ | refine w1l ?_ | refine w1q ?_ | refine w1b ?_ | refine w1p ?_ | ((first | refine w1r ?_ | refine w1k ?_ | refine w1e ?_); (refine sy1 ?_; try exact True.intro)) | refine an2 ?_ | fail)
    refine ⟨i + 1, by omega, by omega, by rfl, ?_⟩
    rw [ev_succ]
    (refine syE ?_; try exact True.intro)
  · rw [show i = m.ws.length by omega]
    repeat' (first | refine w1g ?_ | refine w1l ?_ | refine w1q ?_ | refine w1b ?_ | refine w1p ?_ | ((first | refine w1r ?_ | refine w1k ?_ | refine w1e ?_); (refine sy1 ?_; try exact True.intro)) | refine an2 ?_ | fail)
    refine W_ret ⟨[_], ⟨rfl, rfl⟩, ?_⟩
    simp (maxSteps := 400000) (disch := omega) only [push_cast, ↓reduceIte, reduceCtorEq, Nat.reduceAdd, Nat.reduceSub, Nat.reduceEqDiff, Nat.reduceLeDiff, Nat.reduceLT, Nat.reduceBEq, Nat.reduceDiv, Nat.reduceMod, Nat.reducePow, Nat.reduceMul, Int.reduceToNat, Int.reduceLT, Int.reduceLE, pack]
theorem us_one {m : Mp} {f : Nat → Int} {s : List Int} {road : Nat} : ((czR m f s [(road : Int)]).length : Int) = 0 ↔ usB m f s road = true := by
  have h := czR_nil (m := m) (f := f) (s := s) (rs := [(road : Int)])
  have e : allU m f [(road : Int)] s = usB m f s road := by simp [allU]
  rw [e] at h
  rw [← h]
  omega
theorem rdE_one {m : Mp} {road : Nat} (h : road < m.rs.length) : rdE m [(road : Int)] = 0 := by
  unfold rdE
  rw [if_neg (by simp), if_neg]
  rw [List.any_eq_true]
  rintro ⟨y, hy, hq⟩
  rw [List.mem_singleton] at hy
  subst hy
  rw [plB_of (by omega)] at hq; cases hq
theorem fn103 (m : Mp) (f : Nat → Int) (s : List Int) (road : Nat) (h : OkM m) (hs : Srt m.ws.length 0 s) (hr : road < m.rs.length) : Sy.Fn Try.prog 103 [aM m, .agg (c6 f), aI s, iv road] (bv (usB m f s road)) := by
  refine Fn_of_W mixed Xt103 rfl ?_
  have c80 := fn80 m f s [(road : Int)] h hs (rdE_one hr)
  have hz := us_one (m := m) (f := f) (s := s) (road := road)
  have hcl := czR_len m f s [(road : Int)]
  have e : (((czR m f s [(road : Int)]).length : Int) == 0) = usB m f s road := by
    rw [Bool.eq_iff_iff, beq_iff_eq, hz]
  generalize czR m f s [(road : Int)] = Z at *
  repeat (first | refine WK_go ?_ | refine W_seqL ?_ | refine W_seq ?_ | refine W_block ?_)
  refine W_regL ?_
  (refine sy1 ?_; try exact True.intro)
  repeat (first | refine WK_go ?_ | refine W_seqL ?_ | refine W_seq ?_ | refine W_block ?_)
  refine W_regP [5] (by decide) ?_
  simp (maxSteps := 400000) (disch := omega) only [push_cast, ↓reduceIte, reduceCtorEq, Nat.reduceAdd, Nat.reduceSub, Nat.reduceEqDiff, Nat.reduceLeDiff, Nat.reduceLT, Nat.reduceBEq, Nat.reduceDiv, Nat.reduceMod, Nat.reducePow, Nat.reduceMul, Int.reduceToNat, Int.reduceLT, Int.reduceLE, chainP, List.take_succ_cons, List.take_zero, List.drop_succ_cons, List.drop_zero]
  refine ⟨rfl, trivial, Int, 0, cI, [(road : Int)], rfl, by omega, fun x _ => ⟨rfl, rfl⟩, rfl, ?_⟩
  (refine sy1 ?_; try exact True.intro)
  refine ⟨_, le_frzR 13 [9, 10, 11] [] 8 7 0 3 1 0 cI [(road : Int)] rfl rfl rfl rfl, ?_⟩
  simp (maxSteps := 400000) (disch := omega) only [push_cast, ↓reduceIte, reduceCtorEq, Nat.reduceAdd, Nat.reduceSub, Nat.reduceEqDiff, Nat.reduceLeDiff, Nat.reduceLT, Nat.reduceBEq, Nat.reduceDiv, Nat.reduceMod, Nat.reducePow, Nat.reduceMul, Int.reduceToNat, Int.reduceLT, Int.reduceLE, chainP, List.take_succ_cons, List.take_zero, List.drop_succ_cons, List.drop_zero]
  refine CallC.now c80 ?_
  simp (maxSteps := 400000) (disch := omega) only [push_cast, ↓reduceIte, reduceCtorEq, Nat.reduceAdd, Nat.reduceSub, Nat.reduceEqDiff, Nat.reduceLeDiff, Nat.reduceLT, Nat.reduceBEq, Nat.reduceDiv, Nat.reduceMod, Nat.reducePow, Nat.reduceMul, Int.reduceToNat, Int.reduceLT, Int.reduceLE, e]
  repeat' (first | refine w1g ?_ | refine w1l ?_ | refine w1q ?_ | refine w1b ?_ | refine w1p ?_ | ((first | refine w1r ?_ | refine w1k ?_ | refine w1e ?_); (refine sy1 ?_; try exact True.intro)) | refine an2 ?_ | fail)
  exact W_ret ⟨[_], ⟨rfl, rfl⟩, rfl⟩
def ldsB (m : Mp) (f : Nat → Int) (road k : Nat) : Bool := usB m f (evL m.ws.length) road && decide ((gr m road).lim k < f k)
theorem fn133 (m : Mp) (f : Nat → Int) (road k : Nat) (h : OkM m) (hr : road < m.rs.length) (hk : k < 6) : Sy.Fn Try.prog 133 [aM m, .agg (c6 f), iv road, iv k] (bv (ldsB m f road k)) := by
  refine Fn_of_W mixed Xt133 rfl ?_
  have hw := h.nw
  have c105 := fn105 m (by omega)
  have c103 := fn103 m f (evL m.ws.length) road h (ev_srt _) hr
  have hlim : nth (cR (gr m road)) (6 + k) = iv ((gr m road).lim k) := by
    rcases k with _ | _ | _ | _ | _ | _ | k <;> first | rfl | omega
  have hgr : m.rs.getD road dR = gr m road := rfl
  unfold ldsB
  generalize usB m f (evL m.ws.length) road = U at *
  generalize evL m.ws.length = E at *
  repeat' (first | refine w1g ?_ | refine w1l ?_ | refine w1q ?_ | refine w1b ?_ | refine w1p ?_ | ((first | refine w1r ?_ | refine w1k ?_ | refine w1e ?_ | refine CallC.now (c105) ?_ | refine CallC.now (c103) ?_); simp (maxSteps := 400000) (disch := omega) only [push_cast, ↓reduceIte, reduceCtorEq, Nat.reduceAdd, Nat.reduceSub, Nat.reduceEqDiff, Nat.reduceLeDiff, Nat.reduceLT, Nat.reduceBEq, Nat.reduceDiv, Nat.reduceMod, Nat.reducePow, Nat.reduceMul, Int.reduceToNat, Int.reduceLT, Int.reduceLE, hgr, hlim, Nat.mul_one, Nat.zero_add, Nat.add_assoc]) | refine an2 ?_ | fail)
  exact W_ret ⟨[_], ⟨rfl, rfl⟩, rfl⟩
def hpsB (m : Mp) (f : Nat → Int) (w road k : Nat) : Bool := ((gw m w).k == (k : Int) && decide ((road : Int) ∈ (gw m w).rs)) && decide (f k ≤ (gw m w).l)
theorem fn134 (m : Mp) (f : Nat → Int) (w road k : Nat) (h : OkM m) (hw : w < m.ws.length) (hk : k < 6) : Sy.Fn Try.prog 134 [aM m, .agg (c6 f), iv w, iv road, iv k] (bv (hpsB m f w road k)) := by
  refine Fn_of_W mixed Xt134 rfl ?_
  have hgw : m.ws.getD w dW = gw m w := rfl
  have hwl := h.s w hw
  have c107 := fn107 (gw m w).rs (road : Int) (by omega)
  unfold hpsB
  generalize gw m w = W at *
  repeat' (first | refine w1g ?_ | refine w1l ?_ | refine w1q ?_ | refine w1b ?_ | refine w1p ?_ | ((first | refine w1r ?_ | refine w1k ?_ | refine w1e ?_ | refine CallC.go _ (fun _ => ⟨trivial, c107⟩) rfl ?_); simp (maxSteps := 400000) (disch := omega) only [push_cast, ↓reduceIte, reduceCtorEq, Nat.reduceAdd, Nat.reduceSub, Nat.reduceEqDiff, Nat.reduceLeDiff, Nat.reduceLT, Nat.reduceBEq, Nat.reduceDiv, Nat.reduceMod, Nat.reducePow, Nat.reduceMul, Int.reduceToNat, Int.reduceLT, Int.reduceLE, hgw, Nat.mul_one, Nat.zero_add]) | refine an2 ?_ | fail)
  exact W_ret ⟨[_], ⟨rfl, rfl⟩, rfl⟩
structure Prt where
  w : Int
  r : Int
  k : Int
  v : Int
def dP : Prt := ⟨0, 0, 0, 0⟩
def cP (c : Prt) : List AV := [iv c.w, iv c.r, iv c.k, iv c.v]
theorem lP (c : Prt) : (cP c).length = 4 := rfl
theorem frP (c : Prt) : frzAll (cP c) = true := rfl
theorem tP (c : Prt) : List.take 4 (List.drop 0 (cP c)) = cP c := rfl
theorem tP2 (c : Prt) : List.take 4 (cP c) = cP c := rfl
theorem nP0 (c : Prt) : nth (cP c) 0 = iv c.w := rfl
theorem nP1 (c : Prt) : nth (cP c) 1 = iv c.r := rfl
theorem nP2 (c : Prt) : nth (cP c) 2 = iv c.k := rfl
theorem nP3 (c : Prt) : nth (cP c) 3 = iv c.v := rfl
attribute [push_cast] lP frP tP tP2 nP0 nP1 nP2 nP3
abbrev aP (l : List Prt) : AV := .sl 4 dP cP l
def prB (w r k : Int) (p : Prt) : Bool := p.w == w && p.r == r && p.k == k
def partV (w r k : Int) : List Prt → Int
  | [] => 0
  | p :: ps => if prB w r k p = true then p.v else partV w r k ps
theorem partV_drop (w r k : Int) {ps : List Prt} {i : Nat} (h : i < ps.length) : partV w r k (ps.drop i) = if prB w r k (ps.getD i dP) = true then (ps.getD i dP).v else partV w r k (ps.drop (i + 1)) := by
  rw [List.drop_eq_getElem_cons h]
  have : ps.getD i dP = ps[i] := by simp [List.getD, h]
  rw [this]
  rfl
theorem fn135 (ps : List Prt) (w r k : Int) (hl : ps.length ≤ 1000000) : Sy.Fn Try.prog 135 [aP ps, iv w, iv r, iv k] (iv (partV w r k ps)) := by
  refine Fn_of_W mixed Xt135 rfl ?_
  repeat' (first | refine w1g ?_ | refine w1l ?_ | refine w1q ?_ | refine w1b ?_ | refine w1p ?_ | ((first | refine w1r ?_ | refine w1k ?_ | refine w1e ?_); (refine sy1 ?_; try exact True.intro)) | refine an2 ?_ | fail)
  refine W_loopU (fun i : Nat => [(9, iv i)]) (fun i => []) (fun i => i ≤ ps.length ∧ partV w r k ps = partV w r k (ps.drop i)) (fun i => ps.length - i) 0 ⟨by omega, rfl⟩ (by rfl) (by rfl) (fun i hi => ?_)
  obtain ⟨hi, hp⟩ := hi
  (refine sy1 ?_; try exact True.intro)
  repeat' (first | refine w1g ?_ | refine w1l ?_ | refine w1q ?_ | refine w1b ?_ | refine w1p ?_ | ((first | refine w1r ?_ | refine w1k ?_ | refine w1e ?_); (refine sy1 ?_; try exact True.intro)) | refine an2 ?_ | fail)
  refine W_condD (by rfl) (fun h5 => ?_) (fun h5 => ?_)
  · have hlt : i < ps.length := by omega
    rw [partV_drop w r k hlt] at hp
    obtain ⟨p, hpp⟩ : ∃ p, ps.getD i dP = p := ⟨_, rfl⟩
    rw [hpp] at hp
    repeat' (first | refine w1g ?_ | refine w1l ?_ | refine w1q ?_ | refine w1b ?_ | refine w1p ?_ | ((first | refine w1r ?_ | refine w1k ?_ | refine w1e ?_); simp (maxSteps := 400000) (disch := omega) only [push_cast, ↓reduceIte, reduceCtorEq, Nat.reduceAdd, Nat.reduceSub, Nat.reduceEqDiff, Nat.reduceLeDiff, Nat.reduceLT, Nat.reduceBEq, Nat.reduceDiv, Nat.reduceMod, Nat.reducePow, Nat.reduceMul, Int.reduceToNat, Int.reduceLT, Int.reduceLE, hpp, Nat.zero_add, Nat.mul_one]) | refine an2 ?_ | fail)
    refine W_cond (by rfl) (fun hz => ?_) (fun hz => ?_)
    · have hz : prB w r k p = true := hz
      rw [if_pos hz] at hp
      rw [hp]
      repeat' (first | refine w1g ?_ | refine w1l ?_ | refine w1q ?_ | refine w1b ?_ | refine w1p ?_ | ((first | refine w1r ?_ | refine w1k ?_ | refine w1e ?_); simp (maxSteps := 400000) (disch := omega) only [push_cast, ↓reduceIte, reduceCtorEq, Nat.reduceAdd, Nat.reduceSub, Nat.reduceEqDiff, Nat.reduceLeDiff, Nat.reduceLT, Nat.reduceBEq, Nat.reduceDiv, Nat.reduceMod, Nat.reducePow, Nat.reduceMul, Int.reduceToNat, Int.reduceLT, Int.reduceLE, hpp, Nat.zero_add, Nat.mul_one]) | refine an2 ?_ | fail)
      exact W_ret ⟨[_], ⟨rfl, rfl⟩, rfl⟩
    · have hz : prB w r k p = false := hz
      rw [if_neg (by rw [hz]; simp)] at hp
      repeat' (first | refine w1g ?_ | refine w1l ?_ | refine w1q ?_ | refine w1b ?_ | refine w1p ?_ | ((first | refine w1r ?_ | refine w1k ?_ | refine w1e ?_); (refine sy1 ?_; try exact True.intro)) | refine an2 ?_ | fail)
      refine ⟨i + 1, ⟨by omega, hp⟩, by omega, by rfl, ?_⟩
      (refine syE ?_; try exact True.intro)
  · have hil : i = ps.length := by omega
    rw [hil, List.drop_length] at hp
    rw [hp]
    repeat' (first | refine w1g ?_ | refine w1l ?_ | refine w1q ?_ | refine w1b ?_ | refine w1p ?_ | ((first | refine w1r ?_ | refine w1k ?_ | refine w1e ?_); (refine sy1 ?_; try exact True.intro)) | refine an2 ?_ | fail)
    exact W_ret ⟨[_], ⟨rfl, rfl⟩, rfl⟩
theorem partV_rng {w r k : Int} : ∀ {ps : List Prt}, (∀ p ∈ ps, 0 ≤ p.v) → 0 ≤ partV w r k ps
  | [], _ => Int.le_refl _
  | p :: ps, h => by
    simp only [partV]
    split
    · exact h p List.mem_cons_self
    · exact partV_rng fun q hq => h q (List.mem_cons_of_mem _ hq)
def minS (m : Mp) (f : Nat → Int) (ps : List Prt) (road k : Nat) (a : Int) (w : Nat) : Int := if hpsB m f w road k = true then min a (partV w road k ps) else a
def minP (m : Mp) (f : Nat → Int) (ps : List Prt) (road k n : Nat) : Int := (List.range n).foldl (minS m f ps road k) 1125899906842624
theorem minP_succ (m : Mp) (f : Nat → Int) (ps : List Prt) (road k n : Nat) : minP m f ps road k (n + 1) = minS m f ps road k (minP m f ps road k n) n := by
  unfold minP; rw [List.range_succ, List.foldl_append]; rfl
theorem minP_rng {m : Mp} {f : Nat → Int} {ps : List Prt} {road k : Nat} (h : ∀ p ∈ ps, 0 ≤ p.v) : ∀ n, 0 ≤ minP m f ps road k n ∧ minP m f ps road k n ≤ 1125899906842624
  | 0 => by unfold minP; simp
  | n + 1 => by
    have h1 := minP_rng (m := m) (f := f) (road := road) (k := k) h n
    have h2 := partV_rng (w := n) (r := road) (k := k) h
    rw [minP_succ]
    unfold minS
    split <;> omega
def redK (m : Mp) (f : Nat → Int) (ps : List Prt) (road : Nat) (a : Int) (k : Nat) : Int := if ldsB m f road k = true then a + minP m f ps road k m.ws.length else a
def redS (m : Mp) (f : Nat → Int) (ps : List Prt) (road n : Nat) : Int := (List.range n).foldl (redK m f ps road) (gr m road).c
theorem redS_succ (m : Mp) (f : Nat → Int) (ps : List Prt) (road n : Nat) : redS m f ps road (n + 1) = redK m f ps road (redS m f ps road n) n := by
  unfold redS; rw [List.range_succ, List.foldl_append]; rfl
theorem redS_rng {m : Mp} {f : Nat → Int} {ps : List Prt} {road : Nat} (hok : OkM m) (hr : road < m.rs.length) (h : ∀ p ∈ ps, 0 ≤ p.v) : ∀ n : Nat, 1 ≤ redS m f ps road n ∧ redS m f ps road n ≤ 1073741824 + n * 1125899906842624
  | 0 => by
    have := (roadB_ok (hok.r road hr)).c
    show 1 ≤ (gr m road).c ∧ (gr m road).c ≤ _
    omega
  | n + 1 => by
    have h1 := redS_rng (f := f) hok hr h n
    have h2 := minP_rng (m := m) (f := f) (road := road) (k := n) h m.ws.length
    rw [redS_succ]
    unfold redK
    split <;> omega
theorem fn106 (m : Mp) (f : Nat → Int) (ps : List Prt) (road : Nat) (h : OkM m) (hr : road < m.rs.length) (hl : ps.length ≤ 1000000) (hv : ∀ p ∈ ps, 0 ≤ p.v) : Sy.Fn Try.prog 106 [aM m, .agg (c6 f), aP ps, iv road] (iv (redS m f ps road 6)) := by
  refine Fn_of_W mixed Xt106 rfl ?_
  have hw := h.nw
  have hgr : m.rs.getD road dR = gr m road := rfl
  repeat' (first | refine w1g ?_ | refine w1l ?_ | refine w1q ?_ | refine w1b ?_ | refine w1p ?_ | ((first | refine w1r ?_ | refine w1k ?_ | refine w1e ?_); simp (maxSteps := 400000) (disch := omega) only [push_cast, ↓reduceIte, reduceCtorEq, Nat.reduceAdd, Nat.reduceSub, Nat.reduceEqDiff, Nat.reduceLeDiff, Nat.reduceLT, Nat.reduceBEq, Nat.reduceDiv, Nat.reduceMod, Nat.reducePow, Nat.reduceMul, Int.reduceToNat, Int.reduceLT, Int.reduceLE, hgr, Nat.mul_one, Nat.zero_add]) | refine an2 ?_ | fail)
  refine W_loopU (fun k : Nat => [(9, iv (redS m f ps road k)), (10, iv k)]) (fun k => []) (fun k => k ≤ 6) (fun k => 6 - k) 0 (by omega) (by rfl) (by rfl) (fun k hk => ?_)
  (refine sy1 ?_; try exact True.intro)
  repeat' (first | refine w1g ?_ | refine w1l ?_ | refine w1q ?_ | refine w1b ?_ | refine w1p ?_ | ((first | refine w1r ?_ | refine w1k ?_ | refine w1e ?_); (refine sy1 ?_; try exact True.intro)) | refine an2 ?_ | fail)
  refine W_condD (by rfl) (fun h5 => ?_) (fun h5 => ?_)
  rotate_left
  · rw [show k = 6 by omega]
    repeat' (first | refine w1g ?_ | refine w1l ?_ | refine w1q ?_ | refine w1b ?_ | refine w1p ?_ | ((first | refine w1r ?_ | refine w1k ?_ | refine w1e ?_); (refine sy1 ?_; try exact True.intro)) | refine an2 ?_ | fail)
    exact W_ret ⟨[_], ⟨rfl, rfl⟩, rfl⟩
  have hk6 : k < 6 := by omega
  have c133 := fn133 m f road k h hr hk6
  have hs := redS_succ m f ps road k
  have b1 := redS_rng (f := f) h hr hv k
  have ek : ∀ a, redK m f ps road a k = if ldsB m f road k = true then a + minP m f ps road k m.ws.length else a := fun _ => rfl
  rw [ek] at hs
  generalize redS m f ps road k = A at *
  repeat' (first | refine w1g ?_ | refine w1l ?_ | refine w1q ?_ | refine w1b ?_ | refine w1p ?_ | ((first | refine w1r ?_ | refine w1k ?_ | refine w1e ?_ | refine CallC.now (c133) ?_); (refine sy1 ?_; try exact True.intro)) | refine an2 ?_ | fail)
  refine W_cond (by rfl) (fun hz => ?_) (fun hz => ?_)
  · rw [if_neg (by simpa using hz)] at hs
    repeat' (first | refine w1g ?_ | refine w1l ?_ | refine w1q ?_ | refine w1b ?_ | refine w1p ?_ | ((first | refine w1r ?_ | refine w1k ?_ | refine w1e ?_); (refine sy1 ?_; try exact True.intro)) | refine an2 ?_ | fail)
    refine ⟨k + 1, by omega, by omega, by rfl, ?_⟩
    rw [hs]
    (refine syE ?_; try exact True.intro)
  rw [if_pos (by simpa using hz)] at hs
  repeat' (first | refine w1g ?_ | refine w1l ?_ | refine w1q ?_ | refine w1b ?_ | refine w1p ?_ | ((first | refine w1r ?_ | refine w1k ?_ | refine w1e ?_); (refine sy1 ?_; try exact True.intro)) | refine an2 ?_ | fail)
  refine W_loopU (fun i : Nat => [(11, iv (minP m f ps road k i)), (12, iv i)]) (fun i => []) (fun i => i ≤ m.ws.length) (fun i => m.ws.length - i) 0 (by omega) (by rfl) (by rfl) (fun i hi => ?_)
  (refine sy1 ?_; try exact True.intro)
  repeat' (first | refine w1g ?_ | refine w1l ?_ | refine w1q ?_ | refine w1b ?_ | refine w1p ?_ | ((first | refine w1r ?_ | refine w1k ?_ | refine w1e ?_); (refine sy1 ?_; try exact True.intro)) | refine an2 ?_ | fail)
  have b2 := minP_rng (m := m) (f := f) (road := road) (k := k) hv i
  refine W_condD (by rfl) (fun h6 => ?_) (fun h6 => ?_)
  · have hlt : i < m.ws.length := by omega
    have c134 := fn134 m f i road k h hlt hk6
    have c135 := fn135 ps i road k hl
    have es := minP_succ m f ps road k i
    unfold minS at es
    generalize minP m f ps road k i = B at *
    repeat' (first | refine w1g ?_ | refine w1l ?_ | refine w1q ?_ | refine w1b ?_ | refine w1p ?_ | ((first | refine w1r ?_ | refine w1k ?_ | refine w1e ?_ | refine CallC.now (c134) ?_); (refine sy1 ?_; try exact True.intro)) | refine an2 ?_ | fail)
    refine W_cond (by rfl) (fun hz => ?_) (fun hz => ?_)
    · rw [if_pos hz] at es
      repeat' (first | refine w1g ?_ | refine w1l ?_ | refine w1q ?_ | refine w1b ?_ | refine w1p ?_ | ((first | refine w1r ?_ | refine w1k ?_ | refine w1e ?_ | refine CallC.now (c135) ?_); (refine sy1 ?_; try exact True.intro)) | refine an2 ?_ | fail)
      refine ⟨i + 1, by omega, by omega, by rfl, ?_⟩
      rw [es]
      (refine syE ?_; try exact True.intro)
    · rw [if_neg (by rw [hz]; simp)] at es
      repeat' (first | refine w1g ?_ | refine w1l ?_ | refine w1q ?_ | refine w1b ?_ | refine w1p ?_ | ((first | refine w1r ?_ | refine w1k ?_ | refine w1e ?_); (refine sy1 ?_; try exact True.intro)) | refine an2 ?_ | fail)
      refine ⟨i + 1, by omega, by omega, by rfl, ?_⟩
      rw [es]
      (refine syE ?_; try exact True.intro)
  · have hil : i = m.ws.length := by omega
    subst hil
    generalize minP m f ps road k m.ws.length = B at *
    repeat' (first | refine w1g ?_ | refine w1l ?_ | refine w1q ?_ | refine w1b ?_ | refine w1p ?_ | ((first | refine w1r ?_ | refine w1k ?_ | refine w1e ?_); (refine sy1 ?_; try exact True.intro)) | refine an2 ?_ | fail)
    refine ⟨k + 1, by omega, by omega, by rfl, ?_⟩
    rw [hs]
    (refine syE ?_; try exact True.intro)
end Go.Proofs.Ytfbdlmenhoagmaa

namespace Go.Proofs.Ytfbdlmenhoagmaa
open Go Sy
set_option maxRecDepth 100000
set_option maxHeartbeats 4000000
set_option linter.unusedVariables false
set_option linter.unusedSimpArgs false
def tbI (n : Nat) (g : Nat → Int) : List Int := (List.range n).map g
theorem tbI_len (n : Nat) (g : Nat → Int) : (tbI n g).length = n := by simp [tbI]
theorem tbI_set {n j : Nat} {g h : Nat → Int} {v : Int} (hj : h j = v) (hh : ∀ i, i < n → i ≠ j → g i = h i) : (tbI n g).set j v = tbI n h := by
  apply List.ext_getElem (by rw [List.length_set, tbI_len, tbI_len])
  intro i h1 h2
  rw [tbI_len] at h2
  rw [List.getElem_set]
  split
  · rename_i q; subst q; rw [← hj]; simp [tbI]
  · rename_i q
    simp only [tbI, List.getElem_map, List.getElem_range]
    exact hh i h2 (fun e => q e.symm)
theorem tbI_rep (n : Nat) (v : Int) : tbI n (fun _ => v) = List.replicate n v := by
  unfold tbI
  rw [List.eq_replicate_iff]
  refine ⟨by simp, fun b hb => ?_⟩
  obtain ⟨i, _, rfl⟩ := List.mem_map.1 hb
  rfl
theorem take_snocP {ps : List Prt} {i : Nat} (h : i < ps.length) : ps.take (i + 1) = ps.take i ++ [ps.getD i dP] := by
  rw [List.take_add_one]
  simp [List.getD, h]
def dupB (ps : List Prt) (i : Nat) : Bool := (List.range i).any fun j => prB (ps.getD i dP).w (ps.getD i dP).r (ps.getD i dP).k (ps.getD j dP)
structure PrtOK (m : Mp) (f : Nat → Int) (p : Prt) : Prop where
  w : 0 ≤ p.w ∧ p.w < m.ws.length
  r : 0 ≤ p.r ∧ p.r < m.rs.length
  k : 0 ≤ p.k ∧ p.k ≤ 5
  v : 0 ≤ p.v ∧ p.v ≤ (gw m p.w.toNat).c
  l : ldsB m f p.r.toNat p.k.toNat = true
  h : hpsB m f p.w.toNat p.r.toNat p.k.toNat = true
def cBd (ps : List Prt) (hs : List Int) : List AV := [aP ps, aI hs]
end Go.Proofs.Ytfbdlmenhoagmaa

namespace Go.Proofs.Ytfbdlmenhoagmaa
open Go Sy
set_option maxRecDepth 100000
set_option maxHeartbeats 4000000
set_option linter.unusedVariables false
set_option linter.unusedSimpArgs false
end Go.Proofs.Ytfbdlmenhoagmaa

namespace Go.Proofs.Ytfbdlmenhoagmaa
open Go Sy
set_option maxRecDepth 100000
set_option maxHeartbeats 4000000
set_option linter.unusedVariables false
set_option linter.unusedSimpArgs false
structure Ld where
  r : Int
  k : Int
def dLd : Ld := ⟨0, 0⟩
def cLd (c : Ld) : List AV := [iv c.r, iv c.k]
theorem lLd (c : Ld) : (cLd c).length = 2 := rfl
theorem frLd (c : Ld) : frzAll (cLd c) = true := rfl
theorem tLd (c : Ld) : List.take 2 (List.drop 0 (cLd c)) = cLd c := rfl
theorem tLd2 (c : Ld) : List.take 2 (cLd c) = cLd c := rfl
theorem iLd {m : Nat → Option Blk} {n : Nat} (c : Ld) : List.flatMap (ids m n) (cLd c) = [] := flat_frz n _ (frLd c)
theorem vLd {m : Nat → Option Blk} {n : Nat} (c : Ld) : List.map (view m n) (cLd c) = cLd c := viewL_frz n _ (frLd c)
attribute [push_cast] lLd frLd tLd tLd2 iLd vLd
def ld1 (m : Mp) (f : Nat → Int) (road k : Nat) : List Ld := if ldsB m f road k = true then [⟨road, k⟩] else []
def ldL (m : Mp) (f : Nat → Int) (road n : Nat) : List Ld := (List.range n).flatMap (ld1 m f road)
theorem fn97 (m : Mp) (f : Nat → Int) (road : Int) : Sy.Fn Try.prog 97 [aAt m f, iv road] (.clo 128 [] [.fp (cAt m f) 0, .fp [iv road] 0]) := by
  refine Fn_of_W mixed Xt97 rfl ?_
  repeat' (first | refine w1g ?_ | refine w1l ?_ | refine w1q ?_ | refine w1b ?_ | refine w1p ?_ | ((first | refine w1r ?_ | refine w1k ?_ | refine w1e ?_); (refine sy1 ?_; try exact True.intro)) | refine an2 ?_ | fail)
  exact W_ret ⟨[_], ⟨rfl, rfl⟩, rfl⟩
end Go.Proofs.Ytfbdlmenhoagmaa

namespace Go.Proofs.Ytfbdlmenhoagmaa
open Go Sy
set_option maxRecDepth 100000
set_option maxHeartbeats 4000000
set_option linter.unusedVariables false
set_option linter.unusedSimpArgs false
theorem fn98 (m : Mp) (f : Nat → Int) (w road k : Nat) (h : OkM m) (hw : w < m.ws.length) (hk : k < 6) : Sy.Fn Try.prog 98 [aAt m f, iv w, .agg (cLd ⟨road, k⟩)] (bv (hpsB m f w road k)) := by
  refine Fn_of_W mixed Xt98 rfl ?_
  have hgw : m.ws.getD w dW = gw m w := rfl
  have hwl := h.s w hw
  have c129 := fn129 (gw m w).rs (road : Int) (by omega)
  have hcf : nth (cAt m f) (3 + k) = iv (f k) := by
    rcases k with _ | _ | _ | _ | _ | _ | k <;> first | rfl | omega
  have e : hpsB m f w road k = (((gw m w).k == (k : Int) && decide (f k ≤ (gw m w).l)) && decide ((road : Int) ∈ (gw m w).rs)) := by
    unfold hpsB
    cases (gw m w).k == (k : Int) <;> cases decide (f k ≤ (gw m w).l) <;> cases decide ((road : Int) ∈ (gw m w).rs) <;> rfl
  rw [e]
  generalize gw m w = W at *
  unfold cLd
  repeat' (first | refine w1g ?_ | refine w1l ?_ | refine w1q ?_ | refine w1b ?_ | refine w1p ?_ | ((first | refine w1r ?_ | refine w1k ?_ | refine w1e ?_ | refine CallC.go _ (fun _ => ⟨trivial, c129⟩) rfl ?_); simp (maxSteps := 400000) (disch := omega) only [push_cast, ↓reduceIte, reduceCtorEq, Nat.reduceAdd, Nat.reduceSub, Nat.reduceEqDiff, Nat.reduceLeDiff, Nat.reduceLT, Nat.reduceBEq, Nat.reduceDiv, Nat.reduceMod, Nat.reducePow, Nat.reduceMul, Int.reduceToNat, Int.reduceLT, Int.reduceLE, hgw, hcf, Nat.mul_one, Nat.zero_add]) | refine an2 ?_ | fail)
  exact W_ret ⟨[_], ⟨rfl, rfl⟩, rfl⟩
end Go.Proofs.Ytfbdlmenhoagmaa

namespace Go.Proofs.Ytfbdlmenhoagmaa
open Go Sy
set_option maxRecDepth 100000
set_option maxHeartbeats 4000000
set_option linter.unusedVariables false
set_option linter.unusedSimpArgs false
def kyP (w r k : Int) : Value := .agg #[.int .i64 w, .int .i64 r, .int .i64 k]
def Hol (g : Value → Option Value) (V : Nat → Nat → Nat → Int) : Prop := ∀ w r k : Nat, valG g (.int .i64 0) (kyP w r k) = .int .i64 (V w r k)
theorem ok3 (w r k : Int) : okK 3 (.agg #[.int .i64 w, .int .i64 r, .int .i64 k]) := ⟨[w, r, k], rfl, rfl⟩
theorem fn132 (m : Mp) (f : Nat → Int) (g : Value → Option Value) (V : Nat → Nat → Nat → Int) (hg : Hol g V) (w road k : Nat) (h : OkM m) (hw : w < m.ws.length) (hk : k < 6) : Sy.Fn Try.prog 132 [iv w, .fp [.fm 3 g] 0, .fp (cLd ⟨road, k⟩) 0, .fp (cAt m f) 0] (.tup [iv (V w road k), bv (hpsB m f w road k)]) := by
  refine Fn_of_W mixed Xt132 rfl ?_
  have c98 := fn98 m f w road k h hw hk
  have hg : valG g (.int .i64 0) (.agg #[.int .i64 w, .int .i64 road, .int .i64 k]) = .int .i64 (V w road k) := hg w road k
  have c98 : Sy.Fn Try.prog 98 [aAt m f, iv w, .agg [iv road, iv k]] (bv (hpsB m f w road k)) := c98
  have ec : cLd ⟨road, k⟩ = [iv road, iv k] := rfl
  rw [ec]
  repeat' (first | refine w1g ?_ | refine w1l ?_ | refine w1q ?_ | refine w1b ?_ | refine w1p ?_ | ((first | refine w1r ?_ | refine w1k ?_ | refine w1e ?_ | refine CallC.now (c98) ?_); (refine sy1 ?_; try exact True.intro)) | refine an2 ?_ | fail)
  refine And.intro (ok3 _ _ _) ?_
  refine CallC.now c98 ?_
  simp (maxSteps := 400000) (disch := omega) only [push_cast, ↓reduceIte, reduceCtorEq, Nat.reduceAdd, Nat.reduceSub, Nat.reduceEqDiff, Nat.reduceLeDiff, Nat.reduceLT, Nat.reduceBEq, Nat.reduceDiv, Nat.reduceMod, Nat.reducePow, Nat.reduceMul, Int.reduceToNat, Int.reduceLT, Int.reduceLE, hg]
  exact W_ret ⟨[_, _], ⟨rfl, rfl, rfl⟩, rfl⟩
def lwS (hp : Nat → Bool) (v : Nat → Int) (a : Int × Int × Bool) (i : Nat) : Int × Int × Bool := if (hp i && (!a.2.2 || decide (v i < a.2.1))) = true then ((i : Int), v i, true) else a
def lwF (hp : Nat → Bool) (v : Nat → Int) (n : Nat) : Int × Int × Bool := (List.range n).foldl (lwS hp v) (0, 0, false)
theorem lwF_succ (hp : Nat → Bool) (v : Nat → Int) (n : Nat) : lwF hp v (n + 1) = lwS hp v (lwF hp v n) n := by
  unfold lwF; rw [List.range_succ, List.foldl_append]; rfl
theorem fn131 (n : Nat) (hn : n ≤ 10) (g : Nat) (fi ca : List AV) (hp : Nat → Bool) (v : Nat → Int) (hc : ∀ i, i < n → Sy.Fn Try.prog g (fi ++ [iv i] ++ ca) (.tup [iv (v i), bv (hp i)])) : Sy.Fn Try.prog 131 [.clo 118 [] [.fp [uv (msk (evL n))] 0], .clo g fi ca] (.tup [iv (lwF hp v n).1, iv (lwF hp v n).2.1, bv (lwF hp v n).2.2]) := by
  refine Fn_of_W mixed Xt131 rfl ?_
  obtain ⟨s, hs⟩ : ∃ s, s = msk (evL n) := ⟨_, rfl⟩
  have hb : BitsOf s (evL n) := by rw [hs]; exact msk_bits fun x hx => (ev_mem.1 hx).1
  have hs1 : s < 1024 := by
    have := bits_lt (n := 10) hb (fun x hx => by have := (ev_mem.1 hx).2; omega)
    simpa using this
  rw [← hs]
  repeat' (first | refine w1g ?_ | refine w1l ?_ | refine w1q ?_ | refine w1b ?_ | refine w1p ?_ | ((first | refine w1r ?_ | refine w1k ?_ | refine w1e ?_); (refine sy1 ?_; try exact True.intro)) | refine an2 ?_ | fail)
  refine W_rfn (.inl rfl) (fun lp R hR => Inl_of_W mixed Xt118 rfl (fun vs => ?_))
  (refine sy1 ?_; try exact True.intro)
  repeat' (first | refine w1g ?_ | refine w1l ?_ | refine w1q ?_ | refine w1b ?_ | refine w1p ?_ | ((first | refine w1r ?_ | refine w1k ?_ | refine w1e ?_); (refine sy1 ?_; try exact True.intro)) | refine an2 ?_ | fail)
  have hsv : s = 2 ^ n - 1 := by rw [hs, msk_ev]
  refine W_loopU (fun i : Nat => [(3, iv i)]) (fun i => [(1, .cells [iv (lwF hp v i).1]), (2, .cells [iv (lwF hp v i).2.1]), (3, .cells [bv (lwF hp v i).2.2])]) (fun i => i ≤ n) (fun i => n - i) 0 (by omega) (by rfl) (by rfl) (fun i hi => ?_)
  obtain ⟨q, hq⟩ : ∃ q, q = s / 2 ^ i := ⟨_, rfl⟩
  have e1 := shrS s (i := i) (by omega)
  have e2 := andS (s / 2 ^ i) (div_lt64 hs1 i)
  rw [bits_shr hb i] at e2
  rw [← hq] at e1 e2
  have esn := lwF_succ hp v i
  (refine sy1 ?_; try exact True.intro)
  repeat' (first | refine w1g ?_ | refine w1l ?_ | refine w1q ?_ | refine w1b ?_ | refine w1p ?_ | ((first | refine w1r ?_ | refine w1k ?_ | refine w1e ?_); simp (maxSteps := 400000) (disch := omega) only [push_cast, ↓reduceIte, reduceCtorEq, Nat.reduceAdd, Nat.reduceSub, Nat.reduceEqDiff, Nat.reduceLeDiff, Nat.reduceLT, Nat.reduceBEq, Nat.reduceDiv, Nat.reduceMod, Nat.reducePow, Nat.reduceMul, Int.reduceToNat, Int.reduceLT, Int.reduceLE, e1]) | refine an2 ?_ | fail)
  refine W_cond (by rfl) (fun hz => ?_) (fun hz => ?_)
  · have hlt : i < n := by
      apply Classical.byContradiction
      intro hge
      have : i = n := by omega
      subst this
      have : q = 0 := by rw [hq, hsv]; exact Nat.div_eq_of_lt (by have := Nat.pow_pos (n := i) (show 0 < 2 by omega); omega)
      rw [this] at hz
      simp at hz
    have cc := hc i hlt
    rw [if_pos (ev_mem.2 (by omega))] at e2
    have e2 : bits .and .u64 (q : Int) 1 = 1 := e2
    generalize lwF hp v i = A at *
    obtain ⟨a1, a2, a3⟩ := A
    dsimp only at *
    unfold lwS at esn
    dsimp only at esn
    repeat' (first | refine w1g ?_ | refine w1l ?_ | refine w1q ?_ | refine w1b ?_ | refine w1p ?_ | ((first | refine w1r ?_ | refine w1k ?_ | refine w1e ?_); simp (maxSteps := 400000) (disch := omega) only [push_cast, ↓reduceIte, reduceCtorEq, Nat.reduceAdd, Nat.reduceSub, Nat.reduceEqDiff, Nat.reduceLeDiff, Nat.reduceLT, Nat.reduceBEq, Nat.reduceDiv, Nat.reduceMod, Nat.reducePow, Nat.reduceMul, Int.reduceToNat, Int.reduceLT, Int.reduceLE, e1, e2]) | refine an2 ?_ | fail)
    refine StopC.yld (fun hpc => ⟨trivial, Yl_of_W (k := 5) mixed hR rfl rfl rfl (fun vs2 => ?_)⟩) (fun hpc => absurd (by simp [pc]) hpc)
    (refine sy1 ?_; try exact True.intro)
    repeat' (first | refine w1g ?_ | refine w1l ?_ | refine w1q ?_ | refine w1b ?_ | refine w1p ?_ | ((first | refine w1r ?_ | refine w1k ?_ | refine w1e ?_); (refine sy1 ?_; try exact True.intro)) | refine an2 ?_ | fail)
    refine ⟨_, rfl, ?_⟩
    (refine sy1 ?_; try exact True.intro)
    repeat' (first | refine w1g ?_ | refine w1l ?_ | refine w1q ?_ | refine w1b ?_ | refine w1p ?_ | ((first | refine w1r ?_ | refine w1k ?_ | refine w1e ?_ | refine CallC.now (cc) ?_); (refine sy1 ?_; try exact True.intro)) | refine an2 ?_ | fail)
    refine W_cond (by rfl) (fun hz => ?_) (fun hz => ?_)
    · rw [if_pos hz] at esn
      repeat' (first | refine w1g ?_ | refine w1l ?_ | refine w1q ?_ | refine w1b ?_ | refine w1p ?_ | ((first | refine w1r ?_ | refine w1k ?_ | refine w1e ?_); (refine sy1 ?_; try exact True.intro)) | refine an2 ?_ | fail)
      refine ⟨_, _, rfl, rfl, ?_⟩
      (refine sy1 ?_; try exact True.intro)
      repeat' (first | refine w1g ?_ | refine w1l ?_ | refine w1q ?_ | refine w1b ?_ | refine w1p ?_ | ((first | refine w1r ?_ | refine w1k ?_ | refine w1e ?_); (refine sy1 ?_; try exact True.intro)) | refine an2 ?_ | fail)
      refine W_cond (by rfl) (fun h => by cases h) (fun _ => ?_)
      repeat' (first | refine w1g ?_ | refine w1l ?_ | refine w1q ?_ | refine w1b ?_ | refine w1p ?_ | ((first | refine w1r ?_ | refine w1k ?_ | refine w1e ?_); (refine sy1 ?_; try exact True.intro)) | refine an2 ?_ | fail)
      refine ⟨i + 1, by omega, by omega, by rfl, ?_⟩
      rw [esn]
      (refine syE ?_; try exact True.intro)
    · rw [if_neg (by rw [hz]; simp)] at esn
      repeat' (first | refine w1g ?_ | refine w1l ?_ | refine w1q ?_ | refine w1b ?_ | refine w1p ?_ | ((first | refine w1r ?_ | refine w1k ?_ | refine w1e ?_); (refine sy1 ?_; try exact True.intro)) | refine an2 ?_ | fail)
      refine ⟨_, _, rfl, rfl, ?_⟩
      (refine sy1 ?_; try exact True.intro)
      repeat' (first | refine w1g ?_ | refine w1l ?_ | refine w1q ?_ | refine w1b ?_ | refine w1p ?_ | ((first | refine w1r ?_ | refine w1k ?_ | refine w1e ?_); (refine sy1 ?_; try exact True.intro)) | refine an2 ?_ | fail)
      refine W_cond (by rfl) (fun h => by cases h) (fun _ => ?_)
      repeat' (first | refine w1g ?_ | refine w1l ?_ | refine w1q ?_ | refine w1b ?_ | refine w1p ?_ | ((first | refine w1r ?_ | refine w1k ?_ | refine w1e ?_); (refine sy1 ?_; try exact True.intro)) | refine an2 ?_ | fail)
      refine ⟨i + 1, by omega, by omega, by rfl, ?_⟩
      rw [esn]
      (refine syE ?_; try exact True.intro)
  · have hin : i = n := by
      apply Classical.byContradiction
      intro hne
      rw [if_pos (ev_mem.2 (by omega))] at e2
      have hz0 : (q : Int) = 0 := by simpa using hz
      rw [hz0] at e2
      cases e2
    subst hin
    generalize lwF hp v i = A at *
    repeat' (first | refine w1g ?_ | refine w1l ?_ | refine w1q ?_ | refine w1b ?_ | refine w1p ?_ | ((first | refine w1r ?_ | refine w1k ?_ | refine w1e ?_); (refine sy1 ?_; try exact True.intro)) | refine an2 ?_ | fail)
    refine ⟨_, _, rfl, rfl, ⟨_, _, rfl, by rw [hR.st]; simp, ?_⟩⟩
    rw [hR.pe]
    simp (maxSteps := 400000) (disch := omega) only [push_cast, ↓reduceIte, reduceCtorEq, Nat.reduceAdd, Nat.reduceSub, Nat.reduceEqDiff, Nat.reduceLeDiff, Nat.reduceLT, Nat.reduceBEq, Nat.reduceDiv, Nat.reduceMod, Nat.reducePow, Nat.reduceMul, Int.reduceToNat, Int.reduceLT, Int.reduceLE, EndP]
    repeat' (first | refine w1g ?_ | refine w1l ?_ | refine w1q ?_ | refine w1b ?_ | refine w1p ?_ | ((first | refine w1r ?_ | refine w1k ?_ | refine w1e ?_); (refine sy1 ?_; try exact True.intro)) | refine an2 ?_ | fail)
    exact W_ret ⟨[_, _, _], ⟨⟨by simp, rfl⟩, ⟨by simp, rfl⟩, ⟨by simp, rfl⟩, rfl⟩, rfl⟩
theorem fn100 (m : Mp) (f : Nat → Int) (g : Value → Option Value) : Sy.Fn Try.prog 100 [aAt m f, .fm 3 g] (.clo 130 [] [.fp (cAt m f) 0, .fp [.fm 3 g] 0]) := by
  refine Fn_of_W mixed Xt100 rfl ?_
  repeat' (first | refine w1g ?_ | refine w1l ?_ | refine w1q ?_ | refine w1b ?_ | refine w1p ?_ | ((first | refine w1r ?_ | refine w1k ?_ | refine w1e ?_); (refine sy1 ?_; try exact True.intro)) | refine an2 ?_ | fail)
  exact W_ret ⟨[_], ⟨rfl, rfl⟩, rfl⟩
end Go.Proofs.Ytfbdlmenhoagmaa

namespace Go.Proofs.Ytfbdlmenhoagmaa
open Go Sy
set_option maxRecDepth 100000
set_option maxHeartbeats 4000000
set_option linter.unusedVariables false
set_option linter.unusedSimpArgs false
def lwC (m : Mp) (f : Nat → Int) (V : Nat → Nat → Nat → Int) (road k : Nat) : Int × Int × Bool := lwF (fun w => hpsB m f w road k) (fun w => V w road k) m.ws.length
def rdK2 (m : Mp) (f : Nat → Int) (V : Nat → Nat → Nat → Int) (road : Nat) (a : Int) (k : Nat) : Int := if ldsB m f road k = true then a + (lwC m f V road k).2.1 else a
def rdS (m : Mp) (f : Nat → Int) (V : Nat → Nat → Nat → Int) (road n : Nat) : Int := (List.range n).foldl (rdK2 m f V road) (gr m road).c
theorem rdS_succ (m : Mp) (f : Nat → Int) (V : Nat → Nat → Nat → Int) (road n : Nat) : rdS m f V road (n + 1) = rdK2 m f V road (rdS m f V road n) n := by
  unfold rdS; rw [List.range_succ, List.foldl_append]; rfl
theorem lwF_rng {hp : Nat → Bool} {v : Nat → Int} {M : Int} (hM : 0 ≤ M) (h : ∀ i, 0 ≤ v i ∧ v i ≤ M) : ∀ n, 0 ≤ (lwF hp v n).2.1 ∧ (lwF hp v n).2.1 ≤ M
  | 0 => ⟨Int.le_refl _, hM⟩
  | n + 1 => by
    rw [lwF_succ]
    unfold lwS
    split
    · exact h n
    · exact lwF_rng hM h n
theorem rdS_rng {m : Mp} {f : Nat → Int} {V : Nat → Nat → Nat → Int} {road : Nat} (hok : OkM m) (hr : road < m.rs.length) (h : ∀ w r k, 0 ≤ V w r k ∧ V w r k ≤ 1125899906842624) : ∀ n : Nat, 1 ≤ rdS m f V road n ∧ rdS m f V road n ≤ 1073741824 + n * 1125899906842624
  | 0 => by
    have := (roadB_ok (hok.r road hr)).c
    show 1 ≤ (gr m road).c ∧ (gr m road).c ≤ _
    omega
  | n + 1 => by
    have h1 := rdS_rng (f := f) hok hr h n
    have h2 : 0 ≤ (lwC m f V road n).2.1 ∧ (lwC m f V road n).2.1 ≤ 1125899906842624 := lwF_rng (by omega) (fun i => h i road n) _
    rw [rdS_succ]
    unfold rdK2
    split <;> omega
theorem fn130 (m : Mp) (f : Nat → Int) (g : Value → Option Value) (V : Nat → Nat → Nat → Int) (hg : Hol g V) (hV : ∀ w r k, 0 ≤ V w r k ∧ V w r k ≤ 1125899906842624) (road : Nat) (h : OkM m) (hr : road < m.rs.length) : Sy.Fn Try.prog 130 [iv road, .fp (cAt m f) 0, .fp [.fm 3 g] 0] (iv (if usB m f (evL m.ws.length) road = true then rdS m f V road 6 else -1)) := by
  refine Fn_of_W mixed Xt130 rfl ?_
  have hw := h.nw
  have c77 := fn77 m f hw
  have c64 := fn64 m f (evL m.ws.length) (msk (evL m.ws.length)) road h (setW_msk (ev_srt _)) hr
  have hld : ∀ k, ldsB m f road k = (usB m f (evL m.ws.length) road && decide ((gr m road).lim k < f k)) := fun _ => rfl
  have hgr : m.rs.getD road dR = gr m road := rfl
  obtain ⟨E, hE⟩ : ∃ E, E = msk (evL m.ws.length) := ⟨_, rfl⟩
  rw [← hE] at c77 c64
  generalize usB m f (evL m.ws.length) road = U at *
  repeat' (first | refine w1g ?_ | refine w1l ?_ | refine w1q ?_ | refine w1b ?_ | refine w1p ?_ | ((first | refine w1r ?_ | refine w1k ?_ | refine w1e ?_ | refine CallC.now (c77) ?_ | refine CallC.now (c64) ?_); (refine sy1 ?_; try exact True.intro)) | refine an2 ?_ | fail)
  cases U
  · refine W_cond (by rfl) (fun _ => ?_) (fun h => by cases h)
    repeat' (first | refine w1g ?_ | refine w1l ?_ | refine w1q ?_ | refine w1b ?_ | refine w1p ?_ | ((first | refine w1r ?_ | refine w1k ?_ | refine w1e ?_); (refine sy1 ?_; try exact True.intro)) | refine an2 ?_ | fail)
    exact W_ret ⟨[_], ⟨rfl, rfl⟩, rfl⟩
  refine W_cond (by rfl) (fun h => by cases h) (fun _ => ?_)
  have hld2 : ∀ a k, rdK2 m f V road a k = if (gr m road).lim k < f k then a + (lwC m f V road k).2.1 else a := fun a k => by
    unfold rdK2
    rw [hld, Bool.true_and]
    congr 1
    rw [decide_eq_true_eq]
  rw [if_pos rfl]
  repeat' (first | refine w1g ?_ | refine w1l ?_ | refine w1q ?_ | refine w1b ?_ | refine w1p ?_ | ((first | refine w1r ?_ | refine w1k ?_ | refine w1e ?_ | refine CallC.now (fn97 m f road) ?_); simp (maxSteps := 400000) (disch := omega) only [push_cast, ↓reduceIte, reduceCtorEq, Nat.reduceAdd, Nat.reduceSub, Nat.reduceEqDiff, Nat.reduceLeDiff, Nat.reduceLT, Nat.reduceBEq, Nat.reduceDiv, Nat.reduceMod, Nat.reducePow, Nat.reduceMul, Int.reduceToNat, Int.reduceLT, Int.reduceLE, hgr]) | refine an2 ?_ | fail)
  refine W_rfn (.inl rfl) (fun lp R hR => Inl_of_W mixed Xt128 rfl (fun vs => ?_))
  (refine sy1 ?_; try exact True.intro)
  repeat' (first | refine w1g ?_ | refine w1l ?_ | refine w1q ?_ | refine w1b ?_ | refine w1p ?_ | ((first | refine w1r ?_ | refine w1k ?_ | refine w1e ?_ | refine CallC.now (c77) ?_ | refine CallC.now (c64) ?_); (refine sy1 ?_; try exact True.intro)) | refine an2 ?_ | fail)
  refine W_cond (by rfl) (fun h => by cases h) (fun _ => ?_)
  repeat' (first | refine w1g ?_ | refine w1l ?_ | refine w1q ?_ | refine w1b ?_ | refine w1p ?_ | ((first | refine w1r ?_ | refine w1k ?_ | refine w1e ?_ | refine CallC.now (fn75 m f 0 road) ?_); (refine sy1 ?_; try exact True.intro)) | refine an2 ?_ | fail)
  refine W_rfn (.inl rfl) (fun lp2 R2 hR2 => Inl_of_W mixed Xt121 rfl (fun vs2 => ?_))
  (refine sy1 ?_; try exact True.intro)
  repeat' (first | refine w1g ?_ | refine w1l ?_ | refine w1q ?_ | refine w1b ?_ | refine w1p ?_ | ((first | refine w1r ?_ | refine w1k ?_ | refine w1e ?_); (refine sy1 ?_; try exact True.intro)) | refine an2 ?_ | fail)
  refine W_loopU (fun k : Nat => [(10, iv k)]) (fun k => [(14, .cells [iv (rdS m f V road k)])]) (fun k => k ≤ 6) (fun k => 6 - k) 0 (by omega) (by rfl) (by rfl) (fun k hk => ?_)
  have hbd := rdS_rng (f := f) h hr hV k
  have hys := rdS_succ m f V road k
  rw [hld2] at hys
  (refine sy1 ?_; try exact True.intro)
  repeat' (first | refine w1g ?_ | refine w1l ?_ | refine w1q ?_ | refine w1b ?_ | refine w1p ?_ | ((first | refine w1r ?_ | refine w1k ?_ | refine w1e ?_); (refine sy1 ?_; try exact True.intro)) | refine an2 ?_ | fail)
  refine W_condD (by rfl) (fun h6 => ?_) (fun h6 => ?_)
  · have hk6 : k < 6 := by omega
    have c122 := fn122 m f [] 0 road k h (setW_msk (l := []) trivial) hr hk6
    have ec : limL m [] road k = (gr m road).lim k := rfl
    rw [ec] at c122
    generalize (gr m road).lim k = n at *
    by_cases q : n < f k
    · have qb : decide (n < f k) = true := decide_eq_true q
      rw [if_pos q] at hys
      have c131 := fn131 m.ws.length hw 132 [] [.fp [.fm 3 g] 0, .fp (cLd ⟨road, k⟩) 0, .fp (cAt m f) 0] (fun w => hpsB m f w road k) (fun w => V w road k) (fun i hi => fn132 m f g V hg i road k h hi hk6)
      have elw : lwF (fun w => hpsB m f w road k) (fun w => V w road k) m.ws.length = lwC m f V road k := rfl
      have hlb : 0 ≤ (lwC m f V road k).2.1 ∧ (lwC m f V road k).2.1 ≤ 1125899906842624 := lwF_rng (by omega) (fun i => hV i road k) _
      rw [elw, ← hE] at c131
      generalize lwC m f V road k = A at *
      generalize rdS m f V road k = S0 at *
      repeat' (first | refine w1g ?_ | refine w1l ?_ | refine w1q ?_ | refine w1b ?_ | refine w1p ?_ | ((first | refine w1r ?_ | refine w1k ?_ | refine w1e ?_ | refine CallC.now (c122) ?_); simp (maxSteps := 400000) (disch := omega) only [push_cast, ↓reduceIte, reduceCtorEq, Nat.reduceAdd, Nat.reduceSub, Nat.reduceEqDiff, Nat.reduceLeDiff, Nat.reduceLT, Nat.reduceBEq, Nat.reduceDiv, Nat.reduceMod, Nat.reducePow, Nat.reduceMul, Int.reduceToNat, Int.reduceLT, Int.reduceLE, Nat.mul_one, Nat.zero_add, qb]) | refine an2 ?_ | fail)
      refine StopC.yld (fun hpc => ⟨trivial, Yl_of_W (k := 31) mixed hR2 rfl rfl rfl (fun vs3 => ?_)⟩) (fun hpc => absurd (by simp [pc]) hpc)
      (refine sy1 ?_; try exact True.intro)
      repeat' (first | refine w1g ?_ | refine w1l ?_ | refine w1q ?_ | refine w1b ?_ | refine w1p ?_ | ((first | refine w1r ?_ | refine w1k ?_ | refine w1e ?_); (refine sy1 ?_; try exact True.intro)) | refine an2 ?_ | fail)
      refine ⟨_, rfl, ?_⟩
      (refine sy1 ?_; try exact True.intro)
      repeat' (first | refine w1g ?_ | refine w1l ?_ | refine w1q ?_ | refine w1b ?_ | refine w1p ?_ | ((first | refine w1r ?_ | refine w1k ?_ | refine w1e ?_); (refine sy1 ?_; try exact True.intro)) | refine an2 ?_ | fail)
      refine StopC.yld (fun hpc2 => ⟨trivial, Yl_of_W (k := 19) mixed hR rfl rfl rfl (fun vs4 => ?_)⟩) (fun hpc2 => absurd (by simp [pc]) hpc2)
      (refine sy1 ?_; try exact True.intro)
      repeat' (first | refine w1g ?_ | refine w1l ?_ | refine w1q ?_ | refine w1b ?_ | refine w1p ?_ | ((first | refine w1r ?_ | refine w1k ?_ | refine w1e ?_); (refine sy1 ?_; try exact True.intro)) | refine an2 ?_ | fail)
      refine ⟨_, rfl, ?_⟩
      (refine sy1 ?_; try exact True.intro)
      repeat (first | refine WK_go ?_ | refine W_seqL ?_ | refine W_seq ?_ | refine W_block ?_)
      refine W_le (le_frz 6 [1, 2, 5] [65, 57, 32, 31, 20, 19, 14, 58] 68 66 0 (cLd ⟨road, k⟩) rfl rfl rfl rfl rfl) ?_
      (refine sy1 ?_; try exact True.intro)
      repeat' (first | refine w1g ?_ | refine w1l ?_ | refine w1q ?_ | refine w1b ?_ | refine w1p ?_ | ((first | refine w1r ?_ | refine w1k ?_ | refine w1e ?_ | refine CallC.now (c77) ?_ | refine CallC.now (fn61 _) ?_ | refine CallC.now (c131) ?_); (refine sy1 ?_; try exact True.intro)) | refine an2 ?_ | fail)
      refine ⟨_, _, rfl, rfl, ?_⟩
      (refine sy1 ?_; try exact True.intro)
      repeat' (first | refine w1g ?_ | refine w1l ?_ | refine w1q ?_ | refine w1b ?_ | refine w1p ?_ | ((first | refine w1r ?_ | refine w1k ?_ | refine w1e ?_); (refine sy1 ?_; try exact True.intro)) | refine an2 ?_ | fail)
      refine W_cond (by rfl) (fun h => by cases h) (fun _ => ?_)
      repeat' (first | refine w1g ?_ | refine w1l ?_ | refine w1q ?_ | refine w1b ?_ | refine w1p ?_ | ((first | refine w1r ?_ | refine w1k ?_ | refine w1e ?_); (refine sy1 ?_; try exact True.intro)) | refine an2 ?_ | fail)
      refine ⟨_, _, rfl, rfl, ?_⟩
      (refine sy1 ?_; try exact True.intro)
      repeat' (first | refine w1g ?_ | refine w1l ?_ | refine w1q ?_ | refine w1b ?_ | refine w1p ?_ | ((first | refine w1r ?_ | refine w1k ?_ | refine w1e ?_); (refine sy1 ?_; try exact True.intro)) | refine an2 ?_ | fail)
      refine W_cond (by rfl) (fun h => by cases h) (fun _ => ?_)
      repeat' (first | refine w1g ?_ | refine w1l ?_ | refine w1q ?_ | refine w1b ?_ | refine w1p ?_ | ((first | refine w1r ?_ | refine w1k ?_ | refine w1e ?_); (refine sy1 ?_; try exact True.intro)) | refine an2 ?_ | fail)
      refine ⟨k + 1, by omega, by omega, by rfl, ?_⟩
      rw [hys]
      (refine syE ?_; try exact True.intro)
    · rw [if_neg q] at hys
      have qb : decide (n < f k) = false := decide_eq_false q
      repeat' (first | refine w1g ?_ | refine w1l ?_ | refine w1q ?_ | refine w1b ?_ | refine w1p ?_ | ((first | refine w1r ?_ | refine w1k ?_ | refine w1e ?_ | refine CallC.now (c122) ?_); simp (maxSteps := 400000) (disch := omega) only [push_cast, ↓reduceIte, reduceCtorEq, Nat.reduceAdd, Nat.reduceSub, Nat.reduceEqDiff, Nat.reduceLeDiff, Nat.reduceLT, Nat.reduceBEq, Nat.reduceDiv, Nat.reduceMod, Nat.reducePow, Nat.reduceMul, Int.reduceToNat, Int.reduceLT, Int.reduceLE, Nat.mul_one, Nat.zero_add, qb]) | refine an2 ?_ | fail)
      refine StopC.yld (fun hpc => absurd hpc (by simp [pc])) (fun hpc => ?_)
      (refine sy1 ?_; try exact True.intro)
      repeat' (first | refine w1g ?_ | refine w1l ?_ | refine w1q ?_ | refine w1b ?_ | refine w1p ?_ | ((first | refine w1r ?_ | refine w1k ?_ | refine w1e ?_); (refine sy1 ?_; try exact True.intro)) | refine an2 ?_ | fail)
      refine W_cond (by rfl) (fun h => by cases h) (fun _ => ?_)
      repeat' (first | refine w1g ?_ | refine w1l ?_ | refine w1q ?_ | refine w1b ?_ | refine w1p ?_ | ((first | refine w1r ?_ | refine w1k ?_ | refine w1e ?_); (refine sy1 ?_; try exact True.intro)) | refine an2 ?_ | fail)
      refine ⟨k + 1, by omega, by omega, by rfl, ?_⟩
      rw [hys]
      (refine syE ?_; try exact True.intro)
  · have hk6 : k = 6 := by omega
    subst hk6
    generalize rdS m f V road 6 = S0 at *
    repeat' (first | refine w1g ?_ | refine w1l ?_ | refine w1q ?_ | refine w1b ?_ | refine w1p ?_ | ((first | refine w1r ?_ | refine w1k ?_ | refine w1e ?_); (refine sy1 ?_; try exact True.intro)) | refine an2 ?_ | fail)
    refine ⟨_, _, rfl, rfl, ⟨_, _, rfl, by rw [hR2.st]; simp, ?_⟩⟩
    rw [hR2.pe]
    simp (maxSteps := 400000) (disch := omega) only [push_cast, ↓reduceIte, reduceCtorEq, Nat.reduceAdd, Nat.reduceSub, Nat.reduceEqDiff, Nat.reduceLeDiff, Nat.reduceLT, Nat.reduceBEq, Nat.reduceDiv, Nat.reduceMod, Nat.reducePow, Nat.reduceMul, Int.reduceToNat, Int.reduceLT, Int.reduceLE, EndP]
    repeat' (first | refine w1g ?_ | refine w1l ?_ | refine w1q ?_ | refine w1b ?_ | refine w1p ?_ | ((first | refine w1r ?_ | refine w1k ?_ | refine w1e ?_); (refine sy1 ?_; try exact True.intro)) | refine an2 ?_ | fail)
    refine ⟨_, _, rfl, rfl, ⟨_, _, rfl, by rw [hR.st]; simp, ?_⟩⟩
    rw [hR.pe]
    simp (maxSteps := 400000) (disch := omega) only [push_cast, ↓reduceIte, reduceCtorEq, Nat.reduceAdd, Nat.reduceSub, Nat.reduceEqDiff, Nat.reduceLeDiff, Nat.reduceLT, Nat.reduceBEq, Nat.reduceDiv, Nat.reduceMod, Nat.reducePow, Nat.reduceMul, Int.reduceToNat, Int.reduceLT, Int.reduceLE, EndP]
    repeat' (first | refine w1g ?_ | refine w1l ?_ | refine w1q ?_ | refine w1b ?_ | refine w1p ?_ | ((first | refine w1r ?_ | refine w1k ?_ | refine w1e ?_); (refine sy1 ?_; try exact True.intro)) | refine an2 ?_ | fail)
    exact W_ret ⟨[_], ⟨rfl, rfl⟩, rfl⟩
end Go.Proofs.Ytfbdlmenhoagmaa

namespace Go.Proofs.Ytfbdlmenhoagmaa
open Go Sy
set_option linter.unusedVariables false
noncomputable def gS (g : Value → Option Value) (p : Prt) : Value → Option Value := updG g (kyP p.w p.r p.k) (.int .i64 p.v)
noncomputable def gP (ps : List Prt) : Value → Option Value := ps.foldl gS (fun _ => none)
theorem gP_snoc (ps : List Prt) (p : Prt) : gP (ps ++ [p]) = updG (gP ps) (kyP p.w p.r p.k) (.int .i64 p.v) := by
  unfold gP; rw [List.foldl_append]; rfl
theorem kyP_inj {w r k w' r' k' : Int} (h : kyP w r k = kyP w' r' k') : w = w' ∧ r = r' ∧ k = k' := by
  unfold kyP at h
  simpa using h
theorem prB_iff {w r k : Int} {p : Prt} : prB w r k p = true ↔ kyP w r k = kyP p.w p.r p.k := by
  unfold prB
  rw [Bool.and_eq_true, Bool.and_eq_true, beq_iff_eq, beq_iff_eq, beq_iff_eq]
  constructor
  · rintro ⟨⟨rfl, rfl⟩, rfl⟩; rfl
  · intro h
    obtain ⟨rfl, rfl, rfl⟩ := kyP_inj h
    exact ⟨⟨rfl, rfl⟩, rfl⟩
theorem gP_take_some {ps : List Prt} {w r k : Int} : ∀ i, i ≤ ps.length → (gP (ps.take i) (kyP w r k)).isSome = (List.range i).any fun j => prB w r k (ps.getD j dP)
  | 0, _ => by simp [gP]
  | i + 1, h => by
    rw [take_snocP (by omega), gP_snoc, List.range_succ, List.any_append, ← gP_take_some i (by omega), List.any_cons, List.any_nil, Bool.or_false]
    generalize ps.getD i dP = x
    unfold updG
    by_cases q : kyP w r k = kyP x.w x.r x.k
    · rw [if_pos q, prB_iff.2 q, Bool.or_true]; rfl
    · rw [if_neg q]
      have : prB w r k x = false := by rw [← Bool.not_eq_true, prB_iff]; exact q
      rw [this, Bool.or_false]
theorem gP_dup {ps : List Prt} {i : Nat} (h : i < ps.length) : (gP (ps.take i) (kyP (ps.getD i dP).w (ps.getD i dP).r (ps.getD i dP).k)).isSome = dupB ps i := gP_take_some i (by omega)
theorem partV_find (w r k : Int) : ∀ ps : List Prt, partV w r k ps = ((ps.find? (prB w r k)).map fun p => p.v).getD 0
  | [] => rfl
  | p :: ps => by
    simp only [partV, List.find?_cons]
    cases prB w r k p
    · simp only [Bool.false_eq_true, if_false]; exact partV_find w r k ps
    · rfl
theorem gP_find {ps : List Prt} (hd : ∀ i, i < ps.length → dupB ps i = false) (w r k : Int) : ∀ i, i ≤ ps.length → gP (ps.take i) (kyP w r k) = ((ps.take i).find? (prB w r k)).map fun p => Value.int .i64 p.v
  | 0, _ => by simp [gP]
  | i + 1, h => by
    have ih := gP_find hd w r k i (by omega)
    have h1 := gP_dup (ps := ps) (i := i) (by omega)
    rw [hd i (by omega)] at h1
    rw [take_snocP (by omega), gP_snoc, List.find?_append]
    generalize ps.getD i dP = x at *
    unfold updG
    by_cases q : kyP w r k = kyP x.w x.r x.k
    · rw [if_pos q]
      rw [← q, ih] at h1
      have h2 : (ps.take i).find? (prB w r k) = none := by
        cases hf : (ps.take i).find? (prB w r k) with
        | none => rfl
        | some x => rw [hf] at h1; cases h1
      rw [h2, List.find?_cons, prB_iff.2 q]
      rfl
    · rw [if_neg q, ih]
      have : prB w r k x = false := by rw [← Bool.not_eq_true, prB_iff]; exact q
      rw [List.find?_cons, this, List.find?_nil, Option.or_none]
theorem gP_hol {ps : List Prt} (hd : ∀ i, i < ps.length → dupB ps i = false) : Hol (gP ps) (fun w r k => partV w r k ps) := fun w r k => by
  have h := gP_find hd w r k ps.length (Nat.le_refl _)
  rw [List.take_length] at h
  unfold valG
  show _ = Value.int .i64 (partV w r k ps)
  rw [h, partV_find]
  cases ps.find? (prB w r k) <;> rfl
theorem partV_le {w r k M : Int} (hM : 0 ≤ M) : ∀ {ps : List Prt}, (∀ p ∈ ps, p.v ≤ M) → partV w r k ps ≤ M
  | [], _ => hM
  | p :: ps, h => by
    simp only [partV]
    split
    · exact h p List.mem_cons_self
    · exact partV_le hM fun q hq => h q (List.mem_cons_of_mem _ hq)
theorem lw_min {m : Mp} {f : Nat → Int} {ps : List Prt} {road k : Nat} (h : ∀ p ∈ ps, p.v ≤ 1073741824) : ∀ n, ((lwF (fun w => hpsB m f w road k) (fun w => partV w road k ps) n).2.2 = true → (lwF (fun w => hpsB m f w road k) (fun w => partV w road k ps) n).2.1 = minP m f ps road k n) ∧ ((lwF (fun w => hpsB m f w road k) (fun w => partV w road k ps) n).2.2 = false → minP m f ps road k n = 1125899906842624 ∧ ∀ w, w < n → hpsB m f w road k = false)
  | 0 => ⟨fun q => (by cases q), fun _ => ⟨rfl, fun w hw => (by omega)⟩⟩
  | n + 1 => by
    obtain ⟨h1, h2⟩ := lw_min (m := m) (f := f) (road := road) (k := k) h n
    have hv := partV_le (w := n) (r := road) (k := k) (M := 1073741824) (by omega) h
    rw [lwF_succ, minP_succ]
    generalize lwF (fun w => hpsB m f w road k) (fun w => partV w road k ps) n = A at *
    obtain ⟨a1, a2, a3⟩ := A
    dsimp only at h1 h2
    have yes : (hpsB m f n road k && (!a3 || decide (partV n road k ps < a2))) = true → lwS (fun w => hpsB m f w road k) (fun w => partV w road k ps) (a1, a2, a3) n = ((n : Int), partV n road k ps, true) := fun q => if_pos q
    have no : ¬ (hpsB m f n road k && (!a3 || decide (partV n road k ps < a2))) = true → lwS (fun w => hpsB m f w road k) (fun w => partV w road k ps) (a1, a2, a3) n = (a1, a2, a3) := fun q => if_neg q
    unfold minS
    by_cases q : hpsB m f n road k = true
    · rw [if_pos q]
      cases a3
      · obtain ⟨h3, h4⟩ := h2 rfl
        rw [yes (by rw [q]; rfl), h3]
        exact ⟨fun _ => by dsimp only; omega, fun z => by cases z⟩
      · have h3 := h1 rfl
        by_cases q2 : partV n road k ps < a2
        · rw [yes (by rw [q, decide_eq_true q2]; rfl)]
          exact ⟨fun _ => by dsimp only; omega, fun z => by cases z⟩
        · rw [no (by rw [q, decide_eq_false q2]; simp)]
          exact ⟨fun _ => by dsimp only; omega, fun z => by cases z⟩
    · rw [if_neg q]
      rw [Bool.not_eq_true] at q
      rw [no (by rw [q]; simp)]
      refine ⟨h1, fun z => ?_⟩
      obtain ⟨h3, h4⟩ := h2 z
      refine ⟨h3, fun w hw => ?_⟩
      rcases Nat.lt_or_ge w n with g | g
      · exact h4 w g
      · rw [show w = n by omega]; exact q
theorem lds_help {m : Mp} {f : Nat → Int} {road k : Nat} (hk : k < 6) (h : ldsB m f road k = true) : ∃ w, w < m.ws.length ∧ hpsB m f w road k = true := by
  unfold ldsB at h
  rw [Bool.and_eq_true, decide_eq_true_eq] at h
  obtain ⟨h1, h2⟩ := h
  have h3 := usN_iff.1 h1 k hk
  apply Classical.byContradiction
  intro hno
  have h4 : limL m (evL m.ws.length) road k ≤ f k - 1 := limL_iff.2 ⟨by omega, fun x hx hq => by
    have hx := ev_mem.1 hx
    apply Classical.byContradiction
    intro hl
    refine hno ⟨x.toNat, by omega, ?_⟩
    unfold hpsB
    rw [Bool.and_eq_true, Bool.and_eq_true, beq_iff_eq, decide_eq_true_eq, decide_eq_true_eq]
    exact ⟨hq, by omega⟩⟩
  omega
theorem rdS_eq {m : Mp} {f : Nat → Int} {ps : List Prt} {road : Nat} (h : ∀ p ∈ ps, p.v ≤ 1073741824) : ∀ n, n ≤ 6 → rdS m f (fun w r k => partV w r k ps) road n = redS m f ps road n
  | 0, _ => rfl
  | n + 1, hn => by
    rw [rdS_succ, redS_succ, rdS_eq h n (by omega)]
    unfold rdK2 redK
    by_cases q : ldsB m f road n = true
    · rw [if_pos q, if_pos q]
      obtain ⟨w, hw, hq⟩ := lds_help (by omega) q
      obtain ⟨h1, h2⟩ := lw_min (m := m) (f := f) (road := road) (k := n) h m.ws.length
      unfold lwC
      cases hc : (lwF (fun w => hpsB m f w road n) (fun w => partV w road n ps) m.ws.length).2.2
      · have := (h2 hc).2 w hw
        rw [this] at hq; cases hq
      · rw [h1 hc]
    · rw [if_neg q, if_neg q]
end Go.Proofs.Ytfbdlmenhoagmaa

namespace Go.Proofs.Ytfbdlmenhoagmaa
open Go Sy
set_option linter.unusedVariables false
theorem ues_eq {m : Mp} {bk : Bool} {c : Nat → Int} {a : Int} (h : OkM m) (hc : ∀ i, i < m.rs.length → 0 ≤ c i → 1 ≤ c i) (ha : 0 ≤ a ∧ a < m.n) {es : List Edg} (h1 : ∀ e ∈ es, e ∈ edgC m bk c ∧ 0 ≤ e.c) (h2 : ∀ e ∈ edgC m bk c, 0 ≤ e.c → e ∈ es) : dst es m.n.toNat a.toNat = dstC m bk c a := by
  obtain ⟨k1, k2⟩ := edgC_ok h bk hc
  have q1 : ∀ e ∈ es, e.x < m.n.toNat ∧ e.y < m.n.toNat := fun e he => k1 e (h1 e he).1
  have q2 : ∀ e ∈ es, 0 ≤ e.c → 1 ≤ e.c := fun e he => k2 e (h1 e he).1
  have d1 := dst_dst (es := es) (s := a.toNat) q1 (by omega)
  have f1 := dst_fix (es := es) (s := a.toNat) q1 q2 (by omega)
  have d2 : Dst (edgC m bk c) a.toNat m.n.toNat (dst es m.n.toNat a.toNat) := ⟨d1.len, d1.src, fun y hy => by
    rcases d1.ach y hy with q | ⟨q, q3⟩
    · exact .inl q
    · exact .inr ⟨q, q3.mono fun e he _ => (h1 e he).1⟩⟩
  have f2 : Fix (edgC m bk c) (dst es m.n.toNat a.toNat) := fun e he h0 hl => f1 e (h2 e he h0) h0 hl
  exact dst_ext k1 d2 f2 (dst_dst k1 (by omega)) (dst_fix k1 k2 (by omega))
theorem set_stp {o : List Int} {e : Edg} (hc : 0 ≤ e.c) (hx : 0 ≤ gi o e.x ∧ gi o e.x ≤ far) (hy : gi o e.y ≤ far) (hl : e.y < o.length) : o.set e.y (min (gi o e.y) (gi o e.x + e.c)) = stp o e := by
  unfold stp
  by_cases q : 0 ≤ e.c ∧ gi o e.x < far ∧ gi o e.x + e.c < gi o e.y
  · rw [if_pos q, show min (gi o e.y) (gi o e.x + e.c) = gi o e.x + e.c by omega]
  · rw [if_neg q, show min (gi o e.y) (gi o e.x + e.c) = gi o e.y by omega]
    apply List.ext_getElem (by simp)
    intro i h1 h2
    rw [List.getElem_set]
    split
    · rename_i g; subst g; simp [gi, List.getD, hl]
    · rfl
def usN (p : Nat → Bool) (n : Nat) : List Int := ((List.range n).filter p).map fun i : Nat => (i : Int)
theorem usN_succ (p : Nat → Bool) (n : Nat) : usN p (n + 1) = if p n = true then usN p n ++ [(n : Int)] else usN p n := by
  unfold usN
  rw [List.range_succ, List.filter_append, List.map_append]
  by_cases q : p n = true
  · rw [if_pos q]; simp [q]
  · rw [if_neg q]; simp [q]
theorem usN_len (p : Nat → Bool) (n : Nat) : (usN p n).length ≤ n := by
  unfold usN
  rw [List.length_map]
  have := List.length_filter_le p (List.range n)
  rwa [List.length_range] at this
theorem usN_mem {p : Nat → Bool} {n : Nat} {x : Int} : x ∈ usN p n ↔ ∃ i, i < n ∧ p i = true ∧ x = i := by
  unfold usN
  rw [List.mem_map]
  constructor
  · rintro ⟨i, hi, rfl⟩
    rw [List.mem_filter, List.mem_range] at hi
    exact ⟨i, hi.1, hi.2, rfl⟩
  · rintro ⟨i, h1, h2, rfl⟩
    exact ⟨i, List.mem_filter.2 ⟨List.mem_range.2 h1, h2⟩, rfl⟩
def uesL (m : Mp) (bk : Bool) (c : Nat → Int) (l : List Int) : List Edg := l.map fun x => edC m bk c x.toNat
theorem uesL_take (m : Mp) (bk : Bool) (c : Nat → Int) {l : List Int} {j : Nat} (h : j < l.length) : (uesL m bk c l).take (j + 1) = (uesL m bk c l).take j ++ [edC m bk c (gi l j).toNat] := by
  unfold uesL
  rw [List.map_take.symm, List.map_take.symm, take_snoc h, List.map_append]; rfl
end Go.Proofs.Ytfbdlmenhoagmaa

namespace Go.Proofs.Ytfbdlmenhoagmaa
open Go Sy
set_option maxRecDepth 100000
set_option maxHeartbeats 4000000
set_option linter.unusedVariables false
set_option linter.unusedSimpArgs false
theorem fn42 (l k : List Int) (hl : l.length ≤ 1000000) (hk : k.length ≤ 1000000) : Sy.Fn Try.prog 42 [aI l, aI k] (bv (decide (l = k))) := by
  refine Fn_of_W mixed Xt42 rfl ?_
  repeat' (first | refine w1g ?_ | refine w1l ?_ | refine w1q ?_ | refine w1b ?_ | refine w1p ?_ | ((first | refine w1r ?_ | refine w1k ?_ | refine w1e ?_); (refine sy1 ?_; try exact True.intro)) | refine an2 ?_ | fail)
  refine W_cond (by rfl) (fun h => ?_) (fun h => ?_)
  · rw [bne_iff_ne] at h
    rw [decide_eq_false (fun q => h (by rw [q]))]
    repeat' (first | refine w1g ?_ | refine w1l ?_ | refine w1q ?_ | refine w1b ?_ | refine w1p ?_ | ((first | refine w1r ?_ | refine w1k ?_ | refine w1e ?_); (refine sy1 ?_; try exact True.intro)) | refine an2 ?_ | fail)
    exact W_ret ⟨[_], ⟨rfl, rfl⟩, rfl⟩
  rw [bne_eq_false_iff_eq] at h
  have hlen : l.length = k.length := by omega
  repeat' (first | refine w1g ?_ | refine w1l ?_ | refine w1q ?_ | refine w1b ?_ | refine w1p ?_ | ((first | refine w1r ?_ | refine w1k ?_ | refine w1e ?_); (refine sy1 ?_; try exact True.intro)) | refine an2 ?_ | fail)
  refine W_loopU (fun i : Nat => [(5, iv i)]) (fun i => []) (fun i => i ≤ l.length ∧ ∀ j, j < i → gi l j = gi k j) (fun i => l.length - i) 0 ⟨by omega, fun j hj => by omega⟩ (by rfl) (by rfl) (fun i hi => ?_)
  obtain ⟨hi, hp⟩ := hi
  (refine sy1 ?_; try exact True.intro)
  repeat' (first | refine w1g ?_ | refine w1l ?_ | refine w1q ?_ | refine w1b ?_ | refine w1p ?_ | ((first | refine w1r ?_ | refine w1k ?_ | refine w1e ?_); (refine sy1 ?_; try exact True.intro)) | refine an2 ?_ | fail)
  refine W_condD (by rfl) (fun h5 => ?_) (fun h5 => ?_)
  · have hlt : i < l.length := by omega
    have h1 : l.getD i 0 = gi l i := rfl
    have h2 : k.getD i 0 = gi k i := rfl
    repeat' (first | refine w1g ?_ | refine w1l ?_ | refine w1q ?_ | refine w1b ?_ | refine w1p ?_ | ((first | refine w1r ?_ | refine w1k ?_ | refine w1e ?_); simp (maxSteps := 400000) (disch := omega) only [push_cast, ↓reduceIte, reduceCtorEq, Nat.reduceAdd, Nat.reduceSub, Nat.reduceEqDiff, Nat.reduceLeDiff, Nat.reduceLT, Nat.reduceBEq, Nat.reduceDiv, Nat.reduceMod, Nat.reducePow, Nat.reduceMul, Int.reduceToNat, Int.reduceLT, Int.reduceLE, h1, h2]) | refine an2 ?_ | fail)
    refine W_cond (by rfl) (fun h => ?_) (fun h => ?_)
    · rw [bne_iff_ne] at h
      rw [decide_eq_false (fun q => h (by rw [q]))]
      repeat' (first | refine w1g ?_ | refine w1l ?_ | refine w1q ?_ | refine w1b ?_ | refine w1p ?_ | ((first | refine w1r ?_ | refine w1k ?_ | refine w1e ?_); (refine sy1 ?_; try exact True.intro)) | refine an2 ?_ | fail)
      exact W_ret ⟨[_], ⟨rfl, rfl⟩, rfl⟩
    · rw [bne_eq_false_iff_eq] at h
      repeat' (first | refine w1g ?_ | refine w1l ?_ | refine w1q ?_ | refine w1b ?_ | refine w1p ?_ | ((first | refine w1r ?_ | refine w1k ?_ | refine w1e ?_); (refine sy1 ?_; try exact True.intro)) | refine an2 ?_ | fail)
      refine ⟨i + 1, ⟨by omega, fun j hj => ?_⟩, by omega, by rfl, ?_⟩
      · rcases Nat.lt_or_ge j i with q | q
        · exact hp j q
        · rw [show j = i by omega]; exact h
      (refine syE ?_; try exact True.intro)
  · rw [decide_eq_true (eq_of_gi hlen (fun j hj => hp j (by omega)))]
    repeat' (first | refine w1g ?_ | refine w1l ?_ | refine w1q ?_ | refine w1b ?_ | refine w1p ?_ | ((first | refine w1r ?_ | refine w1k ?_ | refine w1e ?_); (refine sy1 ?_; try exact True.intro)) | refine an2 ?_ | fail)
    exact W_ret ⟨[_], ⟨rfl, rfl⟩, rfl⟩
def fil (n i : Nat) : List Int := tbI n fun j => if j < i then far else 0
theorem fil_set {n i : Nat} (h : i < n) : (fil n i).set i far = fil n (i + 1) := by
  unfold fil
  refine tbI_set (by rw [if_pos (by omega)]) (fun j hj hne => ?_)
  by_cases q : j < i
  · rw [if_pos q, if_pos (by omega)]
  · rw [if_neg q, if_neg (by omega)]
theorem fil_end (n : Nat) : fil n n = List.replicate n far := by
  rw [← tbI_rep]
  unfold fil tbI
  refine List.map_congr_left (fun j hj => ?_)
  rw [if_pos (List.mem_range.1 hj)]
theorem fil_zero (n : Nat) : fil n 0 = List.replicate n 0 := by
  rw [← tbI_rep]
  unfold fil tbI
  exact List.map_congr_left (fun j hj => if_neg (by omega))
theorem fn102 (m : Mp) (f : Nat → Int) (s : List Int) (to : Int) (h : OkM m) (hs : Srt m.ws.length 0 s) (ht : 0 ≤ to ∧ to < m.n) : Sy.Fn Try.prog 102 [aM m, .agg (c6 f), aI s, iv to] (aI (dL m f s to)) := by
  refine Fn_of_W mixed Xt102 rfl ?_
  have hmn := h.n
  have hnr := h.nr
  obtain ⟨N, hN⟩ : ∃ N : Nat, m.n = N := ⟨m.n.toNat, by omega⟩
  have lfil : ∀ i, (fil N i).length = N := fun i => tbI_len _ _
  repeat' (first | refine w1g ?_ | refine w1l ?_ | refine w1q ?_ | refine w1b ?_ | refine w1p ?_ | ((first | refine w1r ?_ | refine w1k ?_ | refine w1e ?_); simp (maxSteps := 400000) (disch := omega) only [push_cast, ↓reduceIte, reduceCtorEq, Nat.reduceAdd, Nat.reduceSub, Nat.reduceEqDiff, Nat.reduceLeDiff, Nat.reduceLT, Nat.reduceBEq, Nat.reduceDiv, Nat.reduceMod, Nat.reducePow, Nat.reduceMul, Int.reduceToNat, Int.reduceLT, Int.reduceLE, hN]) | refine an2 ?_ | fail)
  refine ⟨rfl, ⟨by omega, by omega, by omega⟩, Int, 0, cI, 0, rfl, rfl, by omega, rfl, ?_⟩
  simp (maxSteps := 400000) (disch := omega) only [push_cast, ↓reduceIte, reduceCtorEq, Nat.reduceAdd, Nat.reduceSub, Nat.reduceEqDiff, Nat.reduceLeDiff, Nat.reduceLT, Nat.reduceBEq, Nat.reduceDiv, Nat.reduceMod, Nat.reducePow, Nat.reduceMul, Int.reduceToNat, Int.reduceLT, Int.reduceLE, Int.toNat_natCast]
  repeat' (first | refine w1g ?_ | refine w1l ?_ | refine w1q ?_ | refine w1b ?_ | refine w1p ?_ | ((first | refine w1r ?_ | refine w1k ?_ | refine w1e ?_); (refine sy1 ?_; try exact True.intro)) | refine an2 ?_ | fail)
  refine W_loopU (fun i : Nat => [(10, iv i)]) (fun i => [(5, .row 0 2 1 0 cI (fil N i))]) (fun i => i ≤ N) (fun i => N - i) 0 (by omega) (by rfl) (by rw [fil_zero]; rfl) (fun i hi => ?_)
  (refine sy1 ?_; try exact True.intro)
  repeat' (first | refine w1g ?_ | refine w1l ?_ | refine w1q ?_ | refine w1b ?_ | refine w1p ?_ | ((first | refine w1r ?_ | refine w1k ?_ | refine w1e ?_); simp (maxSteps := 400000) (disch := omega) only [push_cast, ↓reduceIte, reduceCtorEq, Nat.reduceAdd, Nat.reduceSub, Nat.reduceEqDiff, Nat.reduceLeDiff, Nat.reduceLT, Nat.reduceBEq, Nat.reduceDiv, Nat.reduceMod, Nat.reducePow, Nat.reduceMul, Int.reduceToNat, Int.reduceLT, Int.reduceLE, hN]) | refine an2 ?_ | fail)
  refine W_condD (by rfl) (fun h5 => ?_) (fun h5 => ?_)
  · have hlt : i < N := by omega
    repeat' (first | refine w1g ?_ | refine w1l ?_ | refine w1q ?_ | refine w1b ?_ | refine w1p ?_ | ((first | refine w1r ?_ | refine w1k ?_ | refine w1e ?_); simp (maxSteps := 400000) (disch := omega) only [push_cast, ↓reduceIte, reduceCtorEq, Nat.reduceAdd, Nat.reduceSub, Nat.reduceEqDiff, Nat.reduceLeDiff, Nat.reduceLT, Nat.reduceBEq, Nat.reduceDiv, Nat.reduceMod, Nat.reducePow, Nat.reduceMul, Int.reduceToNat, Int.reduceLT, Int.reduceLE, lfil, Int.toNat_natCast]) | refine an2 ?_ | fail)
    refine ⟨rfl, ⟨Nat.le_of_ble_eq_true rfl, rfl⟩, by omega, far, rfl, rfl, ?_⟩
    rw [fil_set hlt]
    (refine sy1 ?_; try exact True.intro)
    repeat' (first | refine w1g ?_ | refine w1l ?_ | refine w1q ?_ | refine w1b ?_ | refine w1p ?_ | ((first | refine w1r ?_ | refine w1k ?_ | refine w1e ?_); (refine sy1 ?_; try exact True.intro)) | refine an2 ?_ | fail)
    refine ⟨i + 1, by omega, by omega, by rfl, ?_⟩
    (refine syE ?_; try exact True.intro)
  have hiN : i = N := by omega
  subst hiN
  rw [fil_end]
  clear lfil h5 hi
  repeat' (first | refine w1g ?_ | refine w1l ?_ | refine w1q ?_ | refine w1b ?_ | refine w1p ?_ | ((first | refine w1r ?_ | refine w1k ?_ | refine w1e ?_); simp (maxSteps := 400000) (disch := omega) only [push_cast, ↓reduceIte, reduceCtorEq, Nat.reduceAdd, Nat.reduceSub, Nat.reduceEqDiff, Nat.reduceLeDiff, Nat.reduceLT, Nat.reduceBEq, Nat.reduceDiv, Nat.reduceMod, Nat.reducePow, Nat.reduceMul, Int.reduceToNat, Int.reduceLT, Int.reduceLE, List.length_replicate]) | refine an2 ?_ | fail)
  refine ⟨rfl, ⟨Nat.le_of_ble_eq_true rfl, rfl⟩, by omega, 0, rfl, rfl, ?_⟩
  have hini : (List.replicate i far).set to.toNat 0 = ini i to.toNat := rfl
  rw [hini]
  have hil : (ini i to.toNat).length = i := by rw [← hini, List.length_set, List.length_replicate]
  (refine sy1 ?_; try exact True.intro)
  repeat' (first | refine w1g ?_ | refine w1l ?_ | refine w1q ?_ | refine w1b ?_ | refine w1p ?_ | ((first | refine w1r ?_ | refine w1k ?_ | refine w1e ?_); (refine sy1 ?_; try exact True.intro)) | refine an2 ?_ | fail)
  refine W_le (le_adopt 11 3 1 0 cI (by omega) rfl) ?_
  (refine sy1 ?_; try exact True.intro)
  refine W_loopU (fun j : Nat => [(11, .row 18 (usN (usB m f s) j).length), (12, iv j)]) (fun j => [(18, .row (usN (usB m f s) j).length 3 1 0 cI (usN (usB m f s) j))]) (fun j => j ≤ m.rs.length) (fun j => m.rs.length - j) 0 (by omega) (by rfl) (by rfl) (fun j hj => ?_)
  have hul := usN_len (usB m f s) j
  have hus := usN_succ (usB m f s) j
  (refine sy1 ?_; try exact True.intro)
  repeat' (first | refine w1g ?_ | refine w1l ?_ | refine w1q ?_ | refine w1b ?_ | refine w1p ?_ | ((first | refine w1r ?_ | refine w1k ?_ | refine w1e ?_); (refine sy1 ?_; try exact True.intro)) | refine an2 ?_ | fail)
  refine W_condD (by rfl) (fun h5 => ?_) (fun h5 => ?_)
  · have hlt : j < m.rs.length := by omega
    have c103 := fn103 m f s j h hs hlt
    generalize usN (usB m f s) j = Y at *
    cases hU : usB m f s j
    · rw [hU] at c103 hus
      rw [if_neg (by simp)] at hus
      repeat' (first | refine w1g ?_ | refine w1l ?_ | refine w1q ?_ | refine w1b ?_ | refine w1p ?_ | ((first | refine w1r ?_ | refine w1k ?_ | refine w1e ?_ | refine CallC.now (c103) ?_); (refine sy1 ?_; try exact True.intro)) | refine an2 ?_ | fail)
      refine W_cond (by rfl) (fun h => by cases h) (fun _ => ?_)
      repeat' (first | refine w1g ?_ | refine w1l ?_ | refine w1q ?_ | refine w1b ?_ | refine w1p ?_ | ((first | refine w1r ?_ | refine w1k ?_ | refine w1e ?_); (refine sy1 ?_; try exact True.intro)) | refine an2 ?_ | fail)
      refine ⟨j + 1, by omega, by omega, by rfl, ?_⟩
      rw [hus]
      (refine syE ?_; try exact True.intro)
    · rw [hU] at c103 hus
      rw [if_pos rfl] at hus
      repeat' (first | refine w1g ?_ | refine w1l ?_ | refine w1q ?_ | refine w1b ?_ | refine w1p ?_ | ((first | refine w1r ?_ | refine w1k ?_ | refine w1e ?_ | refine CallC.now (c103) ?_); (refine sy1 ?_; try exact True.intro)) | refine an2 ?_ | fail)
      refine W_cond (by rfl) (fun _ => ?_) (fun h => by cases h)
      repeat' (first | refine w1g ?_ | refine w1l ?_ | refine w1q ?_ | refine w1b ?_ | refine w1p ?_ | ((first | refine w1r ?_ | refine w1k ?_ | refine w1e ?_); (refine sy1 ?_; try exact True.intro)) | refine an2 ?_ | fail)
      refine ⟨rfl, trivial, Int, 0, cI, [(j : Int)], rfl, by omega, fun x _ => ⟨rfl, rfl⟩, rfl, ?_⟩
      (refine sy1 ?_; try exact True.intro)
      refine ⟨rfl, ⟨Nat.le_of_ble_eq_true rfl, rfl⟩, trivial, [(j : Int)], rfl, by first | omega | (simp; omega), by first | omega | (simp; omega), ?_⟩
      (refine sy1 ?_; try exact True.intro)
      repeat' (first | refine w1g ?_ | refine w1l ?_ | refine w1q ?_ | refine w1b ?_ | refine w1p ?_ | ((first | refine w1r ?_ | refine w1k ?_ | refine w1e ?_); (refine sy1 ?_; try exact True.intro)) | refine an2 ?_ | fail)
      refine ⟨j + 1, by omega, by omega, by rfl, ?_⟩
      rw [hus, List.length_append]
      (refine syE ?_; try exact True.intro)
  have hjl : j = m.rs.length := by omega
  subst hjl
  clear hus h5 hj
  obtain ⟨L, hL⟩ : ∃ L, L = usN (usB m f s) m.rs.length := ⟨_, rfl⟩
  rw [← hL] at hul ⊢
  have hLm : ∀ x ∈ L, ∃ j : Nat, j < m.rs.length ∧ usB m f s j = true ∧ x = j := fun x hx => usN_mem.1 (by rw [← hL]; exact hx)
  obtain ⟨es, hes⟩ : ∃ es, es = uesL m true (cU m f s) L := ⟨_, rfl⟩
  have heL : es.length = L.length := by rw [hes]; simp [uesL]
  have hdst : dst es i to.toNat = dL m f s to := by
    have := ues_eq (m := m) (bk := true) (c := cU m f s) (a := to) h (fun x hx => (cU_rng h f s hx).1) ht (es := es) (fun e he => by
      rw [hes] at he
      obtain ⟨x, hx, rfl⟩ := List.mem_map.1 he
      obtain ⟨k, hk, hu, rfl⟩ := hLm x hx
      rw [Int.toNat_natCast]
      obtain ⟨q1, q2⟩ := us_edge (m := m) (f := f) (s := s) (bk := true) hk hu
      have := (roadB_ok (h.r k hk)).c
      exact ⟨q1, by rw [q2]; omega⟩) (fun e he h0 => by
      obtain ⟨k, hk, rfl, hu⟩ := edge_us he h0
      rw [hes]
      exact List.mem_map.2 ⟨(k : Int), by rw [hL]; exact usN_mem.2 ⟨k, hk, hu, rfl⟩, by rw [Int.toNat_natCast]⟩)
    rw [hN, Int.toNat_natCast] at this
    exact this
  have hdr : ∀ e ∈ es, e.x < i ∧ e.y < i := fun e he => by
    rw [hes] at he
    obtain ⟨x, hx, rfl⟩ := List.mem_map.1 he
    obtain ⟨k, hk, hu, rfl⟩ := hLm x hx
    rw [Int.toNat_natCast]
    have ok := roadB_ok (h.r k hk)
    have := ok.f; have := ok.t
    exact ⟨show (gr m k).t.toNat < _ by omega, show (gr m k).f.toNat < _ by omega⟩
  have hD : ∀ k, Dst es to.toNat i (rnds es (ini i to.toNat) k) := rnds_dst hdr (ini_dst (by omega))
  have hlen : ∀ k, (rnds es (ini i to.toNat) k).length = i := fun k => (hD k).len
  repeat' (first | refine w1g ?_ | refine w1l ?_ | refine w1q ?_ | refine w1b ?_ | refine w1p ?_ | ((first | refine w1r ?_ | refine w1k ?_ | refine w1e ?_); (refine sy1 ?_; try exact True.intro)) | refine an2 ?_ | fail)
  refine W_loopU (fun k : Nat => [(13, iv k)]) (fun k => [(5, .row 0 2 1 0 cI (rnds es (ini i to.toNat) k))]) (fun k => k ≤ i) (fun k => i - k) 0 (by omega) (by rfl) (by rfl) (fun k hk => ?_)
  have hlk := hlen k
  have hDk := hD k
  (refine sy1 ?_; try exact True.intro)
  repeat' (first | refine w1g ?_ | refine w1l ?_ | refine w1q ?_ | refine w1b ?_ | refine w1p ?_ | ((first | refine w1r ?_ | refine w1k ?_ | refine w1e ?_); simp (maxSteps := 400000) (disch := omega) only [push_cast, ↓reduceIte, reduceCtorEq, Nat.reduceAdd, Nat.reduceSub, Nat.reduceEqDiff, Nat.reduceLeDiff, Nat.reduceLT, Nat.reduceBEq, Nat.reduceDiv, Nat.reduceMod, Nat.reducePow, Nat.reduceMul, Int.reduceToNat, Int.reduceLT, Int.reduceLE, hN]) | refine an2 ?_ | fail)
  refine W_condD (by rfl) (fun h5 => ?_) (fun h5 => ?_)
  rotate_left
  · have hki : k = i := by omega
    have hfin : rnds es (ini i to.toNat) k = dL m f s to := by rw [hki]; exact hdst
    rw [hfin]
    repeat' (first | refine w1g ?_ | refine w1l ?_ | refine w1q ?_ | refine w1b ?_ | refine w1p ?_ | ((first | refine w1r ?_ | refine w1k ?_ | refine w1e ?_); (refine sy1 ?_; try exact True.intro)) | refine an2 ?_ | fail)
    refine W_ret ⟨[_], ⟨rfl, rfl⟩, ?_⟩
    simp (maxSteps := 400000) (disch := omega) only [push_cast, ↓reduceIte, reduceCtorEq, Nat.reduceAdd, Nat.reduceSub, Nat.reduceEqDiff, Nat.reduceLeDiff, Nat.reduceLT, Nat.reduceBEq, Nat.reduceDiv, Nat.reduceMod, Nat.reducePow, Nat.reduceMul, Int.reduceToNat, Int.reduceLT, Int.reduceLE, pack]
  have hpas : rnds es (ini i to.toNat) (k + 1) = pas (rnds es (ini i to.toNat) k) es := rfl
  generalize rnds es (ini i to.toNat) k = o0 at *
  repeat' (first | refine w1g ?_ | refine w1l ?_ | refine w1q ?_ | refine w1b ?_ | refine w1p ?_ | ((first | refine w1r ?_ | refine w1k ?_ | refine w1e ?_); (refine sy1 ?_; try exact True.intro)) | refine an2 ?_ | fail)
  refine W_loopU (fun j : Nat => [(14, iv j)]) (fun j => [(5, .row 0 2 1 0 cI (pas o0 (es.take j)))]) (fun j => j ≤ L.length) (fun j => L.length - j) 0 (by omega) (by rfl) (by rfl) (fun j hj => ?_)
  have hDj : Dst es to.toNat i (pas o0 (es.take j)) := pas_dst hdr _ _ (fun e he => List.mem_of_mem_take he) hDk
  have hlj := hDj.len
  (refine sy1 ?_; try exact True.intro)
  repeat' (first | refine w1g ?_ | refine w1l ?_ | refine w1q ?_ | refine w1b ?_ | refine w1p ?_ | ((first | refine w1r ?_ | refine w1k ?_ | refine w1e ?_); (refine sy1 ?_; try exact True.intro)) | refine an2 ?_ | fail)
  refine W_condD (by rfl) (fun h6 => ?_) (fun h6 => ?_)
  · have hlt : j < L.length := by omega
    obtain ⟨r, hrl, hru, hr⟩ := hLm (gi L j) (getD_mem 0 L j hlt)
    have hr2 : L.getD j 0 = (r : Int) := hr
    have ok := roadB_ok (h.r r hrl)
    have ofr := ok.f; have otr := ok.t; have oc := ok.c
    have hgr : m.rs.getD r dR = gr m r := rfl
    have htk : es.take (j + 1) = es.take j ++ [edC m true (cU m f s) r] := by
      rw [hes, uesL_take m true (cU m f s) hlt, hr, Int.toNat_natCast]
    have hps : pas o0 (es.take (j + 1)) = stp (pas o0 (es.take j)) (edC m true (cU m f s) r) := by rw [htk, pas_snoc]
    have hec := (us_edge (m := m) (f := f) (s := s) (bk := true) hrl hru).2
    generalize pas o0 (es.take j) = o at *
    have b1 := hDj.le (y := (gr m r).t.toNat) (by omega)
    have b2 := hDj.le (y := (gr m r).f.toNat) (by omega)
    have hst := set_stp (o := o) (e := edC m true (cU m f s) r) (by rw [hec]; omega) b1 b2.2 (by show (gr m r).f.toNat < _; omega)
    rw [hec] at hst
    have hst : o.set (gr m r).f.toNat (min (gi o (gr m r).f.toNat) (gi o (gr m r).t.toNat + (gr m r).c)) = stp o (edC m true (cU m f s) r) := hst
    have b1' : 0 ≤ o.getD (gr m r).t.toNat 0 ∧ o.getD (gr m r).t.toNat 0 ≤ 1125899906842624 := b1
    have b2' : 0 ≤ o.getD (gr m r).f.toNat 0 ∧ o.getD (gr m r).f.toNat 0 ≤ 1125899906842624 := b2
    repeat' (first | refine w1g ?_ | refine w1l ?_ | refine w1q ?_ | refine w1b ?_ | refine w1p ?_ | ((first | refine w1r ?_ | refine w1k ?_ | refine w1e ?_); simp (maxSteps := 400000) (disch := omega) only [push_cast, ↓reduceIte, reduceCtorEq, Nat.reduceAdd, Nat.reduceSub, Nat.reduceEqDiff, Nat.reduceLeDiff, Nat.reduceLT, Nat.reduceBEq, Nat.reduceDiv, Nat.reduceMod, Nat.reducePow, Nat.reduceMul, Int.reduceToNat, Int.reduceLT, Int.reduceLE, hr2, hgr]) | refine an2 ?_ | fail)
    refine ⟨rfl, ⟨Nat.le_of_ble_eq_true rfl, rfl⟩, by omega, min (o.getD (gr m r).f.toNat 0) (o.getD (gr m r).t.toNat 0 + (gr m r).c), rfl, rfl, ?_⟩
    have hst2 : o.set (gr m r).f.toNat (min (o.getD (gr m r).f.toNat 0) (o.getD (gr m r).t.toNat 0 + (gr m r).c)) = pas o0 (es.take (j + 1)) := by rw [hps]; exact hst
    rw [hst2]
    (refine sy1 ?_; try exact True.intro)
    repeat' (first | refine w1g ?_ | refine w1l ?_ | refine w1q ?_ | refine w1b ?_ | refine w1p ?_ | ((first | refine w1r ?_ | refine w1k ?_ | refine w1e ?_); (refine sy1 ?_; try exact True.intro)) | refine an2 ?_ | fail)
    refine ⟨j + 1, by omega, by omega, by rfl, ?_⟩
    (refine syE ?_; try exact True.intro)
  · have hjl : j = es.length := by omega
    rw [hjl, List.take_length, ← hpas]
    repeat' (first | refine w1g ?_ | refine w1l ?_ | refine w1q ?_ | refine w1b ?_ | refine w1p ?_ | ((first | refine w1r ?_ | refine w1k ?_ | refine w1e ?_); (refine sy1 ?_; try exact True.intro)) | refine an2 ?_ | fail)
    refine ⟨k + 1, by omega, by omega, by rfl, ?_⟩
    (refine syE ?_; try exact True.intro)
end Go.Proofs.Ytfbdlmenhoagmaa

namespace Go.Proofs.Ytfbdlmenhoagmaa
open Go Sy
set_option maxRecDepth 100000
set_option maxHeartbeats 4000000
set_option linter.unusedVariables false
set_option linter.unusedSimpArgs false
def lsV (g : List Int → Int) (L : List (List Int)) (b : Int) : Int := if b < 0 then 1125899906842624 else g (L.getD b.toNat [])
theorem fn40 (m : Mp) (f : Nat → Int) (fr to : Int) (hm : Gm m) : Sy.Fn Try.prog 40 [aM m, .agg (c6 f), iv fr, iv to] (.tup [.agg (rtC m f fr to (chV m f fr to)), iv (chE m f fr to)]) := by
  refine Fn_of_W mixed Xt40 rfl ?_
  have c78 := fn78 m f hm
  have hmw := hm.w
  by_cases h0 : opE m f = 0
  rotate_left
  · have e1 : chV m f fr to = none := by unfold chV; rw [if_neg h0]
    have e2 : chE m f fr to = opE m f := by unfold chE; rw [if_neg h0]
    rw [e1, e2]
    have hz : rtC m f fr to none = zRt := rfl
    rw [hz]
    unfold zRt
    generalize opE m f = e at *
    repeat' (first | refine w1g ?_ | refine w1l ?_ | refine w1q ?_ | refine w1b ?_ | refine w1p ?_ | ((first | refine w1r ?_ | refine w1k ?_ | refine w1e ?_ | refine CallC.now (c78) ?_); (refine sy1 ?_; try exact True.intro)) | refine an2 ?_ | fail)
    refine W_cond (by rfl) (fun h => ?_) (fun h => ?_)
    · repeat' (first | refine w1g ?_ | refine w1l ?_ | refine w1q ?_ | refine w1b ?_ | refine w1p ?_ | ((first | refine w1r ?_ | refine w1k ?_ | refine w1e ?_); (refine sy1 ?_; try exact True.intro)) | refine an2 ?_ | fail)
      exact W_ret ⟨[_, _], ⟨⟨by simp, rfl⟩, rfl, rfl⟩, rfl⟩
    · exact absurd (by simpa using h) h0
  have hchk : chkM m = 0 ∧ szE f = 0 := by
    unfold opE at h0
    by_cases q : chkM m = 0
    · rw [if_pos q] at h0; exact ⟨q, h0⟩
    · rw [if_neg q] at h0; exact absurd h0 q
  have hok := chkM_ok hchk.1
  have hmn := hok.n
  have hnw := hok.nw
  have hnr := hok.nr
  rw [h0] at c78
  have c1 := fn90 m fr
  have c2 := fn90 m to
  repeat' (first | refine w1g ?_ | refine w1l ?_ | refine w1q ?_ | refine w1b ?_ | refine w1p ?_ | ((first | refine w1r ?_ | refine w1k ?_ | refine w1e ?_ | refine CallC.now (c78) ?_); (refine sy1 ?_; try exact True.intro)) | refine an2 ?_ | fail)
  refine W_cond (by rfl) (fun h => by cases h) (fun _ => ?_)
  by_cases hp : plB m.n fr = true ∧ plB m.n to = true
  rotate_left
  · have e1 : chV m f fr to = none := by unfold chV; rw [if_pos h0, if_neg hp]
    have e2 : chE m f fr to = 3 := by unfold chE; rw [if_pos h0, if_neg hp]
    rw [e1, e2]
    have hz : rtC m f fr to none = zRt := rfl
    rw [hz]
    unfold zRt
    repeat' (first | refine w1g ?_ | refine w1l ?_ | refine w1q ?_ | refine w1b ?_ | refine w1p ?_ | ((first | refine w1r ?_ | refine w1k ?_ | refine w1e ?_ | refine CallC.now (c1) ?_ | refine CallC.go _ (fun _ => ⟨trivial, c2⟩) rfl ?_); (refine sy1 ?_; try exact True.intro)) | refine an2 ?_ | fail)
    refine W_cond (by rfl) (fun h => ?_) (fun h => ?_)
    · repeat' (first | refine w1g ?_ | refine w1l ?_ | refine w1q ?_ | refine w1b ?_ | refine w1p ?_ | ((first | refine w1r ?_ | refine w1k ?_ | refine w1e ?_); (refine sy1 ?_; try exact True.intro)) | refine an2 ?_ | fail)
      exact W_ret ⟨[_, _], ⟨⟨by simp, rfl⟩, rfl, rfl⟩, rfl⟩
    · rw [Bool.or_eq_false_iff, Bool.not_eq_false', Bool.not_eq_false'] at h
      exact absurd h hp
  have hpr : (0 ≤ fr ∧ fr < m.n) ∧ (0 ≤ to ∧ to < m.n) := by
    have := hp.1; have := hp.2
    unfold plB at *
    simp only [Bool.and_eq_true, decide_eq_true_eq] at *
    omega
  rw [hp.1] at c1
  rw [hp.2] at c2
  have e1 : chV m f fr to = bestS m f fr to := by unfold chV; rw [if_pos h0, if_pos hp]
  have e2 : chE m f fr to = bE (bestS m f fr to) := by unfold chE; rw [if_pos h0, if_pos hp]
  rw [e1, e2]
  repeat' (first | refine w1g ?_ | refine w1l ?_ | refine w1q ?_ | refine w1b ?_ | refine w1p ?_ | ((first | refine w1r ?_ | refine w1k ?_ | refine w1e ?_ | refine CallC.now (c1) ?_ | refine CallC.go _ (fun _ => ⟨trivial, c2⟩) rfl ?_); (refine sy1 ?_; try exact True.intro)) | refine an2 ?_ | fail)
  refine W_cond (by rfl) (fun h => by cases h) (fun _ => ?_)
  have c19 := fn19 m (by omega)
  have hsr : ∀ x ∈ setsM m.ws.length, Srt m.ws.length 0 x := fun x hx => sets_srt x hx
  have hsl : (setsM m.ws.length).length ≤ 1024 := by
    rw [setsM_len]
    exact Nat.pow_le_pow_right (n := 2) (by omega) hnw
  have hbs : bestS m f fr to = leastL (cfS m f fr to) (okS m f fr to) ((setsM m.ws.length).take (setsM m.ws.length).length) := by rw [List.take_length]; rfl
  generalize setsM m.ws.length = L at *
  repeat' (first | refine w1g ?_ | refine w1l ?_ | refine w1q ?_ | refine w1b ?_ | refine w1p ?_ | ((first | refine w1r ?_ | refine w1k ?_ | refine w1e ?_ | refine CallC.now (c19) ?_); (refine sy1 ?_; try exact True.intro)) | refine an2 ?_ | fail)
  refine W_loopU (fun u : Nat × Int => [(12, iv u.2), (13, iv (lsV (cfS m f fr to) L u.2)), (14, iv u.1)]) (fun u => []) (fun u => u.1 ≤ L.length ∧ BI (cfS m f fr to) (okS m f fr to) L u.1 u.2) (fun u => L.length - u.1) (0, -1) ⟨by dsimp only; omega, .inl ⟨rfl, rfl⟩⟩ (by rfl) (by rfl) (fun u hu => ?_)
  obtain ⟨i, b⟩ := u
  obtain ⟨hi, hb⟩ := hu
  dsimp only at hi hb ⊢
  have hbr : b < 0 ∨ (0 ≤ b ∧ b < i) := by
    rcases hb with ⟨q, _⟩ | ⟨q, q2, _⟩ <;> omega
  (refine sy1 ?_; try exact True.intro)
  repeat' (first | refine w1g ?_ | refine w1l ?_ | refine w1q ?_ | refine w1b ?_ | refine w1p ?_ | ((first | refine w1r ?_ | refine w1k ?_ | refine w1e ?_); (refine sy1 ?_; try exact True.intro)) | refine an2 ?_ | fail)
  refine W_condD (by rfl) (fun h5 => ?_) (fun h5 => ?_)
  · have hlt : i < L.length := by omega
    have hs1 := hsr _ (getD_memL hlt)
    obtain ⟨x, hx⟩ : ∃ x, L.getD i [] = x := ⟨_, rfl⟩
    have hyes := hb.yes hlt
    have hno := hb.no hlt
    rw [hx] at hs1 hyes hno
    have c92 := fn92 m x hok hs1
    have c102 := fn102 m f x to hok hs1 hpr.2
    have hcl := costL_set hok hs1
    have hrg := dL_rng hok f x true hpr.2 (y := fr.toNat) (by omega)
    have hrg : 0 ≤ gi (dL m f x to) fr.toNat ∧ gi (dL m f x to) fr.toNat ≤ 1125899906842624 := hrg
    have hfin : gi (dL m f x to) fr.toNat < 1125899906842624 → gi (dL m f x to) fr.toNat ≤ 68719476736 := fin_iff hok f x true hpr.2 (y := fr.toNat) (by omega)
    have hlen := dL_len hok f x true hpr.2
    have hlen : (dL m f x to).length = m.n.toNat := hlen
    have hcf : cfS m f fr to x = gi (dL m f x to) fr.toNat + costL m x := rfl
    have hos : okS m f fr to x = decide (gi (dL m f x to) fr.toNat < 1125899906842624) := rfl
    have gI : ∀ (l : List Int) i, l.getD i 0 = gi l i := fun _ _ => rfl
    have hgd : (dL m f x to).getD fr.toNat 0 = gi (dL m f x to) fr.toNat := rfl
    generalize gi (dL m f x to) fr.toNat = d at *
    generalize dL m f x to = D at *
    generalize costL m x = pr at *
    have hlv : lsV (cfS m f fr to) L i = d + pr := by
      unfold lsV
      rw [if_neg (by omega), Int.toNat_natCast, hx, hcf]
    have hls : lsV (cfS m f fr to) L b = if b < 0 then 1125899906842624 else cfS m f fr to (L.getD b.toNat []) := rfl
    obtain ⟨ls, hls'⟩ : ∃ ls, lsV (cfS m f fr to) L b = ls := ⟨_, rfl⟩
    rw [hls'] at hls ⊢
    repeat' (first | refine w1g ?_ | refine w1l ?_ | refine w1q ?_ | refine w1b ?_ | refine w1p ?_ | ((first | refine w1r ?_ | refine w1k ?_ | refine w1e ?_ | refine CallC.now (c102) ?_); simp (maxSteps := 400000) (disch := omega) only [push_cast, ↓reduceIte, reduceCtorEq, Nat.reduceAdd, Nat.reduceSub, Nat.reduceEqDiff, Nat.reduceLeDiff, Nat.reduceLT, Nat.reduceBEq, Nat.reduceDiv, Nat.reduceMod, Nat.reducePow, Nat.reduceMul, Int.reduceToNat, Int.reduceLT, Int.reduceLE, hx, hgd]) | refine an2 ?_ | fail)
    repeat' (first | refine w1g ?_ | refine w1l ?_ | refine w1q ?_ | refine w1b ?_ | refine w1p ?_ | ((first | refine w1r ?_ | refine w1k ?_ | refine w1e ?_ | refine CallC.go _ (fun _ => ⟨trivial, c92⟩) rfl ?_); simp (maxSteps := 400000) (disch := omega) only [push_cast, ↓reduceIte, reduceCtorEq, Nat.reduceAdd, Nat.reduceSub, Nat.reduceEqDiff, Nat.reduceLeDiff, Nat.reduceLT, Nat.reduceBEq, Nat.reduceDiv, Nat.reduceMod, Nat.reducePow, Nat.reduceMul, Int.reduceToNat, Int.reduceLT, Int.reduceLE, hx]) | refine an2 ?_ | fail)
    refine W_cond (by rfl) (fun q => ?_) (fun q => ?_)
    · simp only [Bool.and_eq_true, decide_eq_true_eq] at q
      have hy2 := hyes (by rw [hos, decide_eq_true q.1]) (by
        rcases Int.lt_or_le b 0 with g | g
        · exact .inl g
        · right
          rw [if_neg (by omega)] at hls
          omega)
      have hdb := hfin q.1
      repeat' (first | refine w1g ?_ | refine w1l ?_ | refine w1q ?_ | refine w1b ?_ | refine w1p ?_ | ((first | refine w1r ?_ | refine w1k ?_ | refine w1e ?_ | refine CallC.now (c92) ?_); simp (maxSteps := 400000) (disch := omega) only [push_cast, ↓reduceIte, reduceCtorEq, Nat.reduceAdd, Nat.reduceSub, Nat.reduceEqDiff, Nat.reduceLeDiff, Nat.reduceLT, Nat.reduceBEq, Nat.reduceDiv, Nat.reduceMod, Nat.reducePow, Nat.reduceMul, Int.reduceToNat, Int.reduceLT, Int.reduceLE, hx]) | refine an2 ?_ | fail)
      refine ⟨(i + 1, (i : Int)), ⟨by dsimp only; omega, hy2⟩, by dsimp only; omega, by rfl, ?_⟩
      dsimp only
      rw [hlv]
      (refine syE ?_; try exact True.intro)
    · have hn2 := hno (by
        by_cases g : d < 1125899906842624
        · right
          have hdb := hfin g
          rw [decide_eq_true g, Bool.true_and, decide_eq_false_iff_not] at q
          have hb0 : 0 ≤ b := by
            apply Classical.byContradiction
            intro z
            rw [if_pos (by omega)] at hls
            omega
          rw [if_neg (by omega)] at hls
          exact ⟨hb0, by omega⟩
        · left
          rw [hos, decide_eq_false g])
      repeat' (first | refine w1g ?_ | refine w1l ?_ | refine w1q ?_ | refine w1b ?_ | refine w1p ?_ | ((first | refine w1r ?_ | refine w1k ?_ | refine w1e ?_); (refine sy1 ?_; try exact True.intro)) | refine an2 ?_ | fail)
      refine ⟨(i + 1, b), ⟨by dsimp only; omega, hn2⟩, by dsimp only; omega, by rfl, ?_⟩
      dsimp only
      rw [hls']
      (refine syE ?_; try exact True.intro)
  · have hil : i = L.length := by omega
    subst hil
    rcases hb with ⟨q1, q2⟩ | ⟨q1, q2, q3⟩
    · have hbn : bestS m f fr to = none := by rw [hbs, q2]
      rw [hbn]
      have hz : rtC m f fr to none = zRt := rfl
      have hz2 : bE none = 15 := rfl
      rw [hz, hz2]
      unfold zRt
      subst q1
      generalize lsV (cfS m f fr to) L (-1) = ls at *
      repeat' (first | refine w1g ?_ | refine w1l ?_ | refine w1q ?_ | refine w1b ?_ | refine w1p ?_ | ((first | refine w1r ?_ | refine w1k ?_ | refine w1e ?_); (refine sy1 ?_; try exact True.intro)) | refine an2 ?_ | fail)
      refine W_cond (by rfl) (fun h => ?_) (fun h => by simp at h)
      repeat' (first | refine w1g ?_ | refine w1l ?_ | refine w1q ?_ | refine w1b ?_ | refine w1p ?_ | ((first | refine w1r ?_ | refine w1k ?_ | refine w1e ?_); (refine sy1 ?_; try exact True.intro)) | refine an2 ?_ | fail)
      exact W_ret ⟨[_, _], ⟨⟨by simp, rfl⟩, rfl, rfl⟩, rfl⟩
    · have hbn := hbs.trans q3
      have hs2 := hsr _ (getD_memL (l := L) (i := b.toNat) (by omega))
      have hlb : lsV (cfS m f fr to) L b = cfS m f fr to (L.getD b.toNat []) := by unfold lsV; rw [if_neg (by omega)]
      rw [hlb]
      obtain ⟨s, hy⟩ : ∃ s, L.getD b.toNat [] = s := ⟨_, rfl⟩
      rw [hy] at hs2 hbn ⊢
      obtain ⟨n, hnn⟩ : ∃ n, n = cfS m f fr to s := ⟨_, rfl⟩
      rw [← hnn] at hbn ⊢
      rw [hbn]
      repeat' (first | refine w1g ?_ | refine w1l ?_ | refine w1q ?_ | refine w1b ?_ | refine w1p ?_ | ((first | refine w1r ?_ | refine w1k ?_ | refine w1e ?_); (refine sy1 ?_; try exact True.intro)) | refine an2 ?_ | fail)
      refine W_condD (by rfl) (fun h => absurd h (by omega)) (fun h => ?_)
      have c102 := fn102 m f s to hok hs2 hpr.2
      repeat' (first | refine w1g ?_ | refine w1l ?_ | refine w1q ?_ | refine w1b ?_ | refine w1p ?_ | ((first | refine w1r ?_ | refine w1k ?_ | refine w1e ?_); simp (maxSteps := 400000) (disch := omega) only [push_cast, ↓reduceIte, reduceCtorEq, Nat.reduceAdd, Nat.reduceSub, Nat.reduceEqDiff, Nat.reduceLeDiff, Nat.reduceLT, Nat.reduceBEq, Nat.reduceDiv, Nat.reduceMod, Nat.reducePow, Nat.reduceMul, Int.reduceToNat, Int.reduceLT, Int.reduceLE, hy]) | refine an2 ?_ | fail)
      repeat' (first | refine w1g ?_ | refine w1l ?_ | refine w1q ?_ | refine w1b ?_ | refine w1p ?_ | ((first | refine w1r ?_ | refine w1k ?_ | refine w1e ?_ | refine CallC.now (c102) ?_); simp (maxSteps := 400000) (disch := omega) only [push_cast, ↓reduceIte, reduceCtorEq, Nat.reduceAdd, Nat.reduceSub, Nat.reduceEqDiff, Nat.reduceLeDiff, Nat.reduceLT, Nat.reduceBEq, Nat.reduceDiv, Nat.reduceMod, Nat.reducePow, Nat.reduceMul, Int.reduceToNat, Int.reduceLT, Int.reduceLE, hy]) | refine an2 ?_ | fail)
      obtain ⟨left, hleft⟩ : ∃ left, left = dL m f s to := ⟨_, rfl⟩
      have hres : rtC m f fr to (some (s, n)) = cRt (wayC m f s left to m.n.toNat fr) s n (minL m (wayC m f s left to m.n.toNat fr)) := by rw [hleft]; rfl
      have hres2 : bE (some (s, n)) = 0 := rfl
      rw [hres, hres2, ← hleft]
      have hlen : left.length = m.n.toNat := by rw [hleft]; exact dL_len hok f s true hpr.2
      have hlr : ∀ y, y < m.n.toNat → 0 ≤ left.getD y 0 ∧ left.getD y 0 ≤ 1125899906842624 := fun y hy => by rw [hleft]; exact dL_rng hok f s true hpr.2 hy
      obtain ⟨b1, b2, b3, b4⟩ := best_some hbn
      have hA0 : AtW m f s left to fr := ⟨hpr.1, (show 0 ≤ left.getD fr.toNat 0 from (hlr _ (by omega)).1), (by unfold okS at b3; rw [decide_eq_true_eq] at b3; rw [hleft]; exact b3)⟩
      refine W_le (le_adoptC 38 0 3 1 (0 : Int) cI (by omega) _ rfl rfl (by simp)) ?_
      (refine sy1 ?_; try exact True.intro)
      refine W_loopU (fun u : Nat × Int × List Int => [(18, iv u.2.1)]) (fun u => [(38, .cells [.row 51 u.2.2.length, aI s, iv n, iv (minL m u.2.2)]), (51, .row u.2.2.length 3 1 0 cI u.2.2)]) (fun u => AtW m f s left to u.2.1 ∧ rk left m.n.toNat u.2.1.toNat ≤ u.1 ∧ u.2.2 ++ wayC m f s left to u.1 u.2.1 = wayC m f s left to m.n.toNat fr ∧ u.2.2.length + u.1 ≤ 64 ∧ 0 ≤ minL m u.2.2 ∧ minL m u.2.2 ≤ 1440 * u.2.2.length) (fun u => u.1) (m.n.toNat, fr, []) ⟨hA0, rk_le _ _ _, List.nil_append _, by simp; omega, by simp [minL], by simp [minL]⟩ (by rfl) (by rfl) (fun u hu => ?_)
      obtain ⟨k, a, acc⟩ := u
      obtain ⟨q1, q2, q3, q4, q5, q6⟩ := hu
      dsimp only at q1 q2 q3 q4 q5 q6 ⊢
      (refine sy1 ?_; try exact True.intro)
      repeat' (first | refine w1g ?_ | refine w1l ?_ | refine w1q ?_ | refine w1b ?_ | refine w1p ?_ | ((first | refine w1r ?_ | refine w1k ?_ | refine w1e ?_); (refine sy1 ?_; try exact True.intro)) | refine an2 ?_ | fail)
      refine W_cond (by rfl) (fun hb => ?_) (fun hb => ?_)
      rotate_left
      · have hat : a = to := by simpa using hb
        have hw1 : wayC m f s left to k a = [] := by
          cases k with
          | zero => rfl
          | succ k => simp only [wayC]; rw [if_pos hat]
        rw [hw1, List.append_nil] at q3
        rw [← q3]
        repeat' (first | refine w1g ?_ | refine w1l ?_ | refine w1q ?_ | refine w1b ?_ | refine w1p ?_ | ((first | refine w1r ?_ | refine w1k ?_ | refine w1e ?_); (refine sy1 ?_; try exact True.intro)) | refine an2 ?_ | fail)
        refine W_ret ⟨[_, _], ⟨⟨by simp, rfl⟩, rfl, rfl⟩, ?_⟩
        simp (maxSteps := 400000) (disch := omega) only [push_cast, ↓reduceIte, reduceCtorEq, Nat.reduceAdd, Nat.reduceSub, Nat.reduceEqDiff, Nat.reduceLeDiff, Nat.reduceLT, Nat.reduceBEq, Nat.reduceDiv, Nat.reduceMod, Nat.reducePow, Nat.reduceMul, Int.reduceToNat, Int.reduceLT, Int.reduceLE, pack]
        rfl
      have hne : a ≠ to := by rw [bne_iff_ne] at hb; exact hb
      rw [hleft] at q1 q2
      obtain ⟨x1, x2, x3⟩ := nxt_spec hok hpr.2 q1 hne
      obtain ⟨y1, y2, y3, y4, y5⟩ := hit_step hok hpr.2 q1 x1 x2
      rw [← hleft] at q1 q2 x1 x2 x3 y1 y2 y3 y4 y5
      have ha := q1.r
      obtain ⟨x, hx⟩ : ∃ x, x = nxt m f s left a := ⟨_, rfl⟩
      rw [← hx] at x1 x2 x3 y1 y2 y3 y4 y5
      repeat' (first | refine w1g ?_ | refine w1l ?_ | refine w1q ?_ | refine w1b ?_ | refine w1p ?_ | ((first | refine w1r ?_ | refine w1k ?_ | refine w1e ?_); (refine sy1 ?_; try exact True.intro)) | refine an2 ?_ | fail)
      refine W_loopU (fun i : Nat => [(19, iv i)]) (fun i => []) (fun i => i ≤ m.rs.length ∧ ∀ j, j < i → hitB m f s left a j = false) (fun i => m.rs.length - i) 0 ⟨by omega, fun j hj => by omega⟩ (by rfl) (by rfl) (fun i hi => ?_)
      obtain ⟨w1, w3⟩ := hi
      (refine sy1 ?_; try exact True.intro)
      repeat' (first | refine w1g ?_ | refine w1l ?_ | refine w1q ?_ | refine w1b ?_ | refine w1p ?_ | ((first | refine w1r ?_ | refine w1k ?_ | refine w1e ?_); (refine sy1 ?_; try exact True.intro)) | refine an2 ?_ | fail)
      refine W_condD (by rfl) (fun h6 => ?_) (fun h6 => ?_)
      rotate_left
      · rw [w3 x (by omega)] at x2; cases x2
      have hil : i < m.rs.length := by omega
      have ok := roadB_ok (hok.r i hil)
      have ofr := ok.f; have otr := ok.t; have oc := ok.c; have om := ok.m
      have hgr : m.rs.getD i dR = gr m i := rfl
      have c103 := fn103 m f s i hok hs2 hil
      have g1 := hlr a.toNat (by omega)
      have g2 := hlr (gr m i).t.toNat (by omega)
      have hhb : hitB m f s left a i = (usB m f s i && ((gr m i).f == a && left.getD a.toNat 0 == (gr m i).c + left.getD (gr m i).t.toNat 0)) := rfl
      repeat' (first | refine w1g ?_ | refine w1l ?_ | refine w1q ?_ | refine w1b ?_ | refine w1p ?_ | ((first | refine w1r ?_ | refine w1k ?_ | refine w1e ?_ | refine CallC.go _ (fun _ => ⟨trivial, c103⟩) rfl ?_); simp (maxSteps := 400000) (disch := omega) only [push_cast, ↓reduceIte, reduceCtorEq, Nat.reduceAdd, Nat.reduceSub, Nat.reduceEqDiff, Nat.reduceLeDiff, Nat.reduceLT, Nat.reduceBEq, Nat.reduceDiv, Nat.reduceMod, Nat.reducePow, Nat.reduceMul, Int.reduceToNat, Int.reduceLT, Int.reduceLE, hgr, hy]) | refine an2 ?_ | fail)
      refine W_cond (by rfl) (fun hz => ?_) (fun hz => ?_)
      rotate_left
      · have hnh : hitB m f s left a i = false := by
          rw [hhb]
          rw [← Bool.not_eq_true] at hz ⊢
          intro q
          apply hz
          simp only [Bool.and_eq_true] at q ⊢
          exact ⟨⟨q.2.1, q.1⟩, q.2.2⟩
        repeat' (first | refine w1g ?_ | refine w1l ?_ | refine w1q ?_ | refine w1b ?_ | refine w1p ?_ | ((first | refine w1r ?_ | refine w1k ?_ | refine w1e ?_); (refine sy1 ?_; try exact True.intro)) | refine an2 ?_ | fail)
        refine ⟨i + 1, ⟨by omega, fun j hj => ?_⟩, by omega, by rfl, ?_⟩
        · rcases Nat.lt_or_ge j i with g | g
          · exact w3 j g
          · rw [show j = i by omega]; exact hnh
        · (refine syE ?_; try exact True.intro)
      · have hhit : hitB m f s left a i = true := by
          rw [hhb]
          simp only [Bool.and_eq_true] at hz ⊢
          exact ⟨hz.1.2, hz.1.1, hz.2⟩
        have hix : i = x := by
          rcases Nat.lt_trichotomy i x with q | q | q
          · rw [x3 i q] at hhit; cases hhit
          · exact q
          · rw [w3 x q] at x2; cases x2
        subst hix
        have hms : minL m (acc ++ [(i : Int)]) = minL m acc + (gr m i).m := by rw [minL_snoc]; rfl
        obtain ⟨k', hk'⟩ : ∃ k', k = k' + 1 := ⟨k - 1, by omega⟩
        have hw1 : wayC m f s left to k a = (i : Int) :: wayC m f s left to k' (gr m i).t := by
          rw [hk']
          simp only [wayC]
          rw [if_neg hne, ← hx]
        repeat' (first | refine w1g ?_ | refine w1l ?_ | refine w1q ?_ | refine w1b ?_ | refine w1p ?_ | ((first | refine w1r ?_ | refine w1k ?_ | refine w1e ?_); (refine sy1 ?_; try exact True.intro)) | refine an2 ?_ | fail)
        refine ⟨rfl, trivial, Int, 0, cI, [(i : Int)], rfl, by omega, fun x _ => ⟨rfl, rfl⟩, rfl, ?_⟩
        (refine sy1 ?_; try exact True.intro)
        refine ⟨rfl, ⟨Nat.le_of_ble_eq_true rfl, rfl⟩, trivial, [(i : Int)], rfl, by first | omega | (simp; omega), by first | omega | (simp; omega), ?_⟩
        (refine sy1 ?_; try exact True.intro)
        repeat' (first | refine w1g ?_ | refine w1l ?_ | refine w1q ?_ | refine w1b ?_ | refine w1p ?_ | ((first | refine w1r ?_ | refine w1k ?_ | refine w1e ?_); simp (maxSteps := 400000) (disch := omega) only [push_cast, ↓reduceIte, reduceCtorEq, Nat.reduceAdd, Nat.reduceSub, Nat.reduceEqDiff, Nat.reduceLeDiff, Nat.reduceLT, Nat.reduceBEq, Nat.reduceDiv, Nat.reduceMod, Nat.reducePow, Nat.reduceMul, Int.reduceToNat, Int.reduceLT, Int.reduceLE, hgr]) | refine an2 ?_ | fail)
        refine ⟨(k', (gr m i).t, acc ++ [(i : Int)]), ⟨y4, by dsimp only; omega, ?_, ?_, ?_, ?_⟩, by dsimp only; omega, by rfl, ?_⟩
        · dsimp only
          rw [← q3, hw1, List.append_assoc]; rfl
        · dsimp only; rw [List.length_append]; simp only [List.length_singleton]; omega
        · dsimp only; rw [hms]; omega
        · dsimp only; rw [hms, List.length_append]; simp only [List.length_singleton]; omega
        · dsimp only
          rw [hms, List.length_append]
          (refine syE ?_; try exact True.intro)
end Go.Proofs.Ytfbdlmenhoagmaa

namespace Go.Proofs.Ytfbdlmenhoagmaa
open Go Sy
set_option maxRecDepth 100000
set_option maxHeartbeats 4000000
set_option linter.unusedVariables false
set_option linter.unusedSimpArgs false
theorem fn44 (m : Mp) (f : Nat → Int) (fr to : Int) (l : List Int) (hm : Gm m) (hl : l.length ≤ 1000000) : Sy.Fn Try.prog 44 [aM m, .agg (c6 f), iv fr, iv to, aI l] (iv (ctE m f fr to l)) := by
  refine Fn_of_W mixed Xt44 rfl ?_
  have c78 := fn78 m f hm
  by_cases h0 : opE m f = 0
  rotate_left
  · have e1 : ctE m f fr to l = opE m f := by unfold ctE; rw [if_neg h0]
    rw [e1]
    generalize opE m f = e at *
    repeat' (first | refine w1g ?_ | refine w1l ?_ | refine w1q ?_ | refine w1b ?_ | refine w1p ?_ | ((first | refine w1r ?_ | refine w1k ?_ | refine w1e ?_ | refine CallC.now (c78) ?_); (refine sy1 ?_; try exact True.intro)) | refine an2 ?_ | fail)
    refine W_cond (by rfl) (fun h => ?_) (fun h => ?_)
    · repeat' (first | refine w1g ?_ | refine w1l ?_ | refine w1q ?_ | refine w1b ?_ | refine w1p ?_ | ((first | refine w1r ?_ | refine w1k ?_ | refine w1e ?_); (refine sy1 ?_; try exact True.intro)) | refine an2 ?_ | fail)
      exact W_ret ⟨[_], ⟨rfl, rfl⟩, rfl⟩
    · exact absurd (by simpa using h) h0
  have hchk : chkM m = 0 ∧ szE f = 0 := by
    unfold opE at h0
    by_cases q : chkM m = 0
    · rw [if_pos q] at h0; exact ⟨q, h0⟩
    · rw [if_neg q] at h0; exact absurd h0 q
  have hok := chkM_ok hchk.1
  have hmn := hok.n
  have hnw := hok.nw
  have hnr := hok.nr
  rw [h0] at c78
  repeat' (first | refine w1g ?_ | refine w1l ?_ | refine w1q ?_ | refine w1b ?_ | refine w1p ?_ | ((first | refine w1r ?_ | refine w1k ?_ | refine w1e ?_ | refine CallC.now (c78) ?_); (refine sy1 ?_; try exact True.intro)) | refine an2 ?_ | fail)
  refine W_cond (by rfl) (fun h => by cases h) (fun _ => ?_)
  have c1 := fn90 m fr
  have c2 := fn90 m to
  have c67 := fn67 l m.n (by omega)
  by_cases hp : (plB m.n fr = true ∧ plB m.n to = true) ∧ setB l m.n = true
  rotate_left
  · have e1 : ctE m f fr to l = 3 := by
      unfold ctE
      rw [if_pos h0]
      by_cases q : plB m.n fr = true ∧ plB m.n to = true
      · rw [if_pos q, if_neg (fun z => hp ⟨q, z⟩)]
      · rw [if_neg q]
    rw [e1]
    repeat' (first | refine w1g ?_ | refine w1l ?_ | refine w1q ?_ | refine w1b ?_ | refine w1p ?_ | ((first | refine w1r ?_ | refine w1k ?_ | refine w1e ?_ | refine CallC.now (c1) ?_ | refine CallC.go _ (fun _ => ⟨trivial, c2⟩) rfl ?_ | refine CallC.go _ (fun _ => ⟨trivial, c67⟩) rfl ?_); (refine sy1 ?_; try exact True.intro)) | refine an2 ?_ | fail)
    refine W_cond (by rfl) (fun h => ?_) (fun h => ?_)
    · repeat' (first | refine w1g ?_ | refine w1l ?_ | refine w1q ?_ | refine w1b ?_ | refine w1p ?_ | ((first | refine w1r ?_ | refine w1k ?_ | refine w1e ?_); (refine sy1 ?_; try exact True.intro)) | refine an2 ?_ | fail)
      exact W_ret ⟨[_], ⟨rfl, rfl⟩, rfl⟩
    · rw [Bool.or_eq_false_iff, Bool.or_eq_false_iff, Bool.not_eq_false', Bool.not_eq_false', Bool.not_eq_false'] at h
      exact absurd h hp
  rw [hp.1.1] at c1
  rw [hp.1.2] at c2
  rw [hp.2] at c67
  have e0 : ctE m f fr to l = if fr ∈ l ∧ to ∉ l then (if (List.range m.rs.length).any (cutB m f l) = true then 16 else 0) else 16 := by unfold ctE; rw [if_pos h0, if_pos hp.1, if_pos hp.2]
  repeat' (first | refine w1g ?_ | refine w1l ?_ | refine w1q ?_ | refine w1b ?_ | refine w1p ?_ | ((first | refine w1r ?_ | refine w1k ?_ | refine w1e ?_ | refine CallC.now (c1) ?_ | refine CallC.go _ (fun _ => ⟨trivial, c2⟩) rfl ?_ | refine CallC.go _ (fun _ => ⟨trivial, c67⟩) rfl ?_); (refine sy1 ?_; try exact True.intro)) | refine an2 ?_ | fail)
  refine W_cond (by rfl) (fun h => by cases h) (fun _ => ?_)
  have k1 := fn107 l fr (by omega)
  have k2 := fn107 l to (by omega)
  repeat' (first | refine w1g ?_ | refine w1l ?_ | refine w1q ?_ | refine w1b ?_ | refine w1p ?_ | ((first | refine w1r ?_ | refine w1k ?_ | refine w1e ?_ | refine CallC.now (k1) ?_ | refine CallC.go _ (fun _ => ⟨trivial, k2⟩) rfl ?_); (refine sy1 ?_; try exact True.intro)) | refine an2 ?_ | fail)
  refine W_cond (by rfl) (fun h6 => ?_) (fun h6 => ?_)
  · have e5 : ctE m f fr to l = 16 := by
      rw [e0, if_neg]
      rintro ⟨q1, q2⟩
      rw [decide_eq_true q1, decide_eq_false q2] at h6
      cases h6
    rw [e5]
    repeat' (first | refine w1g ?_ | refine w1l ?_ | refine w1q ?_ | refine w1b ?_ | refine w1p ?_ | ((first | refine w1r ?_ | refine w1k ?_ | refine w1e ?_); (refine sy1 ?_; try exact True.intro)) | refine an2 ?_ | fail)
    exact W_ret ⟨[_], ⟨rfl, rfl⟩, rfl⟩
  rw [Bool.or_eq_false_iff, Bool.not_eq_false', decide_eq_true_eq, decide_eq_false_iff_not] at h6
  rw [if_pos h6] at e0
  have c105 := fn105 m (by omega)
  repeat' (first | refine w1g ?_ | refine w1l ?_ | refine w1q ?_ | refine w1b ?_ | refine w1p ?_ | ((first | refine w1r ?_ | refine w1k ?_ | refine w1e ?_); (refine sy1 ?_; try exact True.intro)) | refine an2 ?_ | fail)
  refine W_loopU (fun i : Nat => [(12, iv i)]) (fun i => []) (fun i => i ≤ m.rs.length ∧ ∀ j, j < i → cutB m f l j = false) (fun i => m.rs.length - i) 0 ⟨by omega, fun j hj => by omega⟩ (by rfl) (by rfl) (fun i hi => ?_)
  obtain ⟨hi, hall⟩ := hi
  (refine sy1 ?_; try exact True.intro)
  repeat' (first | refine w1g ?_ | refine w1l ?_ | refine w1q ?_ | refine w1b ?_ | refine w1p ?_ | ((first | refine w1r ?_ | refine w1k ?_ | refine w1e ?_); (refine sy1 ?_; try exact True.intro)) | refine an2 ?_ | fail)
  refine W_condD (by rfl) (fun h5 => ?_) (fun h5 => ?_)
  · have hlt : i < m.rs.length := by omega
    have gR : m.rs.getD i dR = gr m i := rfl
    have c103 := fn103 m f (evL m.ws.length) i hok (ev_srt _) hlt
    have j1 := fn107 l (gr m i).f (by omega)
    have j2 := fn107 l (gr m i).t (by omega)
    have ecut : cutB m f l i = (decide ((gr m i).f ∈ l) && !decide ((gr m i).t ∈ l) && usB m f (evL m.ws.length) i) := rfl
    generalize usB m f (evL m.ws.length) i = U at *
    generalize evL m.ws.length = E at *
    generalize gr m i = r at *
    repeat' (first | refine w1g ?_ | refine w1l ?_ | refine w1q ?_ | refine w1b ?_ | refine w1p ?_ | ((first | refine w1r ?_ | refine w1k ?_ | refine w1e ?_ | refine CallC.now (c105) ?_ | refine CallC.now (c103) ?_ | refine CallC.go _ (fun _ => ⟨trivial, j1⟩) rfl ?_ | refine CallC.go _ (fun _ => ⟨trivial, j2⟩) rfl ?_); simp (maxSteps := 400000) (disch := omega) only [push_cast, ↓reduceIte, reduceCtorEq, Nat.reduceAdd, Nat.reduceSub, Nat.reduceEqDiff, Nat.reduceLeDiff, Nat.reduceLT, Nat.reduceBEq, Nat.reduceDiv, Nat.reduceMod, Nat.reducePow, Nat.reduceMul, Int.reduceToNat, Int.reduceLT, Int.reduceLE, gR]) | refine an2 ?_ | fail)
    have ec2 : ((U && decide (r.f ∈ l)) && !decide (r.t ∈ l)) = cutB m f l i := by
      rw [ecut]
      cases U <;> cases decide (r.f ∈ l) <;> cases decide (r.t ∈ l) <;> rfl
    rw [ec2]
    refine W_cond (by rfl) (fun h7 => ?_) (fun h7 => ?_)
    · rw [if_pos (range_any hlt h7)] at e0
      rw [e0]
      repeat' (first | refine w1g ?_ | refine w1l ?_ | refine w1q ?_ | refine w1b ?_ | refine w1p ?_ | ((first | refine w1r ?_ | refine w1k ?_ | refine w1e ?_); (refine sy1 ?_; try exact True.intro)) | refine an2 ?_ | fail)
      exact W_ret ⟨[_], ⟨rfl, rfl⟩, rfl⟩
    · repeat' (first | refine w1g ?_ | refine w1l ?_ | refine w1q ?_ | refine w1b ?_ | refine w1p ?_ | ((first | refine w1r ?_ | refine w1k ?_ | refine w1e ?_); (refine sy1 ?_; try exact True.intro)) | refine an2 ?_ | fail)
      refine ⟨i + 1, ⟨by omega, fun j hj => ?_⟩, by omega, by rfl, ?_⟩
      · rcases Nat.lt_or_ge j i with g | g
        · exact hall j g
        · rw [show j = i by omega]; exact h7
      · (refine syE ?_; try exact True.intro)
  · have e5 : (List.range m.rs.length).any (cutB m f l) = false := by
      rw [← Bool.not_eq_true, List.any_eq_true]
      rintro ⟨j, hj, hq⟩
      rw [hall j (by have := List.mem_range.1 hj; omega)] at hq
      cases hq
    rw [e5] at e0
    rw [e0]
    repeat' (first | refine w1g ?_ | refine w1l ?_ | refine w1q ?_ | refine w1b ?_ | refine w1p ?_ | ((first | refine w1r ?_ | refine w1k ?_ | refine w1e ?_); (refine sy1 ?_; try exact True.intro)) | refine an2 ?_ | fail)
    exact W_ret ⟨[_], ⟨rfl, rfl⟩, rfl⟩
end Go.Proofs.Ytfbdlmenhoagmaa

namespace Go.Proofs.Ytfbdlmenhoagmaa
open Go Sy
set_option maxRecDepth 100000
set_option maxHeartbeats 4000000
set_option linter.unusedVariables false
set_option linter.unusedSimpArgs false
theorem back_le {m : Mp} (h : OkM m) (f : Nat → Int) (s : List Int) (bk : Bool) {a b : Int} (ha : 0 ≤ a ∧ a < m.n) (hb : 0 ≤ b ∧ b < m.n) (hl : gi (dstC m bk (cU m f s) a) b.toNat < 1125899906842624) : gi (dstC m (!bk) (cU m f s) b) a.toNat < 1125899906842624 := by
  obtain ⟨a1, a2⟩ := dL_dst h f s bk ha
  obtain ⟨a3, a4⟩ := dL_dst h f s (!bk) hb
  obtain ⟨k3, k4⟩ := edgC_ok h (!bk) (c := cU m f s) (fun i hi => (cU_rng h f _ hi).1)
  rcases a1.ach b.toNat (by omega) with h3 | ⟨_, h3⟩
  · have h3 : gi (dstC m bk (cU m f s) a) b.toNat = 1125899906842624 := h3
    omega
  · have h4 := fix_le k3 a3 a4 h3.rev
    omega
theorem back_iff {m : Mp} (h : OkM m) (f : Nat → Int) (s : List Int) {a b : Int} (ha : 0 ≤ a ∧ a < m.n) (hb : 0 ≤ b ∧ b < m.n) : decide (gi (dL m f s b) a.toNat < 1125899906842624) = rcP m f s a b := by
  unfold rcP dL
  rw [Bool.eq_iff_iff, decide_eq_true_eq, decide_eq_true_eq]
  exact ⟨fun q => back_le h f s true hb ha q, fun q => back_le h f s false ha hb q⟩
theorem fn43 (m : Mp) (f : Nat → Int) (s : List Int) (a : Int) (hm : Gm m) (hl : s.length ≤ 1000000) : Sy.Fn Try.prog 43 [aM m, .agg (c6 f), aI s, iv a] (.tup [aI (rcV m f s a), iv (rcE m f s a)]) := by
  refine Fn_of_W mixed Xt43 rfl ?_
  have c78 := fn78 m f hm
  have fin : rcE m f s a ≠ 0 → rcV m f s a = [] := fun q => by unfold rcV; rw [if_neg q]
  by_cases h0 : opE m f = 0
  rotate_left
  · have e1 : rcE m f s a = opE m f := by unfold rcE; rw [if_neg h0]
    have e2 := fin (by rw [e1]; exact h0)
    rw [e1, e2]
    generalize opE m f = e at *
    repeat' (first | refine w1g ?_ | refine w1l ?_ | refine w1q ?_ | refine w1b ?_ | refine w1p ?_ | ((first | refine w1r ?_ | refine w1k ?_ | refine w1e ?_ | refine CallC.now (c78) ?_); (refine sy1 ?_; try exact True.intro)) | refine an2 ?_ | fail)
    refine W_cond (by rfl) (fun h => ?_) (fun h => ?_)
    · repeat' (first | refine w1g ?_ | refine w1l ?_ | refine w1q ?_ | refine w1b ?_ | refine w1p ?_ | ((first | refine w1r ?_ | refine w1k ?_ | refine w1e ?_); (refine sy1 ?_; try exact True.intro)) | refine an2 ?_ | fail)
      refine W_le (le_nil 8 1 0 cI rfl) ?_
      exact W_ret ⟨[_, _], ⟨rfl, rfl, rfl⟩, rfl⟩
    · exact absurd (by simpa using h) h0
  have hchk : chkM m = 0 ∧ szE f = 0 := by
    unfold opE at h0
    by_cases q : chkM m = 0
    · rw [if_pos q] at h0; exact ⟨q, h0⟩
    · rw [if_neg q] at h0; exact absurd h0 q
  have hok := chkM_ok hchk.1
  have hmn := hok.n
  have hnw := hok.nw
  rw [h0] at c78
  repeat' (first | refine w1g ?_ | refine w1l ?_ | refine w1q ?_ | refine w1b ?_ | refine w1p ?_ | ((first | refine w1r ?_ | refine w1k ?_ | refine w1e ?_ | refine CallC.now (c78) ?_); (refine sy1 ?_; try exact True.intro)) | refine an2 ?_ | fail)
  refine W_cond (by rfl) (fun h => by cases h) (fun _ => ?_)
  have c67 := fn67 s m.ws.length (by omega)
  have c90 := fn90 m a
  by_cases hp : setB s m.ws.length = true ∧ plB m.n a = true
  rotate_left
  · have e1 : rcE m f s a = 3 := by
      unfold rcE
      rw [if_pos h0]
      by_cases q : setB s m.ws.length = true
      · rw [if_pos q, if_neg (fun z => hp ⟨q, z⟩)]
      · rw [if_neg q]
    have e2 := fin (by rw [e1]; decide)
    rw [e1, e2]
    repeat' (first | refine w1g ?_ | refine w1l ?_ | refine w1q ?_ | refine w1b ?_ | refine w1p ?_ | ((first | refine w1r ?_ | refine w1k ?_ | refine w1e ?_ | refine CallC.now (c67) ?_ | refine CallC.go _ (fun _ => ⟨trivial, c90⟩) rfl ?_); (refine sy1 ?_; try exact True.intro)) | refine an2 ?_ | fail)
    refine W_cond (by rfl) (fun h => ?_) (fun h => ?_)
    · repeat' (first | refine w1g ?_ | refine w1l ?_ | refine w1q ?_ | refine w1b ?_ | refine w1p ?_ | ((first | refine w1r ?_ | refine w1k ?_ | refine w1e ?_); (refine sy1 ?_; try exact True.intro)) | refine an2 ?_ | fail)
      refine W_le (le_nil 8 1 0 cI rfl) ?_
      exact W_ret ⟨[_, _], ⟨rfl, rfl, rfl⟩, rfl⟩
    · rw [Bool.or_eq_false_iff, Bool.not_eq_false', Bool.not_eq_false'] at h
      exact absurd h hp
  rw [hp.1] at c67
  rw [hp.2] at c90
  have hss := setB_srt hp.1
  have ha : 0 ≤ a ∧ a < m.n := by
    have := hp.2
    unfold plB at this
    simp only [Bool.and_eq_true, decide_eq_true_eq] at this
    exact this
  have e1 : rcE m f s a = 0 := by unfold rcE; rw [if_pos h0, if_pos hp.1, if_pos hp.2]
  have e2 : rcV m f s a = rcL m f s a := by unfold rcV; rw [if_pos e1]
  obtain ⟨N, hN⟩ : ∃ N : Nat, m.n = N := ⟨m.n.toNat, by omega⟩
  have e3 : rcL m f s a = (evL N).filter (rcP m f s a) := by unfold rcL; rw [hN, Int.toNat_natCast]
  rw [e1, e2, e3]
  repeat' (first | refine w1g ?_ | refine w1l ?_ | refine w1q ?_ | refine w1b ?_ | refine w1p ?_ | ((first | refine w1r ?_ | refine w1k ?_ | refine w1e ?_ | refine CallC.now (c67) ?_ | refine CallC.go _ (fun _ => ⟨trivial, c90⟩) rfl ?_); (refine sy1 ?_; try exact True.intro)) | refine an2 ?_ | fail)
  refine W_cond (by rfl) (fun h => by cases h) (fun _ => ?_)
  repeat' (first | refine w1g ?_ | refine w1l ?_ | refine w1q ?_ | refine w1b ?_ | refine w1p ?_ | ((first | refine w1r ?_ | refine w1k ?_ | refine w1e ?_); (refine sy1 ?_; try exact True.intro)) | refine an2 ?_ | fail)
  refine W_le (le_adopt 11 3 1 0 cI (by omega) rfl) ?_
  (refine sy1 ?_; try exact True.intro)
  refine W_loopU (fun i : Nat => [(11, .row 24 ((evL i).filter (rcP m f s a)).length), (12, iv i)]) (fun i => [(24, .row ((evL i).filter (rcP m f s a)).length 3 1 0 cI ((evL i).filter (rcP m f s a)))]) (fun i => i ≤ N) (fun i => N - i) 0 (by omega) (by rfl) (by rfl) (fun i hi => ?_)
  have hfl : ((evL i).filter (rcP m f s a)).length ≤ i := by
    have := List.length_filter_le (rcP m f s a) (evL i)
    rwa [ev_len] at this
  have hfs := fil_succ (rcP m f s a) i
  (refine sy1 ?_; try exact True.intro)
  repeat' (first | refine w1g ?_ | refine w1l ?_ | refine w1q ?_ | refine w1b ?_ | refine w1p ?_ | ((first | refine w1r ?_ | refine w1k ?_ | refine w1e ?_); simp (maxSteps := 400000) (disch := omega) only [push_cast, ↓reduceIte, reduceCtorEq, Nat.reduceAdd, Nat.reduceSub, Nat.reduceEqDiff, Nat.reduceLeDiff, Nat.reduceLT, Nat.reduceBEq, Nat.reduceDiv, Nat.reduceMod, Nat.reducePow, Nat.reduceMul, Int.reduceToNat, Int.reduceLT, Int.reduceLE, hN]) | refine an2 ?_ | fail)
  refine W_condD (by rfl) (fun h5 => ?_) (fun h5 => ?_)
  · have hlt : i < N := by omega
    have c102 := fn102 m f s i hok hss (by omega)
    have hb := back_iff hok f s (a := a) (b := (i : Int)) ha (by omega)
    have hlen : (dL m f s i).length = m.n.toNat := dL_len hok f s true (by omega)
    have hgd : (dL m f s i).getD a.toNat 0 = gi (dL m f s i) a.toNat := rfl
    generalize (evL i).filter (rcP m f s a) = Y at *
    generalize gi (dL m f s i) a.toNat = d at *
    generalize dL m f s i = D at *
    generalize rcP m f s a i = P at *
    repeat' (first | refine w1g ?_ | refine w1l ?_ | refine w1q ?_ | refine w1b ?_ | refine w1p ?_ | ((first | refine w1r ?_ | refine w1k ?_ | refine w1e ?_ | refine CallC.now (c102) ?_); simp (maxSteps := 400000) (disch := omega) only [push_cast, ↓reduceIte, reduceCtorEq, Nat.reduceAdd, Nat.reduceSub, Nat.reduceEqDiff, Nat.reduceLeDiff, Nat.reduceLT, Nat.reduceBEq, Nat.reduceDiv, Nat.reduceMod, Nat.reducePow, Nat.reduceMul, Int.reduceToNat, Int.reduceLT, Int.reduceLE, hgd]) | refine an2 ?_ | fail)
    rw [hb]
    cases P
    · rw [if_neg (by simp), List.append_nil] at hfs
      refine W_cond (by rfl) (fun h => by cases h) (fun _ => ?_)
      repeat' (first | refine w1g ?_ | refine w1l ?_ | refine w1q ?_ | refine w1b ?_ | refine w1p ?_ | ((first | refine w1r ?_ | refine w1k ?_ | refine w1e ?_); (refine sy1 ?_; try exact True.intro)) | refine an2 ?_ | fail)
      refine ⟨i + 1, by omega, by omega, by rfl, ?_⟩
      rw [hfs]
      (refine syE ?_; try exact True.intro)
    · rw [if_pos rfl] at hfs
      refine W_cond (by rfl) (fun _ => ?_) (fun h => by cases h)
      repeat' (first | refine w1g ?_ | refine w1l ?_ | refine w1q ?_ | refine w1b ?_ | refine w1p ?_ | ((first | refine w1r ?_ | refine w1k ?_ | refine w1e ?_); (refine sy1 ?_; try exact True.intro)) | refine an2 ?_ | fail)
      refine ⟨rfl, trivial, Int, 0, cI, [(i : Int)], rfl, by omega, fun x _ => ⟨rfl, rfl⟩, rfl, ?_⟩
      (refine sy1 ?_; try exact True.intro)
      refine ⟨rfl, ⟨Nat.le_of_ble_eq_true rfl, rfl⟩, trivial, [(i : Int)], rfl, by first | omega | (simp; omega), by first | omega | (simp; omega), ?_⟩
      (refine sy1 ?_; try exact True.intro)
      repeat' (first | refine w1g ?_ | refine w1l ?_ | refine w1q ?_ | refine w1b ?_ | refine w1p ?_ | ((first | refine w1r ?_ | refine w1k ?_ | refine w1e ?_); (refine sy1 ?_; try exact True.intro)) | refine an2 ?_ | fail)
      refine ⟨i + 1, by omega, by omega, by rfl, ?_⟩
      rw [hfs, List.length_append]
      (refine syE ?_; try exact True.intro)
  · rw [show i = N by omega]
    repeat' (first | refine w1g ?_ | refine w1l ?_ | refine w1q ?_ | refine w1b ?_ | refine w1p ?_ | ((first | refine w1r ?_ | refine w1k ?_ | refine w1e ?_); (refine sy1 ?_; try exact True.intro)) | refine an2 ?_ | fail)
    refine W_ret ⟨[_, _], ⟨rfl, rfl, rfl⟩, ?_⟩
    simp (maxSteps := 400000) (disch := omega) only [push_cast, ↓reduceIte, reduceCtorEq, Nat.reduceAdd, Nat.reduceSub, Nat.reduceEqDiff, Nat.reduceLeDiff, Nat.reduceLT, Nat.reduceBEq, Nat.reduceDiv, Nat.reduceMod, Nat.reducePow, Nat.reduceMul, Int.reduceToNat, Int.reduceLT, Int.reduceLE, pack]
end Go.Proofs.Ytfbdlmenhoagmaa

namespace Go.Proofs.Ytfbdlmenhoagmaa
open Go Sy
set_option maxRecDepth 100000
set_option maxHeartbeats 4000000
set_option linter.unusedVariables false
set_option linter.unusedSimpArgs false
def hl1 (m : Mp) (f : Nat → Int) (w r k : Nat) : List Ld := if (ldsB m f r k && hpsB m f w r k) = true then [⟨r, k⟩] else []
def hlR (m : Mp) (f : Nat → Int) (w r n : Nat) : List Ld := (List.range n).flatMap (hl1 m f w r)
def hlW (m : Mp) (f : Nat → Int) (w n : Nat) : List Ld := (List.range n).flatMap fun r => hlR m f w r 6
theorem hlR_succ (m : Mp) (f : Nat → Int) (w r n : Nat) : hlR m f w r (n + 1) = hlR m f w r n ++ hl1 m f w r n := by
  unfold hlR; rw [List.range_succ, List.flatMap_append]; simp
theorem hlW_succ (m : Mp) (f : Nat → Int) (w n : Nat) : hlW m f w (n + 1) = hlW m f w n ++ hlR m f w n 6 := by
  unfold hlW; rw [List.range_succ, List.flatMap_append]; simp
theorem hlR_len (m : Mp) (f : Nat → Int) (w r : Nat) : ∀ n, (hlR m f w r n).length ≤ n
  | 0 => by simp [hlR]
  | n + 1 => by
    rw [hlR_succ, List.length_append]
    have := hlR_len m f w r n
    have : (hl1 m f w r n).length ≤ 1 := by unfold hl1; split <;> simp
    omega
theorem hlW_len (m : Mp) (f : Nat → Int) (w : Nat) : ∀ n, (hlW m f w n).length ≤ 6 * n
  | 0 => by simp [hlW]
  | n + 1 => by
    rw [hlW_succ, List.length_append]
    have := hlW_len m f w n
    have := hlR_len m f w n 6
    omega
def evP (w : Nat) (q : Int) (x : Ld) : Prt := ⟨w, x.r, x.k, q⟩
def evQ (m : Mp) (f : Nat → Int) (w : Nat) : Int := (gw m w).c / (hlW m f w m.rs.length).length
def evW (m : Mp) (f : Nat → Int) (w : Nat) : List Prt := (hlW m f w m.rs.length).map (evP w (evQ m f w))
def evA (m : Mp) (f : Nat → Int) (n : Nat) : List Prt := (List.range n).flatMap (evW m f)
theorem evA_succ (m : Mp) (f : Nat → Int) (n : Nat) : evA m f (n + 1) = evA m f n ++ evW m f n := by
  unfold evA; rw [List.range_succ, List.flatMap_append]; simp
theorem evA_len (m : Mp) (f : Nat → Int) : ∀ n, (evA m f n).length ≤ 6 * m.rs.length * n
  | 0 => by simp [evA]
  | n + 1 => by
    rw [evA_succ, List.length_append, Nat.mul_succ]
    have := evA_len m f n
    have h2 : (evW m f n).length ≤ 6 * m.rs.length := by unfold evW; rw [List.length_map]; exact hlW_len m f n _
    omega
def evS (w : Nat) (q : Int) (l : List Ld) (j : Nat) : List Prt := (l.take j).map (evP w q) ++ (l.drop j).map (evP w 0)
theorem evS_len (w : Nat) (q : Int) (l : List Ld) (j : Nat) : (evS w q l j).length = l.length := by
  unfold evS
  rw [List.length_append, List.length_map, List.length_map, ← List.length_append, List.take_append_drop]
theorem evS_at {w : Nat} {q : Int} {l : List Ld} {j : Nat} (h : j < l.length) : (evS w q l j).getD j dP = evP w 0 (l.getD j dLd) := by
  unfold evS
  rw [List.drop_eq_getElem_cons h]
  simp [List.getD, List.getElem?_append, h, Nat.min_eq_left (Nat.le_of_lt h)]
theorem evS_set {w : Nat} {q : Int} {l : List Ld} {j : Nat} (h : j < l.length) : (evS w q l j).set j (evP w q (l.getD j dLd)) = evS w q l (j + 1) := by
  have hg : l.getD j dLd = l[j] := by simp [List.getD, h]
  have ht : ((l.take j).map (evP w q)).length = j := by rw [List.length_map, List.length_take]; omega
  unfold evS
  rw [List.set_append_right _ _ (by omega), ht, Nat.sub_self, List.drop_eq_getElem_cons h, List.map_cons, List.set_cons_zero, List.take_succ_eq_append_getElem h, List.map_append, hg]
  simp
theorem fn104 (m : Mp) (f : Nat → Int) (h : OkM m) : Sy.Fn Try.prog 104 [aM m, .agg (c6 f)] (aP (evA m f m.ws.length)) := by
  refine Fn_of_W mixed Xt104 rfl ?_
  have hnw := h.nw
  have hnr := h.nr
  repeat' (first | refine w1g ?_ | refine w1l ?_ | refine w1q ?_ | refine w1b ?_ | refine w1p ?_ | ((first | refine w1r ?_ | refine w1k ?_ | refine w1e ?_); (refine sy1 ?_; try exact True.intro)) | refine an2 ?_ | fail)
  refine W_le (le_adopt 5 77 4 dP cP (by omega) rfl) ?_
  (refine sy1 ?_; try exact True.intro)
  refine W_loopU (fun w : Nat => [(5, .row 5 w), (6, iv w)]) (fun w => [(5, .row w 77 4 dP cP (evA m f w))]) (fun w => w ≤ m.ws.length) (fun w => m.ws.length - w) 0 (by omega) (by rfl) (by rfl) (fun w hwl => ?_)
  have hel := evA_len m f w
  have hes := evA_succ m f w
  have hel2 : (evA m f w).length ≤ 1536 * 10 := Nat.le_trans hel (Nat.mul_le_mul (by omega) (by omega))
  (refine sy1 ?_; try exact True.intro)
  repeat' (first | refine w1g ?_ | refine w1l ?_ | refine w1q ?_ | refine w1b ?_ | refine w1p ?_ | ((first | refine w1r ?_ | refine w1k ?_ | refine w1e ?_); (refine sy1 ?_; try exact True.intro)) | refine an2 ?_ | fail)
  refine W_condD (by rfl) (fun h5 => ?_) (fun h5 => ?_)
  rotate_left
  · rw [show w = m.ws.length by omega]
    repeat' (first | refine w1g ?_ | refine w1l ?_ | refine w1q ?_ | refine w1b ?_ | refine w1p ?_ | ((first | refine w1r ?_ | refine w1k ?_ | refine w1e ?_); (refine sy1 ?_; try exact True.intro)) | refine an2 ?_ | fail)
    refine W_ret ⟨[_], ⟨rfl, rfl⟩, ?_⟩
    simp (maxSteps := 400000) (disch := omega) only [push_cast, ↓reduceIte, reduceCtorEq, Nat.reduceAdd, Nat.reduceSub, Nat.reduceEqDiff, Nat.reduceLeDiff, Nat.reduceLT, Nat.reduceBEq, Nat.reduceDiv, Nat.reduceMod, Nat.reducePow, Nat.reduceMul, Int.reduceToNat, Int.reduceLT, Int.reduceLE, pack]
  have hw : w < m.ws.length := by omega
  generalize evA m f w = A at *
  repeat' (first | refine w1g ?_ | refine w1l ?_ | refine w1q ?_ | refine w1b ?_ | refine w1p ?_ | ((first | refine w1r ?_ | refine w1k ?_ | refine w1e ?_); (refine sy1 ?_; try exact True.intro)) | refine an2 ?_ | fail)
  refine W_le (le_adopt 7 77 4 dP cP (by omega) rfl) ?_
  (refine sy1 ?_; try exact True.intro)
  refine W_loopU (fun r : Nat => [(7, .row 13 (hlW m f w r).length), (8, iv r)]) (fun r => [(13, .row (hlW m f w r).length 77 4 dP cP ((hlW m f w r).map (evP w 0)))]) (fun r => r ≤ m.rs.length) (fun r => m.rs.length - r) 0 (by omega) (by rfl) (by rfl) (fun r hrl => ?_)
  have hll := hlW_len m f w r
  have hls := hlW_succ m f w r
  (refine sy1 ?_; try exact True.intro)
  repeat' (first | refine w1g ?_ | refine w1l ?_ | refine w1q ?_ | refine w1b ?_ | refine w1p ?_ | ((first | refine w1r ?_ | refine w1k ?_ | refine w1e ?_); (refine sy1 ?_; try exact True.intro)) | refine an2 ?_ | fail)
  refine W_condD (by rfl) (fun h6 => ?_) (fun h6 => ?_)
  · have hr : r < m.rs.length := by omega
    generalize hlW m f w r = Y at *
    repeat' (first | refine w1g ?_ | refine w1l ?_ | refine w1q ?_ | refine w1b ?_ | refine w1p ?_ | ((first | refine w1r ?_ | refine w1k ?_ | refine w1e ?_); (refine sy1 ?_; try exact True.intro)) | refine an2 ?_ | fail)
    refine W_loopU (fun k : Nat => [(7, .row 13 (Y ++ hlR m f w r k).length), (9, iv k)]) (fun k => [(13, .row (Y ++ hlR m f w r k).length 77 4 dP cP ((Y ++ hlR m f w r k).map (evP w 0)))]) (fun k => k ≤ 6) (fun k => 6 - k) 0 (by omega) (by rfl) (by simp only [hlR, List.range_zero, List.flatMap_nil, List.append_nil]; rfl) (fun k hk => ?_)
    have hkl := hlR_len m f w r k
    have hks := hlR_succ m f w r k
    have hal : (Y ++ hlR m f w r k).length ≤ 10000 := by rw [List.length_append]; omega
    (refine sy1 ?_; try exact True.intro)
    repeat' (first | refine w1g ?_ | refine w1l ?_ | refine w1q ?_ | refine w1b ?_ | refine w1p ?_ | ((first | refine w1r ?_ | refine w1k ?_ | refine w1e ?_); (refine sy1 ?_; try exact True.intro)) | refine an2 ?_ | fail)
    refine W_condD (by rfl) (fun h7 => ?_) (fun h7 => ?_)
    · have hk6 : k < 6 := by omega
      have c133 := fn133 m f r k h hr hk6
      have c134 := fn134 m f w r k h hw hk6
      have e1 : hl1 m f w r k = if (ldsB m f r k && hpsB m f w r k) = true then [⟨r, k⟩] else [] := rfl
      have hys : Y ++ hlR m f w r (k + 1) = (Y ++ hlR m f w r k) ++ hl1 m f w r k := by rw [hks, List.append_assoc]
      generalize Y ++ hlR m f w r k = Z at *
      generalize ldsB m f r k = B1 at *
      generalize hpsB m f w r k = B2 at *
      repeat' (first | refine w1g ?_ | refine w1l ?_ | refine w1q ?_ | refine w1b ?_ | refine w1p ?_ | ((first | refine w1r ?_ | refine w1k ?_ | refine w1e ?_ | refine CallC.now (c133) ?_ | refine CallC.go _ (fun _ => ⟨trivial, c134⟩) rfl ?_); (refine sy1 ?_; try exact True.intro)) | refine an2 ?_ | fail)
      refine W_cond (by rfl) (fun q => ?_) (fun q => ?_)
      · rw [if_pos q] at e1
        repeat' (first | refine w1g ?_ | refine w1l ?_ | refine w1q ?_ | refine w1b ?_ | refine w1p ?_ | ((first | refine w1r ?_ | refine w1k ?_ | refine w1e ?_); (refine sy1 ?_; try exact True.intro)) | refine an2 ?_ | fail)
        refine ⟨rfl, trivial, Prt, dP, cP, [evP w 0 ⟨r, k⟩], rfl, by omega, fun x _ => ⟨rfl, rfl⟩, rfl, ?_⟩
        (refine sy1 ?_; try exact True.intro)
        refine ⟨rfl, ⟨Nat.le_of_ble_eq_true rfl, rfl⟩, trivial, [evP w 0 ⟨r, k⟩], rfl, by first | omega | (simp; omega), by first | omega | (simp; omega), ?_⟩
        (refine sy1 ?_; try exact True.intro)
        repeat' (first | refine w1g ?_ | refine w1l ?_ | refine w1q ?_ | refine w1b ?_ | refine w1p ?_ | ((first | refine w1r ?_ | refine w1k ?_ | refine w1e ?_); (refine sy1 ?_; try exact True.intro)) | refine an2 ?_ | fail)
        refine ⟨k + 1, by omega, by omega, by rfl, ?_⟩
        rw [hys, e1, List.map_append, List.length_append]
        (refine syE ?_; try exact True.intro)
      · rw [if_neg (by rw [q]; simp)] at e1
        repeat' (first | refine w1g ?_ | refine w1l ?_ | refine w1q ?_ | refine w1b ?_ | refine w1p ?_ | ((first | refine w1r ?_ | refine w1k ?_ | refine w1e ?_); (refine sy1 ?_; try exact True.intro)) | refine an2 ?_ | fail)
        refine ⟨k + 1, by omega, by omega, by rfl, ?_⟩
        rw [hys, e1, List.append_nil]
        (refine syE ?_; try exact True.intro)
    · have hk6 : k = 6 := by omega
      subst hk6
      rw [← hls]
      repeat' (first | refine w1g ?_ | refine w1l ?_ | refine w1q ?_ | refine w1b ?_ | refine w1p ?_ | ((first | refine w1r ?_ | refine w1k ?_ | refine w1e ?_); (refine sy1 ?_; try exact True.intro)) | refine an2 ?_ | fail)
      refine ⟨r + 1, by omega, by omega, by rfl, ?_⟩
      (refine syE ?_; try exact True.intro)
  have hrm : r = m.rs.length := by omega
  subst hrm
  have hew : evW m f w = (hlW m f w m.rs.length).map (evP w (evQ m f w)) := rfl
  have heq : evQ m f w = (gw m w).c / (hlW m f w m.rs.length).length := rfl
  have hcw := (workB_ok (h.w w hw)).c
  have hgw : m.ws.getD w dW = gw m w := rfl
  generalize evQ m f w = q at *
  generalize hlW m f w m.rs.length = Y at *
  clear hls h6 hrl
  repeat' (first | refine w1g ?_ | refine w1l ?_ | refine w1q ?_ | refine w1b ?_ | refine w1p ?_ | ((first | refine w1r ?_ | refine w1k ?_ | refine w1e ?_); (refine sy1 ?_; try exact True.intro)) | refine an2 ?_ | fail)
  refine W_loopU (fun j : Nat => [(10, iv j)]) (fun j => [(13, .row Y.length 77 4 dP cP (evS w q Y j))]) (fun j => j ≤ Y.length) (fun j => Y.length - j) 0 (by omega) (by rfl) (by rfl) (fun j hj => ?_)
  have hsl := evS_len w q Y j
  (refine sy1 ?_; try exact True.intro)
  repeat' (first | refine w1g ?_ | refine w1l ?_ | refine w1q ?_ | refine w1b ?_ | refine w1p ?_ | ((first | refine w1r ?_ | refine w1k ?_ | refine w1e ?_); (refine sy1 ?_; try exact True.intro)) | refine an2 ?_ | fail)
  refine W_condD (by rfl) (fun h7 => ?_) (fun h7 => ?_)
  · have hlt : j < Y.length := by omega
    have hat := evS_at (w := w) (q := q) hlt
    have hst := evS_set (w := w) (q := q) hlt
    have hd : (gw m w).c.tdiv Y.length = q := by rw [heq, Int.tdiv_eq_ediv_of_nonneg (by omega)]
    have hq0 : 0 ≤ q := by rw [heq]; exact Int.ediv_nonneg (by omega) (by omega)
    have hq1 : q ≤ (gw m w).c := by rw [heq]; exact Int.ediv_le_self _ (by omega)
    clear heq
    repeat' (first | refine w1g ?_ | refine w1l ?_ | refine w1q ?_ | refine w1b ?_ | refine w1p ?_ | ((first | refine w1r ?_ | refine w1k ?_ | refine w1e ?_); simp (maxSteps := 400000) (disch := omega) only [push_cast, ↓reduceIte, reduceCtorEq, Nat.reduceAdd, Nat.reduceSub, Nat.reduceEqDiff, Nat.reduceLeDiff, Nat.reduceLT, Nat.reduceBEq, Nat.reduceDiv, Nat.reduceMod, Nat.reducePow, Nat.reduceMul, Int.reduceToNat, Int.reduceLT, Int.reduceLE, hgw, hsl, hat, hd]) | refine an2 ?_ | fail)
    refine ⟨rfl, ⟨Nat.le_of_ble_eq_true rfl, rfl⟩, by omega, evP w q (Y.getD j dLd), by rw [hat]; rfl, rfl, ?_⟩
    rw [hst]
    (refine sy1 ?_; try exact True.intro)
    repeat' (first | refine w1g ?_ | refine w1l ?_ | refine w1q ?_ | refine w1b ?_ | refine w1p ?_ | ((first | refine w1r ?_ | refine w1k ?_ | refine w1e ?_); (refine sy1 ?_; try exact True.intro)) | refine an2 ?_ | fail)
    refine ⟨j + 1, by omega, by omega, by rfl, ?_⟩
    (refine syE ?_; try exact True.intro)
  · have hjy : j = Y.length := by omega
    have hfull : evS w q Y j = evW m f w := by rw [hew, hjy]; unfold evS; simp
    have hwl2 : (evW m f w).length ≤ 10000 := by rw [hew, List.length_map]; omega
    rw [hfull]
    repeat' (first | refine w1g ?_ | refine w1l ?_ | refine w1q ?_ | refine w1b ?_ | refine w1p ?_ | ((first | refine w1r ?_ | refine w1k ?_ | refine w1e ?_); (refine sy1 ?_; try exact True.intro)) | refine an2 ?_ | fail)
    refine ⟨rfl, ⟨Nat.le_of_ble_eq_true rfl, rfl⟩, trivial, (evW m f w), rfl, by first | omega | (simp; omega), by first | omega | (simp; omega), ?_⟩
    (refine sy1 ?_; try exact True.intro)
    repeat' (first | refine w1g ?_ | refine w1l ?_ | refine w1q ?_ | refine w1b ?_ | refine w1p ?_ | ((first | refine w1r ?_ | refine w1k ?_ | refine w1e ?_); (refine sy1 ?_; try exact True.intro)) | refine an2 ?_ | fail)
    refine ⟨w + 1, by omega, by omega, by rfl, ?_⟩
    rw [hes]
    (refine syE ?_; try exact True.intro)
end Go.Proofs.Ytfbdlmenhoagmaa

namespace Go.Proofs.Ytfbdlmenhoagmaa
open Go Sy
set_option maxRecDepth 100000
set_option maxHeartbeats 4000000
set_option linter.unusedVariables false
set_option linter.unusedSimpArgs false
def rdC (m : Mp) (f : Nat → Int) (i : Nat) : Int := if usB m f (evL m.ws.length) i = true then redS m f (evA m f m.ws.length) i 6 else -1
def bnD (m : Mp) (f : Nat → Int) (fr : Int) : List Int := dstC m false (rdC m f) fr
def mnL (l : List Int) (x : Int) (i : Nat) : List Int := (l.take i).map (min · x) ++ l.drop i
theorem mnL_len (l : List Int) (x : Int) (i : Nat) : (mnL l x i).length = l.length := by
  unfold mnL
  rw [List.length_append, List.length_map, ← List.length_append, List.take_append_drop]
theorem mnL_at {l : List Int} {x : Int} {i : Nat} (h : i < l.length) : (mnL l x i).getD i 0 = l.getD i 0 := by
  unfold mnL
  rw [List.drop_eq_getElem_cons h]
  simp [List.getD, List.getElem?_append, h, Nat.min_eq_left (Nat.le_of_lt h)]
theorem mnL_set {l : List Int} {x : Int} {i : Nat} (h : i < l.length) : (mnL l x i).set i (min (l.getD i 0) x) = mnL l x (i + 1) := by
  have hg : l.getD i 0 = l[i] := by simp [List.getD, h]
  have ht : ((l.take i).map (min · x)).length = i := by rw [List.length_map, List.length_take]; omega
  unfold mnL
  rw [List.set_append_right _ _ (by omega), ht, Nat.sub_self, List.drop_eq_getElem_cons h, List.set_cons_zero, List.take_succ_eq_append_getElem h, List.map_append, hg]
  simp
def bnH (m : Mp) (f : Nat → Int) (fr to : Int) : List Int := mnL (bnD m f fr) (gi (bnD m f fr) to.toNat) m.n.toNat
def bnV (m : Mp) (f : Nat → Int) (fr to : Int) : List AV := if chE m f fr to = 0 then cBd (evA m f m.ws.length) (bnH m f fr to) else [.v (.slice none 0 0), .v (.slice none 0 0)]
theorem evA_v {m : Mp} {f : Nat → Int} (h : OkM m) : ∀ p ∈ evA m f m.ws.length, 0 ≤ p.v := fun p hp => by
  obtain ⟨w, hw, hpw⟩ := List.mem_flatMap.1 hp
  have hw := List.mem_range.1 hw
  obtain ⟨x, _, rfl⟩ := List.mem_map.1 hpw
  have := (workB_ok (h.w w hw)).c
  exact Int.ediv_nonneg (by show 0 ≤ (gw m w).c; omega) (by omega)
theorem fn41 (m : Mp) (f : Nat → Int) (fr to : Int) (hm : Gm m) : Sy.Fn Try.prog 41 [aM m, .agg (c6 f), iv fr, iv to] (.tup [.agg (bnV m f fr to), iv (chE m f fr to)]) := by
  refine Fn_of_W mixed Xt41 rfl ?_
  have c40 := fn40 m f fr to hm
  have hz : chE m f fr to = 0 → ∃ p, chV m f fr to = some p ∧ opE m f = 0 ∧ plB m.n fr = true ∧ plB m.n to = true := fun q => by
    unfold chE at q
    by_cases h0 : opE m f = 0
    · rw [if_pos h0] at q
      by_cases hp : plB m.n fr = true ∧ plB m.n to = true
      · rw [if_pos hp] at q
        have e1 : chV m f fr to = bestS m f fr to := by unfold chV; rw [if_pos h0, if_pos hp]
        rcases hb : bestS m f fr to with _ | p
        · rw [hb] at q; cases q
        · exact ⟨p, by rw [e1, hb], h0, hp.1, hp.2⟩
      · rw [if_neg hp] at q; cases q
    · rw [if_neg h0] at q; exact absurd q h0
  by_cases hE : chE m f fr to = 0
  rotate_left
  · have e1 : bnV m f fr to = [.v (.slice none 0 0), .v (.slice none 0 0)] := by unfold bnV; rw [if_neg hE]
    rw [e1]
    rcases hv : chV m f fr to with _ | ⟨s, n⟩
    · rw [hv] at c40
      have c40 : Sy.Fn Try.prog 40 [aM m, .agg (c6 f), iv fr, iv to] (.tup [.agg zRt, iv (chE m f fr to)]) := c40
      unfold zRt at c40
      generalize chE m f fr to = e at *
      repeat' (first | refine w1g ?_ | refine w1l ?_ | refine w1q ?_ | refine w1b ?_ | refine w1p ?_ | ((first | refine w1r ?_ | refine w1k ?_ | refine w1e ?_ | refine CallC.now (c40) ?_); (refine sy1 ?_; try exact True.intro)) | refine an2 ?_ | fail)
      refine W_cond (by rfl) (fun h => ?_) (fun h => ?_)
      · repeat' (first | refine w1g ?_ | refine w1l ?_ | refine w1q ?_ | refine w1b ?_ | refine w1p ?_ | ((first | refine w1r ?_ | refine w1k ?_ | refine w1e ?_); (refine sy1 ?_; try exact True.intro)) | refine an2 ?_ | fail)
        exact W_ret ⟨[_, _], ⟨⟨by simp, rfl⟩, rfl, rfl⟩, rfl⟩
      · exact absurd (by simpa using h) hE
    · exfalso
      unfold chV at hv
      unfold chE at hE
      by_cases h0 : opE m f = 0
      · rw [if_pos h0] at hv hE
        by_cases hp : plB m.n fr = true ∧ plB m.n to = true
        · rw [if_pos hp] at hv hE
          rw [hv] at hE
          exact hE rfl
        · rw [if_neg hp] at hv; cases hv
      · rw [if_neg h0] at hv; cases hv
  obtain ⟨⟨s, n⟩, hv, h0, hp1, hp2⟩ := hz hE
  have e1 : bnV m f fr to = cBd (evA m f m.ws.length) (bnH m f fr to) := by unfold bnV; rw [if_pos hE]
  rw [e1, hE]
  rw [hv, hE] at c40
  have c40 : Sy.Fn Try.prog 40 [aM m, .agg (c6 f), iv fr, iv to] (.tup [.agg (cRt (wayS m f fr to s) s n (minL m (wayS m f fr to s))), iv 0]) := c40
  unfold cRt at c40
  have hchk : chkM m = 0 ∧ szE f = 0 := by
    unfold opE at h0
    by_cases q : chkM m = 0
    · rw [if_pos q] at h0; exact ⟨q, h0⟩
    · rw [if_neg q] at h0; exact absurd h0 q
  have hok := chkM_ok hchk.1
  have hmn := hok.n
  have hnw := hok.nw
  have hnr := hok.nr
  have hpr : (0 ≤ fr ∧ fr < m.n) ∧ (0 ≤ to ∧ to < m.n) := by
    unfold plB at hp1 hp2
    simp only [Bool.and_eq_true, decide_eq_true_eq] at hp1 hp2
    omega
  obtain ⟨N, hN⟩ : ∃ N : Nat, m.n = N := ⟨m.n.toNat, by omega⟩
  have lfil : ∀ i, (fil N i).length = N := fun i => tbI_len _ _
  have c104 := fn104 m f hok
  have hv0 := evA_v (f := f) hok
  have hPl := Nat.le_trans (evA_len m f m.ws.length) (Nat.mul_le_mul (Nat.mul_le_mul (Nat.le_refl 6) hnr) hnw)
  repeat' (first | refine w1g ?_ | refine w1l ?_ | refine w1q ?_ | refine w1b ?_ | refine w1p ?_ | ((first | refine w1r ?_ | refine w1k ?_ | refine w1e ?_ | refine CallC.now (c40) ?_); (refine sy1 ?_; try exact True.intro)) | refine an2 ?_ | fail)
  refine W_cond (by rfl) (fun h => by cases h) (fun _ => ?_)
  have hbn : bnH m f fr to = mnL (bnD m f fr) (gi (bnD m f fr) to.toNat) N := by unfold bnH; rw [hN, Int.toNat_natCast]
  rw [hbn]
  have hrd : ∀ i, rdC m f i = if usB m f (evL m.ws.length) i = true then redS m f (evA m f m.ws.length) i 6 else -1 := fun _ => rfl
  have hbd : bnD m f fr = dstC m false (rdC m f) fr := rfl
  generalize rdC m f = rc at *
  generalize bnD m f fr = BD at *
  generalize evA m f m.ws.length = PS at *
  generalize wayS m f fr to s = WS at *
  unfold cBd
  repeat' (first | refine w1g ?_ | refine w1l ?_ | refine w1q ?_ | refine w1b ?_ | refine w1p ?_ | ((first | refine w1r ?_ | refine w1k ?_ | refine w1e ?_ | refine CallC.now (c104) ?_); simp (maxSteps := 400000) (disch := omega) only [push_cast, ↓reduceIte, reduceCtorEq, Nat.reduceAdd, Nat.reduceSub, Nat.reduceEqDiff, Nat.reduceLeDiff, Nat.reduceLT, Nat.reduceBEq, Nat.reduceDiv, Nat.reduceMod, Nat.reducePow, Nat.reduceMul, Int.reduceToNat, Int.reduceLT, Int.reduceLE, hN]) | refine an2 ?_ | fail)
  refine ⟨rfl, ⟨by omega, by omega, by omega⟩, Int, 0, cI, 0, rfl, rfl, by omega, rfl, ?_⟩
  simp (maxSteps := 400000) (disch := omega) only [push_cast, ↓reduceIte, reduceCtorEq, Nat.reduceAdd, Nat.reduceSub, Nat.reduceEqDiff, Nat.reduceLeDiff, Nat.reduceLT, Nat.reduceBEq, Nat.reduceDiv, Nat.reduceMod, Nat.reducePow, Nat.reduceMul, Int.reduceToNat, Int.reduceLT, Int.reduceLE, Int.toNat_natCast]
  repeat' (first | refine w1g ?_ | refine w1l ?_ | refine w1q ?_ | refine w1b ?_ | refine w1p ?_ | ((first | refine w1r ?_ | refine w1k ?_ | refine w1e ?_); (refine sy1 ?_; try exact True.intro)) | refine an2 ?_ | fail)
  refine W_loopU (fun i : Nat => [(13, iv i)]) (fun i => [(22, .row 0 2 1 0 cI (fil N i))]) (fun i => i ≤ N) (fun i => N - i) 0 (by omega) (by rfl) (by rw [fil_zero]; rfl) (fun i hi => ?_)
  (refine sy1 ?_; try exact True.intro)
  repeat' (first | refine w1g ?_ | refine w1l ?_ | refine w1q ?_ | refine w1b ?_ | refine w1p ?_ | ((first | refine w1r ?_ | refine w1k ?_ | refine w1e ?_); simp (maxSteps := 400000) (disch := omega) only [push_cast, ↓reduceIte, reduceCtorEq, Nat.reduceAdd, Nat.reduceSub, Nat.reduceEqDiff, Nat.reduceLeDiff, Nat.reduceLT, Nat.reduceBEq, Nat.reduceDiv, Nat.reduceMod, Nat.reducePow, Nat.reduceMul, Int.reduceToNat, Int.reduceLT, Int.reduceLE, hN]) | refine an2 ?_ | fail)
  refine W_condD (by rfl) (fun h5 => ?_) (fun h5 => ?_)
  · have hlt : i < N := by omega
    repeat' (first | refine w1g ?_ | refine w1l ?_ | refine w1q ?_ | refine w1b ?_ | refine w1p ?_ | ((first | refine w1r ?_ | refine w1k ?_ | refine w1e ?_); simp (maxSteps := 400000) (disch := omega) only [push_cast, ↓reduceIte, reduceCtorEq, Nat.reduceAdd, Nat.reduceSub, Nat.reduceEqDiff, Nat.reduceLeDiff, Nat.reduceLT, Nat.reduceBEq, Nat.reduceDiv, Nat.reduceMod, Nat.reducePow, Nat.reduceMul, Int.reduceToNat, Int.reduceLT, Int.reduceLE, lfil, Int.toNat_natCast]) | refine an2 ?_ | fail)
    refine ⟨rfl, ⟨Nat.le_of_ble_eq_true rfl, rfl⟩, by omega, far, rfl, rfl, ?_⟩
    rw [fil_set hlt]
    (refine sy1 ?_; try exact True.intro)
    repeat' (first | refine w1g ?_ | refine w1l ?_ | refine w1q ?_ | refine w1b ?_ | refine w1p ?_ | ((first | refine w1r ?_ | refine w1k ?_ | refine w1e ?_); (refine sy1 ?_; try exact True.intro)) | refine an2 ?_ | fail)
    refine ⟨i + 1, by omega, by omega, by rfl, ?_⟩
    (refine syE ?_; try exact True.intro)
  have hiN : i = N := by omega
  subst hiN
  rw [fil_end]
  clear lfil h5 hi
  repeat' (first | refine w1g ?_ | refine w1l ?_ | refine w1q ?_ | refine w1b ?_ | refine w1p ?_ | ((first | refine w1r ?_ | refine w1k ?_ | refine w1e ?_); simp (maxSteps := 400000) (disch := omega) only [push_cast, ↓reduceIte, reduceCtorEq, Nat.reduceAdd, Nat.reduceSub, Nat.reduceEqDiff, Nat.reduceLeDiff, Nat.reduceLT, Nat.reduceBEq, Nat.reduceDiv, Nat.reduceMod, Nat.reducePow, Nat.reduceMul, Int.reduceToNat, Int.reduceLT, Int.reduceLE, List.length_replicate]) | refine an2 ?_ | fail)
  refine ⟨rfl, ⟨Nat.le_of_ble_eq_true rfl, rfl⟩, by omega, 0, rfl, rfl, ?_⟩
  have hini : (List.replicate i far).set fr.toNat 0 = ini i fr.toNat := rfl
  rw [hini]
  have hil : (ini i fr.toNat).length = i := by rw [← hini, List.length_set, List.length_replicate]
  (refine sy1 ?_; try exact True.intro)
  repeat' (first | refine w1g ?_ | refine w1l ?_ | refine w1q ?_ | refine w1b ?_ | refine w1p ?_ | ((first | refine w1r ?_ | refine w1k ?_ | refine w1e ?_); (refine sy1 ?_; try exact True.intro)) | refine an2 ?_ | fail)
  refine W_le (le_adopt 14 3 1 0 cI (by omega) rfl) ?_
  (refine sy1 ?_; try exact True.intro)
  refine W_le (le_adopt 15 2 1 0 cI (by omega) rfl) ?_
  (refine sy1 ?_; try exact True.intro)
  obtain ⟨U, hU⟩ : ∃ U, U = usB m f (evL m.ws.length) := ⟨_, rfl⟩
  have hrd : ∀ i, rc i = if U i = true then redS m f PS i 6 else -1 := fun i => by rw [hU]; exact hrd i
  have c105 := fn105 m (by omega)
  refine W_loopU (fun j : Nat => [(14, .row 39 (usN U j).length), (15, .row 40 (usN U j).length), (16, iv j)]) (fun j => [(39, .row (usN U j).length 3 1 0 cI (usN U j)), (40, .row (usN U j).length 2 1 0 cI ((usN U j).map fun x => redS m f PS x.toNat 6))]) (fun j => j ≤ m.rs.length) (fun j => m.rs.length - j) 0 (by omega) (by rfl) (by rfl) (fun j hj => ?_)
  have hul := usN_len U j
  have hus := usN_succ U j
  (refine sy1 ?_; try exact True.intro)
  repeat' (first | refine w1g ?_ | refine w1l ?_ | refine w1q ?_ | refine w1b ?_ | refine w1p ?_ | ((first | refine w1r ?_ | refine w1k ?_ | refine w1e ?_); (refine sy1 ?_; try exact True.intro)) | refine an2 ?_ | fail)
  refine W_condD (by rfl) (fun h5 => ?_) (fun h5 => ?_)
  · have hlt : j < m.rs.length := by omega
    have c103 := fn103 m f (evL m.ws.length) j hok (ev_srt _) hlt
    rw [← hU] at c103
    have c106 := fn106 m f PS j hok hlt (by omega) hv0
    generalize usN U j = Y at *
    generalize evL m.ws.length = EV at *
    cases hUj : U j
    · rw [hUj] at c103 hus
      rw [if_neg (by simp)] at hus
      repeat' (first | refine w1g ?_ | refine w1l ?_ | refine w1q ?_ | refine w1b ?_ | refine w1p ?_ | ((first | refine w1r ?_ | refine w1k ?_ | refine w1e ?_ | refine CallC.now (c105) ?_ | refine CallC.now (c103) ?_); (refine sy1 ?_; try exact True.intro)) | refine an2 ?_ | fail)
      refine W_cond (by rfl) (fun h => by cases h) (fun _ => ?_)
      repeat' (first | refine w1g ?_ | refine w1l ?_ | refine w1q ?_ | refine w1b ?_ | refine w1p ?_ | ((first | refine w1r ?_ | refine w1k ?_ | refine w1e ?_); (refine sy1 ?_; try exact True.intro)) | refine an2 ?_ | fail)
      refine ⟨j + 1, by omega, by omega, by rfl, ?_⟩
      rw [hus]
      (refine syE ?_; try exact True.intro)
    · rw [hUj] at c103 hus
      rw [if_pos rfl] at hus
      repeat' (first | refine w1g ?_ | refine w1l ?_ | refine w1q ?_ | refine w1b ?_ | refine w1p ?_ | ((first | refine w1r ?_ | refine w1k ?_ | refine w1e ?_ | refine CallC.now (c105) ?_ | refine CallC.now (c103) ?_); (refine sy1 ?_; try exact True.intro)) | refine an2 ?_ | fail)
      refine W_cond (by rfl) (fun _ => ?_) (fun h => by cases h)
      repeat' (first | refine w1g ?_ | refine w1l ?_ | refine w1q ?_ | refine w1b ?_ | refine w1p ?_ | ((first | refine w1r ?_ | refine w1k ?_ | refine w1e ?_); (refine sy1 ?_; try exact True.intro)) | refine an2 ?_ | fail)
      refine ⟨rfl, trivial, Int, 0, cI, [(j : Int)], rfl, by omega, fun x _ => ⟨rfl, rfl⟩, rfl, ?_⟩
      (refine sy1 ?_; try exact True.intro)
      refine ⟨rfl, ⟨Nat.le_of_ble_eq_true rfl, rfl⟩, trivial, [(j : Int)], rfl, by first | omega | (simp; omega), by first | omega | (simp; omega), ?_⟩
      (refine sy1 ?_; try exact True.intro)
      repeat' (first | refine w1g ?_ | refine w1l ?_ | refine w1q ?_ | refine w1b ?_ | refine w1p ?_ | ((first | refine w1r ?_ | refine w1k ?_ | refine w1e ?_ | refine CallC.now (c106) ?_); (refine sy1 ?_; try exact True.intro)) | refine an2 ?_ | fail)
      refine ⟨rfl, trivial, Int, 0, cI, [redS m f PS j 6], rfl, by omega, fun x _ => ⟨rfl, rfl⟩, rfl, ?_⟩
      (refine sy1 ?_; try exact True.intro)
      refine ⟨rfl, ⟨Nat.le_of_ble_eq_true rfl, rfl⟩, trivial, [redS m f PS j 6], rfl, by first | omega | (simp; omega), by first | omega | (simp; omega), ?_⟩
      (refine sy1 ?_; try exact True.intro)
      repeat' (first | refine w1g ?_ | refine w1l ?_ | refine w1q ?_ | refine w1b ?_ | refine w1p ?_ | ((first | refine w1r ?_ | refine w1k ?_ | refine w1e ?_); (refine sy1 ?_; try exact True.intro)) | refine an2 ?_ | fail)
      refine ⟨j + 1, by omega, by omega, by rfl, ?_⟩
      rw [hus, List.length_append, List.map_append]
      (refine syE ?_; try exact True.intro)
  have hjl : j = m.rs.length := by omega
  subst hjl
  clear hus h5 hj
  obtain ⟨L, hL⟩ : ∃ L, L = usN U m.rs.length := ⟨_, rfl⟩
  rw [← hL] at hul ⊢
  have hLm : ∀ x ∈ L, ∃ j : Nat, j < m.rs.length ∧ U j = true ∧ x = j := fun x hx => usN_mem.1 (by rw [← hL]; exact hx)
  obtain ⟨es, hes⟩ : ∃ es, es = uesL m false rc L := ⟨_, rfl⟩
  have heL : es.length = L.length := by rw [hes]; simp [uesL]
  have hec : ∀ k, (edC m false rc k).c = rc k := fun k => rfl
  have hdst : dst es i fr.toNat = BD := by
    have := ues_eq (m := m) (bk := false) (c := rc) (a := fr) hok (fun x hx h0 => by
      rw [hrd] at h0 ⊢
      have := redS_rng (f := f) hok hx hv0 6
      split at h0
      · rename_i q; rw [if_pos q]; omega
      · omega) hpr.1 (es := es) (fun e he => by
      rw [hes] at he
      obtain ⟨x, hx, rfl⟩ := List.mem_map.1 he
      obtain ⟨k, hk, hu, rfl⟩ := hLm x hx
      rw [Int.toNat_natCast]
      refine ⟨List.mem_map.2 ⟨k, List.mem_range.2 hk, rfl⟩, ?_⟩
      rw [hec, hrd, if_pos hu]
      have := redS_rng (f := f) hok hk hv0 6
      omega) (fun e he h0 => by
      obtain ⟨k, hk, rfl⟩ := List.mem_map.1 he
      have hk := List.mem_range.1 hk
      rw [hec, hrd] at h0
      have hu : U k = true := by
        apply Classical.byContradiction
        intro z
        rw [if_neg z] at h0
        omega
      rw [hes]
      exact List.mem_map.2 ⟨(k : Int), by rw [hL]; exact usN_mem.2 ⟨k, hk, hu, rfl⟩, by rw [Int.toNat_natCast]⟩)
    rw [hN, Int.toNat_natCast] at this
    rw [hbd]
    exact this
  have hdr : ∀ e ∈ es, e.x < i ∧ e.y < i := fun e he => by
    rw [hes] at he
    obtain ⟨x, hx, rfl⟩ := List.mem_map.1 he
    obtain ⟨k, hk, hu, rfl⟩ := hLm x hx
    rw [Int.toNat_natCast]
    have ok := roadB_ok (hok.r k hk)
    have := ok.f; have := ok.t
    exact ⟨show (gr m k).f.toNat < _ by omega, show (gr m k).t.toNat < _ by omega⟩
  have hD : ∀ k, Dst es fr.toNat i (rnds es (ini i fr.toNat) k) := rnds_dst hdr (ini_dst (by omega))
  have hDB : Dst es fr.toNat i BD := by rw [← hdst]; exact hD i
  repeat' (first | refine w1g ?_ | refine w1l ?_ | refine w1q ?_ | refine w1b ?_ | refine w1p ?_ | ((first | refine w1r ?_ | refine w1k ?_ | refine w1e ?_); (refine sy1 ?_; try exact True.intro)) | refine an2 ?_ | fail)
  refine W_loopU (fun k : Nat => [(17, iv k)]) (fun k => [(22, .row 0 2 1 0 cI (rnds es (ini i fr.toNat) k))]) (fun k => k ≤ i) (fun k => i - k) 0 (by omega) (by rfl) (by rfl) (fun k hk => ?_)
  have hDk := hD k
  (refine sy1 ?_; try exact True.intro)
  repeat' (first | refine w1g ?_ | refine w1l ?_ | refine w1q ?_ | refine w1b ?_ | refine w1p ?_ | ((first | refine w1r ?_ | refine w1k ?_ | refine w1e ?_); simp (maxSteps := 400000) (disch := omega) only [push_cast, ↓reduceIte, reduceCtorEq, Nat.reduceAdd, Nat.reduceSub, Nat.reduceEqDiff, Nat.reduceLeDiff, Nat.reduceLT, Nat.reduceBEq, Nat.reduceDiv, Nat.reduceMod, Nat.reducePow, Nat.reduceMul, Int.reduceToNat, Int.reduceLT, Int.reduceLE, hN]) | refine an2 ?_ | fail)
  refine W_condD (by rfl) (fun h5 => ?_) (fun h5 => ?_)
  rotate_left
  · have hki : k = i := by omega
    have hfin : rnds es (ini i fr.toNat) k = BD := by rw [hki]; exact hdst
    rw [hfin]
    have hlB := hDB.len
    have hbt := hDB.le (y := to.toNat) (by omega)
    have gI : ∀ (l : List Int) i, l.getD i 0 = gi l i := fun _ _ => rfl
    generalize hh : gi BD to.toNat = T at *
    have hh2 : BD.getD to.toNat 0 = T := hh
    repeat' (first | refine w1g ?_ | refine w1l ?_ | refine w1q ?_ | refine w1b ?_ | refine w1p ?_ | ((first | refine w1r ?_ | refine w1k ?_ | refine w1e ?_); simp (maxSteps := 400000) (disch := omega) only [push_cast, ↓reduceIte, reduceCtorEq, Nat.reduceAdd, Nat.reduceSub, Nat.reduceEqDiff, Nat.reduceLeDiff, Nat.reduceLT, Nat.reduceBEq, Nat.reduceDiv, Nat.reduceMod, Nat.reducePow, Nat.reduceMul, Int.reduceToNat, Int.reduceLT, Int.reduceLE, hlB, hh2]) | refine an2 ?_ | fail)
    refine W_loopU (fun z : Nat => [(21, iv z)]) (fun z => [(22, .row 0 2 1 0 cI (mnL BD T z))]) (fun z => z ≤ i) (fun z => i - z) 0 (by omega) (by rfl) (by simp only [mnL, List.take_zero, List.map_nil, List.drop_zero, List.nil_append]; rfl) (fun z hz => ?_)
    have hml := mnL_len BD T z
    rw [hlB] at hml
    (refine sy1 ?_; try exact True.intro)
    repeat' (first | refine w1g ?_ | refine w1l ?_ | refine w1q ?_ | refine w1b ?_ | refine w1p ?_ | ((first | refine w1r ?_ | refine w1k ?_ | refine w1e ?_); simp (maxSteps := 400000) (disch := omega) only [push_cast, ↓reduceIte, reduceCtorEq, Nat.reduceAdd, Nat.reduceSub, Nat.reduceEqDiff, Nat.reduceLeDiff, Nat.reduceLT, Nat.reduceBEq, Nat.reduceDiv, Nat.reduceMod, Nat.reducePow, Nat.reduceMul, Int.reduceToNat, Int.reduceLT, Int.reduceLE, hN]) | refine an2 ?_ | fail)
    refine W_condD (by rfl) (fun h6 => ?_) (fun h6 => ?_)
    · have hlt : z < i := by omega
      have hma := mnL_at (x := T) (show z < BD.length by omega)
      have hms := mnL_set (x := T) (show z < BD.length by omega)
      have hbz := hDB.le hlt
      repeat' (first | refine w1g ?_ | refine w1l ?_ | refine w1q ?_ | refine w1b ?_ | refine w1p ?_ | ((first | refine w1r ?_ | refine w1k ?_ | refine w1e ?_); simp (maxSteps := 400000) (disch := omega) only [push_cast, ↓reduceIte, reduceCtorEq, Nat.reduceAdd, Nat.reduceSub, Nat.reduceEqDiff, Nat.reduceLeDiff, Nat.reduceLT, Nat.reduceBEq, Nat.reduceDiv, Nat.reduceMod, Nat.reducePow, Nat.reduceMul, Int.reduceToNat, Int.reduceLT, Int.reduceLE, hml, hma]) | refine an2 ?_ | fail)
      refine ⟨rfl, ⟨Nat.le_of_ble_eq_true rfl, rfl⟩, by omega, min (BD.getD z 0) T, rfl, rfl, ?_⟩
      rw [hms]
      (refine sy1 ?_; try exact True.intro)
      repeat' (first | refine w1g ?_ | refine w1l ?_ | refine w1q ?_ | refine w1b ?_ | refine w1p ?_ | ((first | refine w1r ?_ | refine w1k ?_ | refine w1e ?_); (refine sy1 ?_; try exact True.intro)) | refine an2 ?_ | fail)
      refine ⟨z + 1, by omega, by omega, by rfl, ?_⟩
      (refine syE ?_; try exact True.intro)
    · rw [show z = i by omega]
      repeat' (first | refine w1g ?_ | refine w1l ?_ | refine w1q ?_ | refine w1b ?_ | refine w1p ?_ | ((first | refine w1r ?_ | refine w1k ?_ | refine w1e ?_); (refine sy1 ?_; try exact True.intro)) | refine an2 ?_ | fail)
      refine W_ret ⟨[_, _], ⟨⟨by simp, rfl⟩, rfl, rfl⟩, ?_⟩
      simp (maxSteps := 400000) (disch := omega) only [push_cast, ↓reduceIte, reduceCtorEq, Nat.reduceAdd, Nat.reduceSub, Nat.reduceEqDiff, Nat.reduceLeDiff, Nat.reduceLT, Nat.reduceBEq, Nat.reduceDiv, Nat.reduceMod, Nat.reducePow, Nat.reduceMul, Int.reduceToNat, Int.reduceLT, Int.reduceLE, pack]
      try rfl
  have hpas : rnds es (ini i fr.toNat) (k + 1) = pas (rnds es (ini i fr.toNat) k) es := rfl
  generalize rnds es (ini i fr.toNat) k = o0 at *
  repeat' (first | refine w1g ?_ | refine w1l ?_ | refine w1q ?_ | refine w1b ?_ | refine w1p ?_ | ((first | refine w1r ?_ | refine w1k ?_ | refine w1e ?_); (refine sy1 ?_; try exact True.intro)) | refine an2 ?_ | fail)
  refine W_loopU (fun j : Nat => [(18, iv j)]) (fun j => [(22, .row 0 2 1 0 cI (pas o0 (es.take j)))]) (fun j => j ≤ L.length) (fun j => L.length - j) 0 (by omega) (by rfl) (by rfl) (fun j hj => ?_)
  have hDj : Dst es fr.toNat i (pas o0 (es.take j)) := pas_dst hdr _ _ (fun e he => List.mem_of_mem_take he) hDk
  have hlj := hDj.len
  (refine sy1 ?_; try exact True.intro)
  repeat' (first | refine w1g ?_ | refine w1l ?_ | refine w1q ?_ | refine w1b ?_ | refine w1p ?_ | ((first | refine w1r ?_ | refine w1k ?_ | refine w1e ?_); (refine sy1 ?_; try exact True.intro)) | refine an2 ?_ | fail)
  refine W_condD (by rfl) (fun h6 => ?_) (fun h6 => ?_)
  · have hlt : j < L.length := by omega
    obtain ⟨r, hrl, hru, hr⟩ := hLm (gi L j) (getD_mem 0 L j hlt)
    have hr2 : L.getD j 0 = (r : Int) := hr
    have ok := roadB_ok (hok.r r hrl)
    have ofr := ok.f; have otr := ok.t
    have hgr : m.rs.getD r dR = gr m r := rfl
    have htk : es.take (j + 1) = es.take j ++ [edC m false rc r] := by
      rw [hes, uesL_take m false rc hlt, hr, Int.toNat_natCast]
    have hps : pas o0 (es.take (j + 1)) = stp (pas o0 (es.take j)) (edC m false rc r) := by rw [htk, pas_snoc]
    have hrg := redS_rng (f := f) hok hrl hv0 6
    have hrr : rc r = redS m f PS r 6 := by rw [hrd, if_pos hru]
    have hwt : (L.map fun x => redS m f PS x.toNat 6).getD j 0 = redS m f PS r 6 := by
      rw [List.getD_eq_getElem?_getD, List.getElem?_map]
      have : L[j]? = some (r : Int) := by
        have h1 : L.getD j 0 = L[j] := by simp [List.getD, hlt]
        rw [List.getElem?_eq_getElem hlt, ← h1, hr2]
      rw [this]; simp
    generalize pas o0 (es.take j) = o at *
    generalize redS m f PS r 6 = R at *
    have b1 := hDj.le (y := (gr m r).f.toNat) (by omega)
    have b2 := hDj.le (y := (gr m r).t.toNat) (by omega)
    have hst := set_stp (o := o) (e := edC m false rc r) (by rw [hec, hrr]; omega) b1 b2.2 (by show (gr m r).t.toNat < _; omega)
    rw [hec, hrr] at hst
    have hst2 : o.set (gr m r).t.toNat (min (o.getD (gr m r).t.toNat 0) (o.getD (gr m r).f.toNat 0 + R)) = pas o0 (es.take (j + 1)) := by rw [hps]; exact hst
    have b1' : 0 ≤ o.getD (gr m r).f.toNat 0 ∧ o.getD (gr m r).f.toNat 0 ≤ 1125899906842624 := b1
    have b2' : 0 ≤ o.getD (gr m r).t.toNat 0 ∧ o.getD (gr m r).t.toNat 0 ≤ 1125899906842624 := b2
    repeat' (first | refine w1g ?_ | refine w1l ?_ | refine w1q ?_ | refine w1b ?_ | refine w1p ?_ | ((first | refine w1r ?_ | refine w1k ?_ | refine w1e ?_); simp (maxSteps := 400000) (disch := omega) only [push_cast, ↓reduceIte, reduceCtorEq, Nat.reduceAdd, Nat.reduceSub, Nat.reduceEqDiff, Nat.reduceLeDiff, Nat.reduceLT, Nat.reduceBEq, Nat.reduceDiv, Nat.reduceMod, Nat.reducePow, Nat.reduceMul, Int.reduceToNat, Int.reduceLT, Int.reduceLE, hr2, hgr, hwt, List.length_map]) | refine an2 ?_ | fail)
    refine ⟨rfl, ⟨Nat.le_of_ble_eq_true rfl, rfl⟩, by omega, min (o.getD (gr m r).t.toNat 0) (o.getD (gr m r).f.toNat 0 + R), rfl, rfl, ?_⟩
    rw [hst2]
    (refine sy1 ?_; try exact True.intro)
    repeat' (first | refine w1g ?_ | refine w1l ?_ | refine w1q ?_ | refine w1b ?_ | refine w1p ?_ | ((first | refine w1r ?_ | refine w1k ?_ | refine w1e ?_); (refine sy1 ?_; try exact True.intro)) | refine an2 ?_ | fail)
    refine ⟨j + 1, by omega, by omega, by rfl, ?_⟩
    (refine syE ?_; try exact True.intro)
  · have hjl : j = es.length := by omega
    rw [hjl, List.take_length, ← hpas]
    repeat' (first | refine w1g ?_ | refine w1l ?_ | refine w1q ?_ | refine w1b ?_ | refine w1p ?_ | ((first | refine w1r ?_ | refine w1k ?_ | refine w1e ?_); (refine sy1 ?_; try exact True.intro)) | refine an2 ?_ | fail)
    refine ⟨k + 1, by omega, by omega, by rfl, ?_⟩
    (refine syE ?_; try exact True.intro)
end Go.Proofs.Ytfbdlmenhoagmaa

namespace Go.Proofs.Ytfbdlmenhoagmaa
open Go Sy
set_option linter.unusedVariables false
structure EvP (m : Mp) (f : Nat → Int) (n : Nat) (p : Prt) (w r k : Nat) : Prop where
  lw : w < n
  lr : r < m.rs.length
  lk : k < 6
  l : ldsB m f r k = true
  h : hpsB m f w r k = true
  e : p = ⟨w, r, k, evQ m f w⟩
theorem hl1_mem {m : Mp} {f : Nat → Int} {w r k : Nat} {x : Ld} (h : x ∈ hl1 m f w r k) : x = ⟨r, k⟩ ∧ ldsB m f r k = true ∧ hpsB m f w r k = true := by
  unfold hl1 at h
  by_cases q : (ldsB m f r k && hpsB m f w r k) = true
  · rw [if_pos q, List.mem_singleton] at h
    rw [Bool.and_eq_true] at q
    exact ⟨h, q⟩
  · rw [if_neg q] at h; cases h
theorem hlR_mem {m : Mp} {f : Nat → Int} {w r n : Nat} {x : Ld} (h : x ∈ hlR m f w r n) : ∃ k : Nat, k < n ∧ x = ⟨r, k⟩ ∧ ldsB m f r k = true ∧ hpsB m f w r k = true := by
  obtain ⟨k, hk, hx⟩ := List.mem_flatMap.1 h
  exact ⟨k, List.mem_range.1 hk, hl1_mem hx⟩
theorem hlW_mem {m : Mp} {f : Nat → Int} {w n : Nat} {x : Ld} (h : x ∈ hlW m f w n) : ∃ r k : Nat, r < n ∧ k < 6 ∧ x = ⟨r, k⟩ ∧ ldsB m f r k = true ∧ hpsB m f w r k = true := by
  obtain ⟨r, hr, hx⟩ := List.mem_flatMap.1 h
  obtain ⟨k, hk, hx⟩ := hlR_mem hx
  exact ⟨r, k, List.mem_range.1 hr, hk, hx⟩
theorem evA_mem {m : Mp} {f : Nat → Int} {n : Nat} {p : Prt} (h : p ∈ evA m f n) : ∃ w r k, EvP m f n p w r k := by
  obtain ⟨w, hw, hp⟩ := List.mem_flatMap.1 h
  obtain ⟨x, hx, rfl⟩ := List.mem_map.1 hp
  obtain ⟨r, k, h1, h2, rfl, h3, h4⟩ := hlW_mem hx
  exact ⟨w, r, k, List.mem_range.1 hw, h1, h2, h3, h4, rfl⟩
theorem rng_pair {n : Nat} {R : Nat → Nat → Prop} (h : ∀ a b, a < b → R a b) : (List.range n).Pairwise R := by
  rw [List.pairwise_iff_getElem]
  intro i j hi hj hij
  rw [List.getElem_range, List.getElem_range]
  exact h i j hij
theorem hlW_pair (m : Mp) (f : Nat → Int) (w n : Nat) : (hlW m f w n).Pairwise fun x y => ¬ (x.r = y.r ∧ x.k = y.k) := by
  unfold hlW
  rw [List.pairwise_flatMap]
  refine ⟨fun r _ => ?_, rng_pair fun a b hab x hx y hy => ?_⟩
  · unfold hlR
    rw [List.pairwise_flatMap]
    refine ⟨fun k _ => ?_, rng_pair fun a b hab x hx y hy => ?_⟩
    · unfold hl1; split
      · exact List.pairwise_singleton _ _
      · exact List.Pairwise.nil
    · obtain ⟨rfl, _⟩ := hl1_mem hx
      obtain ⟨rfl, _⟩ := hl1_mem hy
      rintro ⟨_, h⟩
      have h : (a : Int) = b := h
      omega
  · obtain ⟨_, _, rfl, _⟩ := hlR_mem hx
    obtain ⟨_, _, rfl, _⟩ := hlR_mem hy
    rintro ⟨h, _⟩
    have h : (a : Int) = b := h
    omega
theorem evA_pair (m : Mp) (f : Nat → Int) (n : Nat) : (evA m f n).Pairwise fun x y => prB y.w y.r y.k x = false := by
  unfold evA
  rw [List.pairwise_flatMap]
  refine ⟨fun w _ => ?_, rng_pair fun a b hab x hx y hy => ?_⟩
  · unfold evW
    rw [List.pairwise_map]
    refine (hlW_pair m f w _).imp fun {x y} h => ?_
    rw [← Bool.not_eq_true]
    intro q
    unfold prB at q
    rw [Bool.and_eq_true, Bool.and_eq_true, beq_iff_eq, beq_iff_eq, beq_iff_eq] at q
    exact h ⟨q.1.2, q.2⟩
  · obtain ⟨x, _, rfl⟩ := List.mem_map.1 hx
    obtain ⟨y, _, rfl⟩ := List.mem_map.1 hy
    rw [← Bool.not_eq_true]
    intro q
    unfold prB at q
    rw [Bool.and_eq_true, Bool.and_eq_true, beq_iff_eq] at q
    have h : (a : Int) = b := q.1.1
    omega
theorem evA_dup (m : Mp) (f : Nat → Int) (n : Nat) : ∀ i, i < (evA m f n).length → dupB (evA m f n) i = false := fun i hi => by
  unfold dupB
  rw [← Bool.not_eq_true, List.any_eq_true]
  rintro ⟨j, hj, hp⟩
  have hj := List.mem_range.1 hj
  have h := List.pairwise_iff_getElem.1 (evA_pair m f n) j i (by omega) hi hj
  have e1 : (evA m f n).getD i dP = (evA m f n)[i] := by simp [List.getD, hi]
  have e2 : (evA m f n).getD j dP = (evA m f n)[j]'(by omega) := by simp [List.getD, show j < (evA m f n).length by omega]
  rw [e1, e2, h] at hp
  cases hp
theorem evQ_rng {m : Mp} (h : OkM m) (f : Nat → Int) {w : Nat} (hw : w < m.ws.length) : 0 ≤ evQ m f w ∧ evQ m f w ≤ (gw m w).c := by
  have := (workB_ok (h.w w hw)).c
  unfold evQ
  exact ⟨Int.ediv_nonneg (by omega) (by omega), Int.ediv_le_self _ (by omega)⟩
theorem evA_le {m : Mp} (h : OkM m) (f : Nat → Int) : ∀ p ∈ evA m f m.ws.length, 0 ≤ p.v ∧ p.v ≤ 1073741824 := fun p hp => by
  obtain ⟨w, r, k, e⟩ := evA_mem hp
  have h1 := evQ_rng h f e.lw
  have := (workB_ok (h.w w e.lw)).c
  rw [e.e]
  exact ⟨h1.1, by show evQ m f w ≤ _; omega⟩
theorem rdS_small {m : Mp} {f : Nat → Int} {V : Nat → Nat → Nat → Int} {road : Nat} (hok : OkM m) (hr : road < m.rs.length) (h : ∀ w r k, 0 ≤ V w r k ∧ V w r k ≤ 1073741824) : ∀ n : Nat, 1 ≤ rdS m f V road n ∧ rdS m f V road n ≤ 1073741824 + n * 1073741824
  | 0 => by
    have := (roadB_ok (hok.r road hr)).c
    show 1 ≤ (gr m road).c ∧ (gr m road).c ≤ _
    omega
  | n + 1 => by
    have h1 := rdS_small (f := f) hok hr h n
    have h2 : 0 ≤ (lwC m f V road n).2.1 ∧ (lwC m f V road n).2.1 ≤ 1073741824 := lwF_rng (by omega) (fun i => h i road n) _
    rw [rdS_succ]
    unfold rdK2
    split <;> omega
theorem partV_nn {w r k : Int} : ∀ {ps : List Prt}, (∀ p ∈ ps, 0 ≤ p.v) → 0 ≤ partV w r k ps
  | [], _ => Int.le_refl _
  | p :: ps, h => by
    simp only [partV]
    split
    · exact h p List.mem_cons_self
    · exact partV_nn fun q hq => h q (List.mem_cons_of_mem _ hq)
theorem redS_small {m : Mp} (hok : OkM m) {f : Nat → Int} {ps : List Prt} (hp : ∀ p ∈ ps, 0 ≤ p.v ∧ p.v ≤ 1073741824) {road : Nat} (hr : road < m.rs.length) : 1 ≤ redS m f ps road 6 ∧ redS m f ps road 6 ≤ 7516192768 := by
  have := rdS_small (f := f) (V := fun w r k => partV w r k ps) hok hr (fun w r k => ⟨partV_nn fun p h => (hp p h).1, partV_le (by omega) fun p h => (hp p h).2⟩) 6
  rw [rdS_eq (fun p h => (hp p h).2) 6 (Nat.le_refl _)] at this
  omega
theorem rdC_rng {m : Mp} (hok : OkM m) (f : Nat → Int) {i : Nat} (hi : i < m.rs.length) : (0 ≤ rdC m f i → 1 ≤ rdC m f i) ∧ -1099511627776 ≤ rdC m f i ∧ rdC m f i ≤ 1099511627776 := by
  have := redS_small (f := f) hok (evA_le hok f) hi
  unfold rdC
  split <;> omega
theorem fn130e (m : Mp) (f : Nat → Int) (hok : OkM m) (i : Nat) (hi : i < m.rs.length) : Sy.Fn Try.prog 130 ([] ++ [iv (i : Nat)] ++ [.fp (cAt m f) 0, .fp [.fm 3 (gP (evA m f m.ws.length))] 0]) (iv (rdC m f i)) := by
  have h1 := fn130 m f (gP (evA m f m.ws.length)) (fun w r k => partV w r k (evA m f m.ws.length)) (gP_hol (evA_dup m f _)) (fun w r k => ⟨partV_nn fun p h => (evA_le hok f p h).1, Int.le_trans (partV_le (M := 1073741824) (by omega) fun p h => (evA_le hok f p h).2) (by omega)⟩) i hok hi
  rw [rdS_eq (fun p h => (evA_le hok f p h).2) 6 (Nat.le_refl _)] at h1
  exact h1
end Go.Proofs.Ytfbdlmenhoagmaa

namespace Go.Proofs.Ytfbdlmenhoagmaa
open Go Sy
set_option maxRecDepth 100000
set_option maxHeartbeats 8000000
set_option linter.unusedVariables false
set_option linter.unusedSimpArgs false
theorem fn39 (m : Mp) (f : Nat → Int) (fr to : Int) (hm : Gm m) : Sy.Fn Try.prog 39 [aM m, .agg (c6 f), iv fr, iv to] (.tup [.agg (bnV m f fr to), iv (chE m f fr to)]) := by
  refine Fn_of_W mixed Xt39 rfl ?_
  have c15 := fn15 m f fr to hm
  have hz : chE m f fr to = 0 → ∃ p, chV m f fr to = some p ∧ opE m f = 0 ∧ plB m.n fr = true ∧ plB m.n to = true := fun q => by
    unfold chE at q
    by_cases h0 : opE m f = 0
    · rw [if_pos h0] at q
      by_cases hp : plB m.n fr = true ∧ plB m.n to = true
      · rw [if_pos hp] at q
        have e1 : chV m f fr to = bestS m f fr to := by unfold chV; rw [if_pos h0, if_pos hp]
        rcases hb : bestS m f fr to with _ | p
        · rw [hb] at q; cases q
        · exact ⟨p, by rw [e1, hb], h0, hp.1, hp.2⟩
      · rw [if_neg hp] at q; cases q
    · rw [if_neg h0] at q; exact absurd q h0
  by_cases hE : chE m f fr to = 0
  rotate_left
  · have e1 : bnV m f fr to = [.v (.slice none 0 0), .v (.slice none 0 0)] := by unfold bnV; rw [if_neg hE]
    rw [e1]
    rcases hv : chV m f fr to with _ | ⟨s, n⟩
    · rw [hv] at c15
      have c15 : Sy.Fn Try.prog 15 [aM m, .agg (c6 f), iv fr, iv to] (.tup [.agg zRt, iv (chE m f fr to)]) := c15
      unfold zRt at c15
      generalize chE m f fr to = e at *
      repeat' (first | refine w1g ?_ | refine w1l ?_ | refine w1q ?_ | refine w1b ?_ | refine w1p ?_ | ((first | refine w1r ?_ | refine w1k ?_ | refine w1e ?_ | refine CallC.now (c15) ?_); (refine sy1 ?_; try exact True.intro)) | refine an2 ?_ | fail)
      refine W_cond (by rfl) (fun h => ?_) (fun h => ?_)
      · repeat' (first | refine w1g ?_ | refine w1l ?_ | refine w1q ?_ | refine w1b ?_ | refine w1p ?_ | ((first | refine w1r ?_ | refine w1k ?_ | refine w1e ?_); (refine sy1 ?_; try exact True.intro)) | refine an2 ?_ | fail)
        exact W_ret ⟨[_, _], ⟨⟨by simp, rfl⟩, rfl, rfl⟩, rfl⟩
      · exact absurd (by simpa using h) hE
    · exfalso
      unfold chV at hv
      unfold chE at hE
      by_cases h0 : opE m f = 0
      · rw [if_pos h0] at hv hE
        by_cases hp : plB m.n fr = true ∧ plB m.n to = true
        · rw [if_pos hp] at hv hE
          rw [hv] at hE
          exact hE rfl
        · rw [if_neg hp] at hv; cases hv
      · rw [if_neg h0] at hv; cases hv
  obtain ⟨⟨s, n⟩, hv, h0, hp1, hp2⟩ := hz hE
  have e1 : bnV m f fr to = cBd (evA m f m.ws.length) (bnH m f fr to) := by unfold bnV; rw [if_pos hE]
  rw [e1, hE]
  rw [hv, hE] at c15
  have c15 : Sy.Fn Try.prog 15 [aM m, .agg (c6 f), iv fr, iv to] (.tup [.agg (cRt (wayS m f fr to s) s n (minL m (wayS m f fr to s))), iv 0]) := c15
  unfold cRt at c15
  have hchk : chkM m = 0 ∧ szE f = 0 := by
    unfold opE at h0
    by_cases q : chkM m = 0
    · rw [if_pos q] at h0; exact ⟨q, h0⟩
    · rw [if_neg q] at h0; exact absurd h0 q
  have hok := chkM_ok hchk.1
  have hmn := hok.n
  have hnw := hok.nw
  have hnr := hok.nr
  have hpr : (0 ≤ fr ∧ fr < m.n) ∧ (0 ≤ to ∧ to < m.n) := by
    unfold plB at hp1 hp2
    simp only [Bool.and_eq_true, decide_eq_true_eq] at hp1 hp2
    omega
  have hv0 := evA_v (f := f) hok
  have hPl := Nat.le_trans (evA_len m f m.ws.length) (Nat.mul_le_mul (Nat.mul_le_mul (Nat.le_refl 6) hnr) hnw)
  unfold cBd
  generalize wayS m f fr to s = WS at *
  repeat' (first | refine w1g ?_ | refine w1l ?_ | refine w1q ?_ | refine w1b ?_ | refine w1p ?_ | ((first | refine w1r ?_ | refine w1k ?_ | refine w1e ?_ | refine CallC.now (c15) ?_); (refine sy1 ?_; try exact True.intro)) | refine an2 ?_ | fail)
  refine W_cond (by rfl) (fun h => by cases h) (fun _ => ?_)
  refine W_skip ?_
  try (refine sy1 ?_; try exact True.intro)
  repeat (first | refine WK_go ?_ | refine W_seqL ?_ | refine W_seq ?_ | refine W_block ?_)
  refine W_regL ?_
  (refine sy1 ?_; try exact True.intro)
  refine ⟨rfl, ?_⟩
  have hbl : List.take 3 (cM m ++ [.v (.int .i64 0), .v (.int .i64 0), .v (.int .i64 0), .v (.int .i64 0), .v (.int .i64 0), .v (.int .i64 0)]) ++ c6 f ++ List.drop 9 (cM m ++ [.v (.int .i64 0), .v (.int .i64 0), .v (.int .i64 0), .v (.int .i64 0), .v (.int .i64 0), .v (.int .i64 0)]) = cAt m f := rfl
  rw [hbl]
  repeat (first | refine WK_go ?_ | refine W_seqL ?_ | refine W_seq ?_ | refine W_block ?_)
  refine W_regL ?_
  (refine sy1 ?_; try exact True.intro)
  repeat (first | refine WK_go ?_ | refine W_seqL ?_ | refine W_seq ?_ | refine W_block ?_)
  refine W_regX [0] ?_
  simp (maxSteps := 400000) (disch := omega) only [push_cast, ↓reduceIte, reduceCtorEq, Nat.reduceAdd, Nat.reduceSub, Nat.reduceEqDiff, Nat.reduceLeDiff, Nat.reduceLT, Nat.reduceBEq, Nat.reduceDiv, Nat.reduceMod, Nat.reducePow, Nat.reduceMul, Int.reduceToNat, Int.reduceLT, Int.reduceLE, chainX, SpM, List.take_succ_cons, List.take_zero, List.drop_succ_cons, List.drop_zero]
  refine ⟨[], rfl, rfl, fun b => ?_⟩
  try (refine sy1 ?_; try exact True.intro)
  repeat' (first | refine w1g ?_ | refine w1l ?_ | refine w1q ?_ | refine w1b ?_ | refine w1p ?_ | ((first | refine w1r ?_ | refine w1k ?_ | refine w1e ?_); (refine sy1 ?_; try exact True.intro)) | refine an2 ?_ | fail)
  refine W_le (le_adoptC 23 0 77 4 dP cP (by omega) _ rfl rfl (by simp)) ?_
  (refine sy1 ?_; try exact True.intro)
  refine W_loopU (fun w : Nat => [(45, iv w)]) (fun w => [(23, .cells [.row 31 (evA m f w).length, .v (.slice none 0 0)]), (31, .row (evA m f w).length 77 4 dP cP (evA m f w)), (25, .oth (.mp b 3 (gP (evA m f w))))]) (fun w => w ≤ m.ws.length) (fun w => m.ws.length - w) 0 (by omega) (by rfl) (by rfl) (fun w hwl => ?_)
  have hel := evA_len m f w
  have hes := evA_succ m f w
  have hel2 : (evA m f w).length ≤ 1536 * 10 := Nat.le_trans hel (Nat.mul_le_mul (by omega) (by omega))
  (refine sy1 ?_; try exact True.intro)
  repeat' (first | refine w1g ?_ | refine w1l ?_ | refine w1q ?_ | refine w1b ?_ | refine w1p ?_ | ((first | refine w1r ?_ | refine w1k ?_ | refine w1e ?_); (refine sy1 ?_; try exact True.intro)) | refine an2 ?_ | fail)
  refine W_condD (by rfl) (fun h5 => ?_) (fun h5 => ?_)
  · have hw : w < m.ws.length := by omega
    generalize evA m f w = A at *
    repeat' (first | refine w1g ?_ | refine w1l ?_ | refine w1q ?_ | refine w1b ?_ | refine w1p ?_ | ((first | refine w1r ?_ | refine w1k ?_ | refine w1e ?_); (refine sy1 ?_; try exact True.intro)) | refine an2 ?_ | fail)
    refine W_le (le_adoptC 36 0 138 2 dLd cLd (by omega) _ rfl rfl (by simp)) ?_
    (refine sy1 ?_; try exact True.intro)
    refine W_loopU (fun r : Nat => [(51, iv r)]) (fun r => [(36, .cells [.row 41 (hlW m f w r).length]), (41, .row (hlW m f w r).length 138 2 dLd cLd (hlW m f w r))]) (fun r => r ≤ m.rs.length) (fun r => m.rs.length - r) 0 (by omega) (by rfl) (by rfl) (fun r hrl => ?_)
    have hll := hlW_len m f w r
    have hls := hlW_succ m f w r
    (refine sy1 ?_; try exact True.intro)
    repeat' (first | refine w1g ?_ | refine w1l ?_ | refine w1q ?_ | refine w1b ?_ | refine w1p ?_ | ((first | refine w1r ?_ | refine w1k ?_ | refine w1e ?_); (refine sy1 ?_; try exact True.intro)) | refine an2 ?_ | fail)
    refine W_condD (by rfl) (fun h6 => ?_) (fun h6 => ?_)
    · have hr : r < m.rs.length := by omega
      generalize hlW m f w r = Y at *
      have c77 := fn77 m f hnw
      have c64 := fn64 m f (evL m.ws.length) (msk (evL m.ws.length)) r hok (setW_msk (ev_srt _)) hr
      have hld : ∀ k, ldsB m f r k = (usB m f (evL m.ws.length) r && decide ((gr m r).lim k < f k)) := fun _ => rfl
      generalize usB m f (evL m.ws.length) r = U at *
      generalize msk (evL m.ws.length) = E at *
      repeat' (first | refine w1g ?_ | refine w1l ?_ | refine w1q ?_ | refine w1b ?_ | refine w1p ?_ | ((first | refine w1r ?_ | refine w1k ?_ | refine w1e ?_ | refine CallC.now (fn97 m f r) ?_); (refine sy1 ?_; try exact True.intro)) | refine an2 ?_ | fail)
      refine W_rfnT (.inl rfl) (fun lp R T hT hR => Inl_of_W mixed Xt128 rfl (fun vs => ?_))
      (refine sy1 ?_; try exact True.intro)
      
      repeat' (first | refine w1g ?_ | refine w1l ?_ | refine w1q ?_ | refine w1b ?_ | refine w1p ?_ | ((first | refine w1r ?_ | refine w1k ?_ | refine w1e ?_ | refine CallC.now (c77) ?_ | refine CallC.now (c64) ?_); (refine sy1 ?_; try exact True.intro)) | refine an2 ?_ | fail)
      cases U
      · refine W_cond (by rfl) (fun _ => ?_) (fun h => by cases h)
        have e : hlR m f w r 6 = [] := by
          unfold hlR
          rw [List.flatMap_eq_nil_iff]
          intro k _
          unfold hl1
          rw [if_neg (by rw [hld]; simp)]
        rw [e, List.append_nil] at hls
        refine W_ret ?_
        refine ⟨_, _, rfl, rfl, ⟨_, _, rfl, by rw [hR.st]; simp, ?_⟩⟩
        rw [hR.pe, hT]
        simp (maxSteps := 400000) (disch := omega) only [push_cast, ↓reduceIte, reduceCtorEq, Nat.reduceAdd, Nat.reduceSub, Nat.reduceEqDiff, Nat.reduceLeDiff, Nat.reduceLT, Nat.reduceBEq, Nat.reduceDiv, Nat.reduceMod, Nat.reducePow, Nat.reduceMul, Int.reduceToNat, Int.reduceLT, Int.reduceLE, EndP]
        repeat' (first | refine w1g ?_ | refine w1l ?_ | refine w1q ?_ | refine w1b ?_ | refine w1p ?_ | ((first | refine w1r ?_ | refine w1k ?_ | refine w1e ?_); (refine sy1 ?_; try exact True.intro)) | refine an2 ?_ | fail)
        refine ⟨r + 1, by omega, by omega, by rfl, ?_⟩
        rw [hls]
        (refine syE ?_; try exact True.intro)
      · refine W_cond (by rfl) (fun h => by cases h) (fun _ => ?_)
        have hld2 : ∀ k, hl1 m f w r k = if (gr m r).lim k < f k ∧ hpsB m f w r k = true then [⟨r, k⟩] else [] := fun k => by
          unfold hl1
          rw [hld, Bool.true_and]
          congr 1
          rw [Bool.and_eq_true, decide_eq_true_eq]
        repeat' (first | refine w1g ?_ | refine w1l ?_ | refine w1q ?_ | refine w1b ?_ | refine w1p ?_ | ((first | refine w1r ?_ | refine w1k ?_ | refine w1e ?_ | refine CallC.now (fn75 m f 0 r) ?_); (refine sy1 ?_; try exact True.intro)) | refine an2 ?_ | fail)
        refine W_rfnT (.inl rfl) (fun lp2 R2 T2 hT2 hR2 => Inl_of_W mixed Xt121 rfl (fun vs2 => ?_))
        (refine sy1 ?_; try exact True.intro)
        repeat' (first | refine w1g ?_ | refine w1l ?_ | refine w1q ?_ | refine w1b ?_ | refine w1p ?_ | ((first | refine w1r ?_ | refine w1k ?_ | refine w1e ?_); (refine sy1 ?_; try exact True.intro)) | refine an2 ?_ | fail)
        refine W_loopU (fun k : Nat => [(10, iv k)]) (fun k => [(36, .cells [.row 41 (Y ++ hlR m f w r k).length]), (41, .row (Y ++ hlR m f w r k).length 138 2 dLd cLd (Y ++ hlR m f w r k))]) (fun k => k ≤ 6) (fun k => 6 - k) 0 (by omega) (by subst hT hT2; rfl) (by simp only [hlR, List.range_zero, List.flatMap_nil, List.append_nil]; rfl) (fun k hk => ?_)
        have hkl := hlR_len m f w r k
        have hks := hlR_succ m f w r k
        have hal : (Y ++ hlR m f w r k).length ≤ 10000 := by rw [List.length_append]; omega
        (refine sy1 ?_; try exact True.intro)
        repeat' (first | refine w1g ?_ | refine w1l ?_ | refine w1q ?_ | refine w1b ?_ | refine w1p ?_ | ((first | refine w1r ?_ | refine w1k ?_ | refine w1e ?_); (refine sy1 ?_; try exact True.intro)) | refine an2 ?_ | fail)
        refine W_condD (by rfl) (fun h7 => ?_) (fun h7 => ?_)
        · have hk6 : k < 6 := by omega
          have c122 := fn122 m f [] 0 r k hok (setW_msk (l := []) trivial) hr hk6
          have ec : limL m [] r k = (gr m r).lim k := rfl
          have e1 := hld2 k
          have c98 : Sy.Fn Try.prog 98 [aAt m f, iv w, .agg [iv r, iv k]] (bv (hpsB m f w r k)) := fn98 m f w r k hok hw hk6
          rw [ec] at c122
          have hys : Y ++ hlR m f w r (k + 1) = (Y ++ hlR m f w r k) ++ hl1 m f w r k := by rw [hks, List.append_assoc]
          generalize (gr m r).lim k = nl at *
          generalize Y ++ hlR m f w r k = Z at *
          by_cases q : nl < f k
          · have qb : decide (nl < f k) = true := decide_eq_true q
            repeat' (first | refine w1g ?_ | refine w1l ?_ | refine w1q ?_ | refine w1b ?_ | refine w1p ?_ | ((first | refine w1r ?_ | refine w1k ?_ | refine w1e ?_ | refine CallC.now (c122) ?_); simp (maxSteps := 400000) (disch := omega) only [push_cast, ↓reduceIte, reduceCtorEq, Nat.reduceAdd, Nat.reduceSub, Nat.reduceEqDiff, Nat.reduceLeDiff, Nat.reduceLT, Nat.reduceBEq, Nat.reduceDiv, Nat.reduceMod, Nat.reducePow, Nat.reduceMul, Int.reduceToNat, Int.reduceLT, Int.reduceLE, Nat.mul_one, Nat.zero_add, qb]) | refine an2 ?_ | fail)
            refine StopC.yld (fun hpc => ⟨trivial, Yl_of_WT (k := 60) mixed hR2 hT2 rfl rfl rfl (fun vs3 T3 hT3 => ?_)⟩) (fun hpc => absurd (by simp [pc]) hpc)
            (refine sy1 ?_; try exact True.intro)
            repeat' (first | refine w1g ?_ | refine w1l ?_ | refine w1q ?_ | refine w1b ?_ | refine w1p ?_ | ((first | refine w1r ?_ | refine w1k ?_ | refine w1e ?_); (refine sy1 ?_; try exact True.intro)) | refine an2 ?_ | fail)
            refine ⟨_, rfl, ?_⟩
            (refine sy1 ?_; try exact True.intro)
            repeat' (first | refine w1g ?_ | refine w1l ?_ | refine w1q ?_ | refine w1b ?_ | refine w1p ?_ | ((first | refine w1r ?_ | refine w1k ?_ | refine w1e ?_); (refine sy1 ?_; try exact True.intro)) | refine an2 ?_ | fail)
            refine StopC.yld (fun hpc2 => ⟨trivial, Yl_of_WT (k := 48) mixed hR hT rfl rfl rfl (fun vs4 T4 hT4 => ?_)⟩) (fun hpc2 => absurd (by simp [pc]) hpc2)
            (refine sy1 ?_; try exact True.intro)
            repeat' (first | refine w1g ?_ | refine w1l ?_ | refine w1q ?_ | refine w1b ?_ | refine w1p ?_ | ((first | refine w1r ?_ | refine w1k ?_ | refine w1e ?_); (refine sy1 ?_; try exact True.intro)) | refine an2 ?_ | fail)
            refine ⟨_, rfl, ?_⟩
            (refine sy1 ?_; try exact True.intro)
            cases hb : hpsB m f w r k
            · rw [hb] at c98 e1
              rw [if_neg (fun z => by cases z.2)] at e1
              rw [e1, List.append_nil] at hys
              repeat' (first | refine w1g ?_ | refine w1l ?_ | refine w1q ?_ | refine w1b ?_ | refine w1p ?_ | ((first | refine w1r ?_ | refine w1k ?_ | refine w1e ?_ | refine CallC.now (c98) ?_); (refine sy1 ?_; try exact True.intro)) | refine an2 ?_ | fail)
              refine W_cond (by rfl) (fun h => by cases h) (fun _ => ?_)
              repeat' (first | refine w1g ?_ | refine w1l ?_ | refine w1q ?_ | refine w1b ?_ | refine w1p ?_ | ((first | refine w1r ?_ | refine w1k ?_ | refine w1e ?_); (refine sy1 ?_; try exact True.intro)) | refine an2 ?_ | fail)
              refine ⟨_, _, rfl, rfl, ?_⟩
              (refine sy1 ?_; try exact True.intro)
              repeat' (first | refine w1g ?_ | refine w1l ?_ | refine w1q ?_ | refine w1b ?_ | refine w1p ?_ | ((first | refine w1r ?_ | refine w1k ?_ | refine w1e ?_); (refine sy1 ?_; try exact True.intro)) | refine an2 ?_ | fail)
              refine W_cond (by rfl) (fun h => by cases h) (fun _ => ?_)
              repeat' (first | refine w1g ?_ | refine w1l ?_ | refine w1q ?_ | refine w1b ?_ | refine w1p ?_ | ((first | refine w1r ?_ | refine w1k ?_ | refine w1e ?_); (refine sy1 ?_; try exact True.intro)) | refine an2 ?_ | fail)
              refine ⟨_, _, rfl, rfl, ?_⟩
              rw [hT3]
              (refine sy1 ?_; try exact True.intro)
              repeat' (first | refine w1g ?_ | refine w1l ?_ | refine w1q ?_ | refine w1b ?_ | refine w1p ?_ | ((first | refine w1r ?_ | refine w1k ?_ | refine w1e ?_); (refine sy1 ?_; try exact True.intro)) | refine an2 ?_ | fail)
              refine W_cond (by rfl) (fun h => by cases h) (fun _ => ?_)
              repeat' (first | refine w1g ?_ | refine w1l ?_ | refine w1q ?_ | refine w1b ?_ | refine w1p ?_ | ((first | refine w1r ?_ | refine w1k ?_ | refine w1e ?_); (refine sy1 ?_; try exact True.intro)) | refine an2 ?_ | fail)
              refine ⟨k + 1, by omega, by omega, by subst hT hT2; rfl, ?_⟩
              rw [hys]
              (refine syE ?_; try exact True.intro)
            · rw [hb] at c98 e1
              rw [if_pos ⟨q, rfl⟩] at e1
              rw [e1] at hys
              repeat' (first | refine w1g ?_ | refine w1l ?_ | refine w1q ?_ | refine w1b ?_ | refine w1p ?_ | ((first | refine w1r ?_ | refine w1k ?_ | refine w1e ?_ | refine CallC.now (c98) ?_); (refine sy1 ?_; try exact True.intro)) | refine an2 ?_ | fail)
              refine W_cond (by rfl) (fun _ => ?_) (fun h => by cases h)
              repeat' (first | refine w1g ?_ | refine w1l ?_ | refine w1q ?_ | refine w1b ?_ | refine w1p ?_ | ((first | refine w1r ?_ | refine w1k ?_ | refine w1e ?_); (refine sy1 ?_; try exact True.intro)) | refine an2 ?_ | fail)
              refine ⟨rfl, trivial, Ld, dLd, cLd, [⟨r, k⟩], rfl, by omega, fun x _ => ⟨rfl, rfl⟩, rfl, ?_⟩
              (refine sy1 ?_; try exact True.intro)
              refine ⟨rfl, ⟨Nat.le_of_ble_eq_true rfl, rfl⟩, trivial, [(⟨r, k⟩ : Ld)], rfl, by first | omega | (simp; omega), by first | omega | (simp; omega), ?_⟩
              (refine sy1 ?_; try exact True.intro)
              repeat' (first | refine w1g ?_ | refine w1l ?_ | refine w1q ?_ | refine w1b ?_ | refine w1p ?_ | ((first | refine w1r ?_ | refine w1k ?_ | refine w1e ?_); (refine sy1 ?_; try exact True.intro)) | refine an2 ?_ | fail)
              refine ⟨_, _, rfl, rfl, ?_⟩
              (refine sy1 ?_; try exact True.intro)
              repeat' (first | refine w1g ?_ | refine w1l ?_ | refine w1q ?_ | refine w1b ?_ | refine w1p ?_ | ((first | refine w1r ?_ | refine w1k ?_ | refine w1e ?_); (refine sy1 ?_; try exact True.intro)) | refine an2 ?_ | fail)
              refine W_cond (by rfl) (fun h => by cases h) (fun _ => ?_)
              repeat' (first | refine w1g ?_ | refine w1l ?_ | refine w1q ?_ | refine w1b ?_ | refine w1p ?_ | ((first | refine w1r ?_ | refine w1k ?_ | refine w1e ?_); (refine sy1 ?_; try exact True.intro)) | refine an2 ?_ | fail)
              refine ⟨_, _, rfl, rfl, ?_⟩
              rw [hT3]
              (refine sy1 ?_; try exact True.intro)
              repeat' (first | refine w1g ?_ | refine w1l ?_ | refine w1q ?_ | refine w1b ?_ | refine w1p ?_ | ((first | refine w1r ?_ | refine w1k ?_ | refine w1e ?_); (refine sy1 ?_; try exact True.intro)) | refine an2 ?_ | fail)
              refine W_cond (by rfl) (fun h => by cases h) (fun _ => ?_)
              repeat' (first | refine w1g ?_ | refine w1l ?_ | refine w1q ?_ | refine w1b ?_ | refine w1p ?_ | ((first | refine w1r ?_ | refine w1k ?_ | refine w1e ?_); (refine sy1 ?_; try exact True.intro)) | refine an2 ?_ | fail)
              refine ⟨k + 1, by omega, by omega, by subst hT hT2; rfl, ?_⟩
              rw [hys, List.length_append]
              (refine syE ?_; try exact True.intro)
          · rw [if_neg (fun z => q z.1)] at e1
            rw [e1, List.append_nil] at hys
            have qb : decide (nl < f k) = false := decide_eq_false q
            repeat' (first | refine w1g ?_ | refine w1l ?_ | refine w1q ?_ | refine w1b ?_ | refine w1p ?_ | ((first | refine w1r ?_ | refine w1k ?_ | refine w1e ?_ | refine CallC.now (c122) ?_); simp (maxSteps := 400000) (disch := omega) only [push_cast, ↓reduceIte, reduceCtorEq, Nat.reduceAdd, Nat.reduceSub, Nat.reduceEqDiff, Nat.reduceLeDiff, Nat.reduceLT, Nat.reduceBEq, Nat.reduceDiv, Nat.reduceMod, Nat.reducePow, Nat.reduceMul, Int.reduceToNat, Int.reduceLT, Int.reduceLE, Nat.mul_one, Nat.zero_add, qb]) | refine an2 ?_ | fail)
            refine StopC.yld (fun hpc => absurd hpc (by simp [pc])) (fun hpc => ?_)
            (refine sy1 ?_; try exact True.intro)
            repeat' (first | refine w1g ?_ | refine w1l ?_ | refine w1q ?_ | refine w1b ?_ | refine w1p ?_ | ((first | refine w1r ?_ | refine w1k ?_ | refine w1e ?_); (refine sy1 ?_; try exact True.intro)) | refine an2 ?_ | fail)
            refine W_cond (by rfl) (fun h => by cases h) (fun _ => ?_)
            repeat' (first | refine w1g ?_ | refine w1l ?_ | refine w1q ?_ | refine w1b ?_ | refine w1p ?_ | ((first | refine w1r ?_ | refine w1k ?_ | refine w1e ?_); (refine sy1 ?_; try exact True.intro)) | refine an2 ?_ | fail)
            refine ⟨k + 1, by omega, by omega, by subst hT hT2; rfl, ?_⟩
            rw [hys]
            (refine syE ?_; try exact True.intro)
        · have hk6 : k = 6 := by omega
          subst hk6
          rw [← hls]
          repeat' (first | refine w1g ?_ | refine w1l ?_ | refine w1q ?_ | refine w1b ?_ | refine w1p ?_ | ((first | refine w1r ?_ | refine w1k ?_ | refine w1e ?_); (refine sy1 ?_; try exact True.intro)) | refine an2 ?_ | fail)
          refine ⟨_, _, rfl, rfl, ⟨_, _, rfl, by rw [hR2.st]; simp, ?_⟩⟩
          rw [hR2.pe, hT2]
          simp (maxSteps := 400000) (disch := omega) only [push_cast, ↓reduceIte, reduceCtorEq, Nat.reduceAdd, Nat.reduceSub, Nat.reduceEqDiff, Nat.reduceLeDiff, Nat.reduceLT, Nat.reduceBEq, Nat.reduceDiv, Nat.reduceMod, Nat.reducePow, Nat.reduceMul, Int.reduceToNat, Int.reduceLT, Int.reduceLE, EndP]
          repeat' (first | refine w1g ?_ | refine w1l ?_ | refine w1q ?_ | refine w1b ?_ | refine w1p ?_ | ((first | refine w1r ?_ | refine w1k ?_ | refine w1e ?_); (refine sy1 ?_; try exact True.intro)) | refine an2 ?_ | fail)
          refine ⟨_, _, rfl, rfl, ⟨_, _, rfl, by rw [hR.st]; simp, ?_⟩⟩
          rw [hR.pe, hT]
          simp (maxSteps := 400000) (disch := omega) only [push_cast, ↓reduceIte, reduceCtorEq, Nat.reduceAdd, Nat.reduceSub, Nat.reduceEqDiff, Nat.reduceLeDiff, Nat.reduceLT, Nat.reduceBEq, Nat.reduceDiv, Nat.reduceMod, Nat.reducePow, Nat.reduceMul, Int.reduceToNat, Int.reduceLT, Int.reduceLE, EndP]
          repeat' (first | refine w1g ?_ | refine w1l ?_ | refine w1q ?_ | refine w1b ?_ | refine w1p ?_ | ((first | refine w1r ?_ | refine w1k ?_ | refine w1e ?_); (refine sy1 ?_; try exact True.intro)) | refine an2 ?_ | fail)
          refine ⟨r + 1, by omega, by omega, by rfl, ?_⟩
          (refine syE ?_; try exact True.intro)
    · have hrm : r = m.rs.length := by omega
      subst hrm
      have hew : evW m f w = (hlW m f w m.rs.length).map (evP w (evQ m f w)) := rfl
      have heq : evQ m f w = (gw m w).c / (hlW m f w m.rs.length).length := rfl
      have hcw := (workB_ok (hok.w w hw)).c
      have hgw : m.ws.getD w dW = gw m w := rfl
      generalize evQ m f w = q at *
      generalize hlW m f w m.rs.length = Y at *
      clear hls h6 hrl
      repeat' (first | refine w1g ?_ | refine w1l ?_ | refine w1q ?_ | refine w1b ?_ | refine w1p ?_ | ((first | refine w1r ?_ | refine w1k ?_ | refine w1e ?_); (refine sy1 ?_; try exact True.intro)) | refine an2 ?_ | fail)
      refine W_loopU (fun j : Nat => [(69, iv j)]) (fun j => [(23, .cells [.row 31 (A ++ (Y.take j).map (evP w q)).length, .v (.slice none 0 0)]), (31, .row (A ++ (Y.take j).map (evP w q)).length 77 4 dP cP (A ++ (Y.take j).map (evP w q))), (25, .oth (.mp b 3 (gP (A ++ (Y.take j).map (evP w q)))))]) (fun j => j ≤ Y.length) (fun j => Y.length - j) 0 (by omega) (by rfl) (by simp only [List.take_zero, List.map_nil, List.append_nil]; rfl) (fun j hj => ?_)
      have hAl : (A ++ (Y.take j).map (evP w q)).length ≤ 30000 := by rw [List.length_append, List.length_map, List.length_take]; omega
      (refine sy1 ?_; try exact True.intro)
      repeat' (first | refine w1g ?_ | refine w1l ?_ | refine w1q ?_ | refine w1b ?_ | refine w1p ?_ | ((first | refine w1r ?_ | refine w1k ?_ | refine w1e ?_); (refine sy1 ?_; try exact True.intro)) | refine an2 ?_ | fail)
      refine W_condD (by rfl) (fun h7 => ?_) (fun h7 => ?_)
      · have hlt : j < Y.length := by omega
        have hd : (gw m w).c.tdiv Y.length = q := by rw [heq, Int.tdiv_eq_ediv_of_nonneg (by omega)]
        have hq0 : 0 ≤ q := by rw [heq]; exact Int.ediv_nonneg (by omega) (by omega)
        have hq1 : q ≤ (gw m w).c := by rw [heq]; exact Int.ediv_le_self _ (by omega)
        have htk : A ++ (Y.take (j + 1)).map (evP w q) = (A ++ (Y.take j).map (evP w q)) ++ [evP w q (Y.getD j dLd)] := by
          rw [List.take_succ_eq_append_getElem hlt, List.map_append, ← List.append_assoc]
          simp [List.getD, hlt]
        have hgs := gP_snoc (A ++ (Y.take j).map (evP w q)) (evP w q (Y.getD j dLd))
        rw [← htk] at hgs
        have hgs : gP (A ++ (Y.take (j + 1)).map (evP w q)) = updG (gP (A ++ (Y.take j).map (evP w q))) (.agg #[.int .i64 w, .int .i64 (Y.getD j dLd).r, .int .i64 (Y.getD j dLd).k]) (.int .i64 q) := hgs
        obtain ⟨⟨xr, xk⟩, hX⟩ : ∃ X, Y.getD j dLd = X := ⟨_, rfl⟩
        rw [hX] at htk hgs
        generalize A ++ (Y.take j).map (evP w q) = Z at *
        clear heq
        repeat' (first | refine w1g ?_ | refine w1l ?_ | refine w1q ?_ | refine w1b ?_ | refine w1p ?_ | ((first | refine w1r ?_ | refine w1k ?_ | refine w1e ?_); simp (maxSteps := 400000) (disch := omega) only [push_cast, ↓reduceIte, reduceCtorEq, Nat.reduceAdd, Nat.reduceSub, Nat.reduceEqDiff, Nat.reduceLeDiff, Nat.reduceLT, Nat.reduceBEq, Nat.reduceDiv, Nat.reduceMod, Nat.reducePow, Nat.reduceMul, Int.reduceToNat, Int.reduceLT, Int.reduceLE, hgw, hd, hX, cLd]) | refine an2 ?_ | fail)
        refine ⟨rfl, trivial, Prt, dP, cP, [evP w q ⟨xr, xk⟩], rfl, by omega, fun x _ => ⟨rfl, rfl⟩, rfl, ?_⟩
        (refine sy1 ?_; try exact True.intro)
        refine ⟨rfl, ⟨Nat.le_of_ble_eq_true rfl, rfl⟩, trivial, [evP w q ⟨xr, xk⟩], rfl, by first | omega | (simp; omega), by first | omega | (simp; omega), ?_⟩
        (refine sy1 ?_; try exact True.intro)
        repeat (first | refine WK_go ?_ | refine W_seqL ?_ | refine W_seq ?_ | refine W_block ?_)
        refine W_regX [5] ?_
        simp (maxSteps := 400000) (disch := omega) only [push_cast, ↓reduceIte, reduceCtorEq, Nat.reduceAdd, Nat.reduceSub, Nat.reduceEqDiff, Nat.reduceLeDiff, Nat.reduceLT, Nat.reduceBEq, Nat.reduceDiv, Nat.reduceMod, Nat.reducePow, Nat.reduceMul, Int.reduceToNat, Int.reduceLT, Int.reduceLE, chainX, List.take_succ_cons, List.take_zero, List.drop_succ_cons, List.drop_zero]
        refine SpM_mup 25 b _ (.agg #[.int .i64 w, .int .i64 xr, .int .i64 xk]) (.int .i64 q) (by simp [underAll, under, ev, lk]) rfl rfl rfl (ok3 _ _ _) rfl ?_
        rw [← hgs]
        simp (maxSteps := 400000) (disch := omega) only [push_cast, ↓reduceIte, reduceCtorEq, Nat.reduceAdd, Nat.reduceSub, Nat.reduceEqDiff, Nat.reduceLeDiff, Nat.reduceLT, Nat.reduceBEq, Nat.reduceDiv, Nat.reduceMod, Nat.reducePow, Nat.reduceMul, Int.reduceToNat, Int.reduceLT, Int.reduceLE, chainX]
        repeat' (first | refine w1g ?_ | refine w1l ?_ | refine w1q ?_ | refine w1b ?_ | refine w1p ?_ | ((first | refine w1r ?_ | refine w1k ?_ | refine w1e ?_); (refine sy1 ?_; try exact True.intro)) | refine an2 ?_ | fail)
        refine ⟨j + 1, by omega, by omega, by rfl, ?_⟩
        rw [htk, List.length_append]
        (refine syE ?_; try exact True.intro)
      · have hjy : j = Y.length := by omega
        rw [hjy, List.take_length, ← hew]
        repeat' (first | refine w1g ?_ | refine w1l ?_ | refine w1q ?_ | refine w1b ?_ | refine w1p ?_ | ((first | refine w1r ?_ | refine w1k ?_ | refine w1e ?_); (refine sy1 ?_; try exact True.intro)) | refine an2 ?_ | fail)
        refine ⟨w + 1, by omega, by omega, by rfl, ?_⟩
        rw [hes]
        (refine syE ?_; try exact True.intro)
  · have hwm : w = m.ws.length := by omega
    subst hwm
    clear hes h5 hwl hel hbl hz c15
    have hbd : bnD m f fr = dstC m false (rdC m f) fr := rfl
    have hbn : bnH m f fr to = mnL (bnD m f fr) (gi (bnD m f fr) to.toNat) m.n.toNat := rfl
    obtain ⟨k1, k2⟩ := edgC_ok hok false (c := rdC m f) (fun i hi => (rdC_rng hok f hi).1)
    have hDB : Dst (edgC m false (rdC m f)) fr.toNat m.n.toNat (bnD m f fr) := dst_dst k1 (by omega)
    have o57 := fo57 m f fr false 130 [] [.fp (cAt m f) 0, .fp [.fm 3 (gP (evA m f m.ws.length))] 0] (rdC m f) hok hpr.1 (fun i hi => (rdC_rng hok f hi).1) (fun i hi => (rdC_rng hok f hi).2) (fun i hi => fn130e m f hok i hi)
    rw [← hbd] at o57
    rw [hbn]
    generalize bnD m f fr = BD at *
    have c100 := fn100 m f (gP (evA m f m.ws.length))
    generalize evA m f m.ws.length = PS at *
    refine W_exit ?_
    (refine sy1 ?_; try exact True.intro)
    repeat (first | refine WK_go ?_ | refine W_seqL ?_ | refine W_seq ?_ | refine W_block ?_)
    refine W_le (le_frzM 14 [2, 3, 4, 8, 12, 13] [31, 2, 20, 23] 33 25 b 3 (gP PS) (by rfl) (by rfl) (by rfl) (by rfl)) ?_
    (refine sy1 ?_; try exact True.intro)
    repeat' (first | refine w1g ?_ | refine w1l ?_ | refine w1q ?_ | refine w1b ?_ | refine w1p ?_ | ((first | refine W_regS 5 (by decide) (by decide) ?_ | refine w1r ?_ | refine w1k ?_ | refine w1e ?_ | refine CallC.now (c100) ?_); (refine sy1 ?_; try exact True.intro)) | refine an2 ?_ | (refine CallC.inl (Inl_of_FnO o57 (by rfl) ?_); (refine sy1 ?_; try exact True.intro)) | fail)
    have hlB := hDB.len
    obtain ⟨N, hN⟩ : ∃ N : Nat, m.n = N := ⟨m.n.toNat, by omega⟩
    rw [hN, Int.toNat_natCast] at hlB hDB ⊢
    have hbt := hDB.le (y := to.toNat) (by omega)
    refine ⟨by omega, by omega, ?_⟩
    generalize hh : gi BD to.toNat = MT at *
    have hh2 : BD.getD to.toNat 0 = MT := hh
    rw [hh2]
    repeat' (first | refine w1g ?_ | refine w1l ?_ | refine w1q ?_ | refine w1b ?_ | refine w1p ?_ | ((first | refine w1r ?_ | refine w1k ?_ | refine w1e ?_); simp (maxSteps := 400000) (disch := omega) only [push_cast, ↓reduceIte, reduceCtorEq, Nat.reduceAdd, Nat.reduceSub, Nat.reduceEqDiff, Nat.reduceLeDiff, Nat.reduceLT, Nat.reduceBEq, Nat.reduceDiv, Nat.reduceMod, Nat.reducePow, Nat.reduceMul, Int.reduceToNat, Int.reduceLT, Int.reduceLE, hlB]) | refine an2 ?_ | fail)
    refine W_loopU (fun z : Nat => [(116, iv z)]) (fun z => [(38, .row 0 2 1 0 cI (mnL BD MT z))]) (fun z => z ≤ N) (fun z => N - z) 0 (by omega) (by rfl) (by simp only [mnL, List.take_zero, List.map_nil, List.drop_zero, List.nil_append]; rfl) (fun z hz => ?_)
    have hml := mnL_len BD MT z
    rw [hlB] at hml
    (refine sy1 ?_; try exact True.intro)
    repeat' (first | refine w1g ?_ | refine w1l ?_ | refine w1q ?_ | refine w1b ?_ | refine w1p ?_ | ((first | refine w1r ?_ | refine w1k ?_ | refine w1e ?_); (refine sy1 ?_; try exact True.intro)) | refine an2 ?_ | fail)
    refine W_condD (by rfl) (fun h6 => ?_) (fun h6 => ?_)
    · have hlt : z < N := by omega
      have hma := mnL_at (x := MT) (show z < BD.length by omega)
      have hms := mnL_set (x := MT) (show z < BD.length by omega)
      have hbz := hDB.le hlt
      repeat' (first | refine w1g ?_ | refine w1l ?_ | refine w1q ?_ | refine w1b ?_ | refine w1p ?_ | ((first | refine w1r ?_ | refine w1k ?_ | refine w1e ?_); simp (maxSteps := 400000) (disch := omega) only [push_cast, ↓reduceIte, reduceCtorEq, Nat.reduceAdd, Nat.reduceSub, Nat.reduceEqDiff, Nat.reduceLeDiff, Nat.reduceLT, Nat.reduceBEq, Nat.reduceDiv, Nat.reduceMod, Nat.reducePow, Nat.reduceMul, Int.reduceToNat, Int.reduceLT, Int.reduceLE, hml, hma]) | refine an2 ?_ | fail)
      refine ⟨rfl, ⟨Nat.le_of_ble_eq_true rfl, rfl⟩, by omega, min (BD.getD z 0) MT, rfl, rfl, ?_⟩
      rw [hms]
      (refine sy1 ?_; try exact True.intro)
      repeat' (first | refine w1g ?_ | refine w1l ?_ | refine w1q ?_ | refine w1b ?_ | refine w1p ?_ | ((first | refine w1r ?_ | refine w1k ?_ | refine w1e ?_); (refine sy1 ?_; try exact True.intro)) | refine an2 ?_ | fail)
      refine ⟨z + 1, by omega, by omega, by rfl, ?_⟩
      (refine syE ?_; try exact True.intro)
    · rw [show z = N by omega]
      repeat' (first | refine w1g ?_ | refine w1l ?_ | refine w1q ?_ | refine w1b ?_ | refine w1p ?_ | ((first | refine w1r ?_ | refine w1k ?_ | refine w1e ?_); (refine sy1 ?_; try exact True.intro)) | refine an2 ?_ | fail)
      refine W_ret ⟨[_, _], ⟨⟨by simp, rfl⟩, rfl, rfl⟩, ?_⟩
      simp (maxSteps := 400000) (disch := omega) only [push_cast, ↓reduceIte, reduceCtorEq, Nat.reduceAdd, Nat.reduceSub, Nat.reduceEqDiff, Nat.reduceLeDiff, Nat.reduceLT, Nat.reduceBEq, Nat.reduceDiv, Nat.reduceMod, Nat.reducePow, Nat.reduceMul, Int.reduceToNat, Int.reduceLT, Int.reduceLE, pack]
      try rfl
end Go.Proofs.Ytfbdlmenhoagmaa

namespace Go.Proofs.Ytfbdlmenhoagmaa
open Go Sy
set_option maxRecDepth 100000
set_option maxHeartbeats 8000000
set_option linter.unusedVariables false
set_option linter.unusedSimpArgs false
end Go.Proofs.Ytfbdlmenhoagmaa

namespace Go.Proofs.Ytfbdlmenhoagmaa
open Go Sy
set_option maxRecDepth 100000
set_option maxHeartbeats 4000000
set_option linter.unusedVariables false
set_option linter.unusedSimpArgs false
end Go.Proofs.Ytfbdlmenhoagmaa

namespace Go.Proofs.Ytfbdlmenhoagmaa
open Go Sy
set_option maxRecDepth 100000
set_option maxHeartbeats 4000000
set_option linter.unusedVariables false
set_option linter.unusedSimpArgs false
theorem ch_no {m : Mp} {f : Nat → Int} {fr to : Int} (h : chE m f fr to ≠ 0) : chV m f fr to = none := by
  unfold chE at h
  unfold chV
  by_cases h0 : opE m f = 0
  · rw [if_pos h0] at h ⊢
    by_cases hp : plB m.n fr = true ∧ plB m.n to = true
    · rw [if_pos hp] at h ⊢
      rcases hb : bestS m f fr to with _ | p
      · rfl
      · rw [hb] at h; exact absurd rfl h
    · rw [if_neg hp]
  · rw [if_neg h0]
structure ChYes (m : Mp) (f : Nat → Int) (fr to : Int) (s : List Int) (n : Int) : Prop where
  v : chV m f fr to = some (s, n)
  b : bestS m f fr to = some (s, n)
  ok : OkM m
  z : szE f = 0
  f : 0 ≤ fr ∧ fr < m.n
  t : 0 ≤ to ∧ to < m.n
theorem ch_yes {m : Mp} {f : Nat → Int} {fr to : Int} (h : chE m f fr to = 0) : ∃ s n, ChYes m f fr to s n := by
  unfold chE at h
  by_cases h0 : opE m f = 0
  · rw [if_pos h0] at h
    by_cases hp : plB m.n fr = true ∧ plB m.n to = true
    · rw [if_pos hp] at h
      rcases hb : bestS m f fr to with _ | ⟨s, n⟩
      · rw [hb] at h; cases h
      · have hc : chkM m = 0 ∧ szE f = 0 := by
          unfold opE at h0
          by_cases q : chkM m = 0
          · rw [if_pos q] at h0; exact ⟨q, h0⟩
          · rw [if_neg q] at h0; exact absurd h0 q
        have hpr := hp
        unfold plB at hpr
        simp only [Bool.and_eq_true, decide_eq_true_eq] at hpr
        exact ⟨s, n, by unfold chV; rw [if_pos h0, if_pos hp, hb], hb, chkM_ok hc.1, hc.2, hpr.1, hpr.2⟩
    · rw [if_neg hp] at h; cases h
  · rw [if_neg h0] at h; exact absurd h h0
theorem rcV_len (m : Mp) (f : Nat → Int) (s : List Int) (a : Int) : (rcV m f s a).length ≤ 64 := by
  unfold rcV
  by_cases q : rcE m f s a = 0
  · rw [if_pos q]
    unfold rcE at q
    by_cases h0 : opE m f = 0
    · have hc : chkM m = 0 := by
        unfold opE at h0
        by_cases q : chkM m = 0
        · exact q
        · rw [if_neg q] at h0; exact absurd h0 q
      have hn := (chkM_ok hc).n
      unfold rcL
      have := List.length_filter_le (rcP m f s a) (evL m.n.toNat)
      rw [ev_len] at this
      omega
    · rw [if_neg h0] at q; exact absurd q h0
  · rw [if_neg q]; simp
theorem bnH_len {m : Mp} (h : OkM m) (f : Nat → Int) (fr to : Int) (hf : 0 ≤ fr ∧ fr < m.n) : ((bnH m f fr to).length : Int) = m.n := by
  obtain ⟨k1, k2⟩ := edgC_ok h false (c := rdC m f) (fun i hi => (rdC_rng h f hi).1)
  have hDB : Dst (edgC m false (rdC m f)) fr.toNat m.n.toNat (bnD m f fr) := dst_dst k1 (by omega)
  unfold bnH
  rw [mnL_len, hDB.len]
  omega
theorem fn10 (m : Mp) (f : Nat → Int) (st pl : List Int) (fr to : Int) (h : Big m) (hl : st.length ≤ 140737488355328) (hl2 : pl.length ≤ 140737488355328) : Sy.Fn Try.prog 10 [aM m, .agg (c6 f), aI st, aI pl, iv fr, iv to] (bv true) := by
  refine Fn_of_W mixed Xt10 rfl ?_
  have c25 := fn25 m h.r h.w h.s
  by_cases hg : greatB m = false ∧ st.length ≤ 100 ∧ pl.length ≤ 100
  rotate_left
  · repeat' (first | refine w1g ?_ | refine w1l ?_ | refine w1q ?_ | refine w1b ?_ | refine w1p ?_ | ((first | refine w1r ?_ | refine w1k ?_ | refine w1e ?_ | refine CallC.now (c25) ?_); (refine sy1 ?_; try exact True.intro)) | refine an2 ?_ | fail)
    refine W_cond (by rfl) (fun _ => ?_) (fun hz => ?_)
    · repeat' (first | refine w1g ?_ | refine w1l ?_ | refine w1q ?_ | refine w1b ?_ | refine w1p ?_ | ((first | refine w1r ?_ | refine w1k ?_ | refine w1e ?_ | refine CallC.now (fn14) ?_); (refine sy1 ?_; try exact True.intro)) | refine an2 ?_ | fail)
      exact W_ret ⟨[_], ⟨rfl, rfl⟩, rfl⟩
    · rw [Bool.or_eq_false_iff, Bool.or_eq_false_iff, decide_eq_false_iff_not, decide_eq_false_iff_not] at hz
      exact absurd ⟨hz.1.1, by omega, by omega⟩ hg
  obtain ⟨h0, hs1, hr1⟩ := hg
  obtain ⟨hm, hlow⟩ := great_no h0
  rw [h0] at c25
  have d1 : decide ((100 : Int) < st.length) = false := decide_eq_false (by omega)
  have d2 : decide ((100 : Int) < pl.length) = false := decide_eq_false (by omega)
  have n3 : ∀ x : Int, (x == x) = true := fun x => by simp
  have n4 : ∀ x : Int, (x != x) = false := fun x => by simp
  have c15 := fn15 m f fr to hm
  have c40 := fn40 m f fr to hm
  have c39 := fn39 m f fr to hm
  have c41 := fn41 m f fr to hm
  have c24 := fn24 m f st fr hm (by omega)
  have c43 := fn43 m f st fr hm (by omega)
  have c23 := fn23 m f fr to pl hm (by omega)
  have c44 := fn44 m f fr to pl hm (by omega)
  have hrl := rcV_len m f st fr
  have c33r := fn33 (rcV m f st fr) (rcV m f st fr) (by omega) (by omega)
  have dRR : decide (rcV m f st fr = rcV m f st fr) = true := decide_eq_true rfl
  rw [dRR] at c33r
  generalize rcV m f st fr = RV at *
  generalize rcE m f st fr = RE at *
  generalize ctE m f fr to pl = CE at *
  by_cases hE : chE m f fr to = 0
  rotate_left
  · have hb : bnV m f fr to = [.v (.slice none 0 0), .v (.slice none 0 0)] := by unfold bnV; rw [if_neg hE]
    rw [ch_no hE] at c15 c40
    rw [hb] at c39 c41
    unfold rtC zRt at c15 c40
    have c33n : Sy.Fn Try.prog 33 [.v (.slice none 0 0), .v (.slice none 0 0)] (bv true) := Fn_nil (pre := []) (Fn_nil (pre := [aI []]) (fn33 [] [] (by simp) (by simp)))
    have c42n : Sy.Fn Try.prog 42 [.v (.slice none 0 0), .v (.slice none 0 0)] (bv true) := Fn_nil (pre := []) (Fn_nil (pre := [aI []]) (fn42 [] [] (by simp) (by simp)))
    generalize chE m f fr to = E at *
    repeat' (first | refine w1g ?_ | refine w1l ?_ | refine w1q ?_ | refine w1b ?_ | refine w1p ?_ | ((first | refine w1r ?_ | refine w1k ?_ | refine w1e ?_ | refine CallC.now (c25) ?_); simp (maxSteps := 400000) (disch := omega) only [push_cast, ↓reduceIte, reduceCtorEq, Nat.reduceAdd, Nat.reduceSub, Nat.reduceEqDiff, Nat.reduceLeDiff, Nat.reduceLT, Nat.reduceBEq, Nat.reduceDiv, Nat.reduceMod, Nat.reducePow, Nat.reduceMul, Int.reduceToNat, Int.reduceLT, Int.reduceLE, d1, d2]) | refine an2 ?_ | fail)
    refine W_cond (by rfl) (fun h => by simp at h) (fun _ => ?_)
    repeat' (first | refine w1g ?_ | refine w1l ?_ | refine w1q ?_ | refine w1b ?_ | refine w1p ?_ | ((first | refine w1r ?_ | refine w1k ?_ | refine w1e ?_ | refine CallC.now (c15) ?_); (refine sy1 ?_; try exact True.intro)) | refine an2 ?_ | fail)
    repeat' (first | refine w1g ?_ | refine w1l ?_ | refine w1q ?_ | refine w1b ?_ | refine w1p ?_ | ((first | refine w1r ?_ | refine w1k ?_ | refine w1e ?_ | refine CallC.now (c40) ?_); (refine sy1 ?_; try exact True.intro)) | refine an2 ?_ | fail)
    repeat' (first | refine w1g ?_ | refine w1l ?_ | refine w1q ?_ | refine w1b ?_ | refine w1p ?_ | ((first | refine w1r ?_ | refine w1k ?_ | refine w1e ?_ | refine CallC.go _ (fun _ => ⟨trivial, c33n⟩) rfl ?_); simp (maxSteps := 400000) (disch := omega) only [push_cast, ↓reduceIte, reduceCtorEq, Nat.reduceAdd, Nat.reduceSub, Nat.reduceEqDiff, Nat.reduceLeDiff, Nat.reduceLT, Nat.reduceBEq, Nat.reduceDiv, Nat.reduceMod, Nat.reducePow, Nat.reduceMul, Int.reduceToNat, Int.reduceLT, Int.reduceLE, n4, bne_self_eq_false]) | refine an2 ?_ | fail)
    refine W_cond (by rfl) (fun h => by cases h) (fun _ => ?_)
    repeat' (first | refine w1g ?_ | refine w1l ?_ | refine w1q ?_ | refine w1b ?_ | refine w1p ?_ | ((first | refine w1r ?_ | refine w1k ?_ | refine w1e ?_ | refine CallC.now (c39) ?_); (refine sy1 ?_; try exact True.intro)) | refine an2 ?_ | fail)
    repeat' (first | refine w1g ?_ | refine w1l ?_ | refine w1q ?_ | refine w1b ?_ | refine w1p ?_ | ((first | refine w1r ?_ | refine w1k ?_ | refine w1e ?_ | refine CallC.now (c41) ?_); (refine sy1 ?_; try exact True.intro)) | refine an2 ?_ | fail)
    repeat' (first | refine w1g ?_ | refine w1l ?_ | refine w1q ?_ | refine w1b ?_ | refine w1p ?_ | ((first | refine w1r ?_ | refine w1k ?_ | refine w1e ?_ | refine CallC.go _ (fun _ => ⟨trivial, c42n⟩) rfl ?_); simp (maxSteps := 400000) (disch := omega) only [push_cast, ↓reduceIte, reduceCtorEq, Nat.reduceAdd, Nat.reduceSub, Nat.reduceEqDiff, Nat.reduceLeDiff, Nat.reduceLT, Nat.reduceBEq, Nat.reduceDiv, Nat.reduceMod, Nat.reducePow, Nat.reduceMul, Int.reduceToNat, Int.reduceLT, Int.reduceLE, n4, bne_self_eq_false]) | refine an2 ?_ | fail)
    refine W_cond (by rfl) (fun h => by simp at h) (fun _ => ?_)
    repeat' (first | refine w1g ?_ | refine w1l ?_ | refine w1q ?_ | refine w1b ?_ | refine w1p ?_ | ((first | refine w1r ?_ | refine w1k ?_ | refine w1e ?_); (refine sy1 ?_; try exact True.intro)) | refine an2 ?_ | fail)
    refine W_loopU (fun z : Nat => [(19, iv z)]) (fun z => []) (fun z => z = 0) (fun z => 0) 0 rfl (by rfl) (by rfl) (fun z hz => ?_)
    (refine sy1 ?_; try exact True.intro)
    repeat' (first | refine w1g ?_ | refine w1l ?_ | refine w1q ?_ | refine w1b ?_ | refine w1p ?_ | ((first | refine w1r ?_ | refine w1k ?_ | refine w1e ?_); (refine sy1 ?_; try exact True.intro)) | refine an2 ?_ | fail)
    refine W_condD (by rfl) (fun h6 => absurd h6 (by omega)) (fun h6 => ?_)
    repeat' (first | refine w1g ?_ | refine w1l ?_ | refine w1q ?_ | refine w1b ?_ | refine w1p ?_ | ((first | refine w1r ?_ | refine w1k ?_ | refine w1e ?_ | refine CallC.now (c24) ?_); (refine sy1 ?_; try exact True.intro)) | refine an2 ?_ | fail)
    repeat' (first | refine w1g ?_ | refine w1l ?_ | refine w1q ?_ | refine w1b ?_ | refine w1p ?_ | ((first | refine w1r ?_ | refine w1k ?_ | refine w1e ?_ | refine CallC.now (c43) ?_); (refine sy1 ?_; try exact True.intro)) | refine an2 ?_ | fail)
    repeat' (first | refine w1g ?_ | refine w1l ?_ | refine w1q ?_ | refine w1b ?_ | refine w1p ?_ | ((first | refine w1r ?_ | refine w1k ?_ | refine w1e ?_ | refine CallC.now (c33r) ?_ | refine CallC.go _ (fun _ => ⟨trivial, c23⟩) rfl ?_ | refine CallC.go _ (fun _ => ⟨trivial, c44⟩) rfl ?_ | refine CallC.go _ (fun _ => ⟨trivial, fn14⟩) rfl ?_); simp (maxSteps := 400000) (disch := omega) only [push_cast, ↓reduceIte, reduceCtorEq, Nat.reduceAdd, Nat.reduceSub, Nat.reduceEqDiff, Nat.reduceLeDiff, Nat.reduceLT, Nat.reduceBEq, Nat.reduceDiv, Nat.reduceMod, Nat.reducePow, Nat.reduceMul, Int.reduceToNat, Int.reduceLT, Int.reduceLE, n3, dRR]) | refine an2 ?_ | fail)
    exact W_ret ⟨[_], ⟨rfl, rfl⟩, rfl⟩
  · obtain ⟨s, n, Y⟩ := ch_yes hE
    have hb : bnV m f fr to = cBd (evA m f m.ws.length) (bnH m f fr to) := by unfold bnV; rw [if_pos hE]
    rw [Y.v, hE] at c15 c40
    rw [hb, hE] at c39 c41
    have c15 : Sy.Fn Try.prog 15 [aM m, .agg (c6 f), iv fr, iv to] (.tup [.agg (cRt (wayS m f fr to s) s n (minL m (wayS m f fr to s))), iv 0]) := c15
    have c40 : Sy.Fn Try.prog 40 [aM m, .agg (c6 f), iv fr, iv to] (.tup [.agg (cRt (wayS m f fr to s) s n (minL m (wayS m f fr to s))), iv 0]) := c40
    unfold cRt at c15 c40
    unfold cBd at c39 c41
    obtain ⟨w1, w2, w3, w4, w5⟩ := best_way Y.ok Y.f Y.t Y.b
    have hsl := w1.len (by omega)
    have hnw := Y.ok.nw
    have hnr := Y.ok.nr
    have hBl := bnH_len Y.ok f fr to Y.f
    have hmn := Y.ok.n
    have hPl := Nat.le_trans (evA_len m f m.ws.length) (Nat.mul_le_mul (Nat.mul_le_mul (Nat.le_refl 6) hnr) hnw)
    have c33w := fn33 (wayS m f fr to s) (wayS m f fr to s) (by omega) (by omega)
    have c33s := fn33 s s (by omega) (by omega)
    have c42b := fn42 (bnH m f fr to) (bnH m f fr to) (by omega) (by omega)
    rw [decide_eq_true rfl] at c33w c33s c42b
    generalize wayS m f fr to s = WS at *
    generalize minL m WS = ML at *
    generalize bnH m f fr to = BH at *
    generalize evA m f m.ws.length = PS at *
    repeat' (first | refine w1g ?_ | refine w1l ?_ | refine w1q ?_ | refine w1b ?_ | refine w1p ?_ | ((first | refine w1r ?_ | refine w1k ?_ | refine w1e ?_ | refine CallC.now (c25) ?_); simp (maxSteps := 400000) (disch := omega) only [push_cast, ↓reduceIte, reduceCtorEq, Nat.reduceAdd, Nat.reduceSub, Nat.reduceEqDiff, Nat.reduceLeDiff, Nat.reduceLT, Nat.reduceBEq, Nat.reduceDiv, Nat.reduceMod, Nat.reducePow, Nat.reduceMul, Int.reduceToNat, Int.reduceLT, Int.reduceLE, d1, d2]) | refine an2 ?_ | fail)
    refine W_cond (by rfl) (fun h => by simp at h) (fun _ => ?_)
    repeat' (first | refine w1g ?_ | refine w1l ?_ | refine w1q ?_ | refine w1b ?_ | refine w1p ?_ | ((first | refine w1r ?_ | refine w1k ?_ | refine w1e ?_ | refine CallC.now (c15) ?_); (refine sy1 ?_; try exact True.intro)) | refine an2 ?_ | fail)
    repeat' (first | refine w1g ?_ | refine w1l ?_ | refine w1q ?_ | refine w1b ?_ | refine w1p ?_ | ((first | refine w1r ?_ | refine w1k ?_ | refine w1e ?_ | refine CallC.now (c40) ?_); (refine sy1 ?_; try exact True.intro)) | refine an2 ?_ | fail)
    repeat' (first | refine w1g ?_ | refine w1l ?_ | refine w1q ?_ | refine w1b ?_ | refine w1p ?_ | ((first | refine w1r ?_ | refine w1k ?_ | refine w1e ?_ | refine CallC.go _ (fun _ => ⟨trivial, c33w⟩) rfl ?_ | refine CallC.go _ (fun _ => ⟨trivial, c33s⟩) rfl ?_); simp (maxSteps := 400000) (disch := omega) only [push_cast, ↓reduceIte, reduceCtorEq, Nat.reduceAdd, Nat.reduceSub, Nat.reduceEqDiff, Nat.reduceLeDiff, Nat.reduceLT, Nat.reduceBEq, Nat.reduceDiv, Nat.reduceMod, Nat.reducePow, Nat.reduceMul, Int.reduceToNat, Int.reduceLT, Int.reduceLE, n4, bne_self_eq_false]) | refine an2 ?_ | fail)
    refine W_cond (by rfl) (fun h => by simp at h) (fun _ => ?_)
    repeat' (first | refine w1g ?_ | refine w1l ?_ | refine w1q ?_ | refine w1b ?_ | refine w1p ?_ | ((first | refine w1r ?_ | refine w1k ?_ | refine w1e ?_ | refine CallC.now (c39) ?_); (refine sy1 ?_; try exact True.intro)) | refine an2 ?_ | fail)
    repeat' (first | refine w1g ?_ | refine w1l ?_ | refine w1q ?_ | refine w1b ?_ | refine w1p ?_ | ((first | refine w1r ?_ | refine w1k ?_ | refine w1e ?_ | refine CallC.now (c41) ?_); (refine sy1 ?_; try exact True.intro)) | refine an2 ?_ | fail)
    repeat' (first | refine w1g ?_ | refine w1l ?_ | refine w1q ?_ | refine w1b ?_ | refine w1p ?_ | ((first | refine w1r ?_ | refine w1k ?_ | refine w1e ?_ | refine CallC.go _ (fun _ => ⟨trivial, c42b⟩) rfl ?_); simp (maxSteps := 400000) (disch := omega) only [push_cast, ↓reduceIte, reduceCtorEq, Nat.reduceAdd, Nat.reduceSub, Nat.reduceEqDiff, Nat.reduceLeDiff, Nat.reduceLT, Nat.reduceBEq, Nat.reduceDiv, Nat.reduceMod, Nat.reducePow, Nat.reduceMul, Int.reduceToNat, Int.reduceLT, Int.reduceLE, n4, bne_self_eq_false]) | refine an2 ?_ | fail)
    refine W_cond (by rfl) (fun h => by simp at h) (fun _ => ?_)
    repeat' (first | refine w1g ?_ | refine w1l ?_ | refine w1q ?_ | refine w1b ?_ | refine w1p ?_ | ((first | refine w1r ?_ | refine w1k ?_ | refine w1e ?_); (refine sy1 ?_; try exact True.intro)) | refine an2 ?_ | fail)
    refine W_loopU (fun z : Nat => [(19, iv z)]) (fun z => []) (fun z => z ≤ PS.length) (fun z => PS.length - z) 0 (by omega) (by rfl) (by rfl) (fun z hz => ?_)
    (refine sy1 ?_; try exact True.intro)
    repeat' (first | refine w1g ?_ | refine w1l ?_ | refine w1q ?_ | refine w1b ?_ | refine w1p ?_ | ((first | refine w1r ?_ | refine w1k ?_ | refine w1e ?_); (refine sy1 ?_; try exact True.intro)) | refine an2 ?_ | fail)
    refine W_condD (by rfl) (fun h6 => ?_) (fun h6 => ?_)
    · obtain ⟨⟨x1, x2, x3, x4⟩, hX⟩ : ∃ X, PS.getD z dP = X := ⟨_, rfl⟩
      repeat' (first | refine w1g ?_ | refine w1l ?_ | refine w1q ?_ | refine w1b ?_ | refine w1p ?_ | ((first | refine w1r ?_ | refine w1k ?_ | refine w1e ?_); simp (maxSteps := 400000) (disch := omega) only [push_cast, ↓reduceIte, reduceCtorEq, Nat.reduceAdd, Nat.reduceSub, Nat.reduceEqDiff, Nat.reduceLeDiff, Nat.reduceLT, Nat.reduceBEq, Nat.reduceDiv, Nat.reduceMod, Nat.reducePow, Nat.reduceMul, Int.reduceToNat, Int.reduceLT, Int.reduceLE, hX, cP, n3]) | refine an2 ?_ | fail)
      refine W_cond (by rfl) (fun h => by simp at h) (fun _ => ?_)
      repeat' (first | refine w1g ?_ | refine w1l ?_ | refine w1q ?_ | refine w1b ?_ | refine w1p ?_ | ((first | refine w1r ?_ | refine w1k ?_ | refine w1e ?_); (refine sy1 ?_; try exact True.intro)) | refine an2 ?_ | fail)
      refine ⟨z + 1, by omega, by omega, by rfl, ?_⟩
      (refine syE ?_; try exact True.intro)
    · repeat' (first | refine w1g ?_ | refine w1l ?_ | refine w1q ?_ | refine w1b ?_ | refine w1p ?_ | ((first | refine w1r ?_ | refine w1k ?_ | refine w1e ?_ | refine CallC.now (c24) ?_); (refine sy1 ?_; try exact True.intro)) | refine an2 ?_ | fail)
      repeat' (first | refine w1g ?_ | refine w1l ?_ | refine w1q ?_ | refine w1b ?_ | refine w1p ?_ | ((first | refine w1r ?_ | refine w1k ?_ | refine w1e ?_ | refine CallC.now (c43) ?_); (refine sy1 ?_; try exact True.intro)) | refine an2 ?_ | fail)
      repeat' (first | refine w1g ?_ | refine w1l ?_ | refine w1q ?_ | refine w1b ?_ | refine w1p ?_ | ((first | refine w1r ?_ | refine w1k ?_ | refine w1e ?_ | refine CallC.now (c33r) ?_ | refine CallC.go _ (fun _ => ⟨trivial, c23⟩) rfl ?_ | refine CallC.go _ (fun _ => ⟨trivial, c44⟩) rfl ?_ | refine CallC.go _ (fun _ => ⟨trivial, fn14⟩) rfl ?_); simp (maxSteps := 400000) (disch := omega) only [push_cast, ↓reduceIte, reduceCtorEq, Nat.reduceAdd, Nat.reduceSub, Nat.reduceEqDiff, Nat.reduceLeDiff, Nat.reduceLT, Nat.reduceBEq, Nat.reduceDiv, Nat.reduceMod, Nat.reducePow, Nat.reduceMul, Int.reduceToNat, Int.reduceLT, Int.reduceLE, n3, dRR]) | refine an2 ?_ | fail)
      exact W_ret ⟨[_], ⟨rfl, rfl⟩, rfl⟩
end Go.Proofs.Ytfbdlmenhoagmaa

namespace Go.Proofs.Ytfbdlmenhoagmaa
open Go Sy Go.ChangeShapes Go.WideShapes Go.RowKit
set_option maxRecDepth 100000
set_option linter.unusedVariables false
theorem own : ownKnob Try.prog.godebug = none := by kernel_rfl
theorem laidOut : laidOutB Try.prog = true := by kernel_rfl
theorem walk10 (W : World) (v0 v1 v2 v3 v4 v5 : Value) (m : Mp) (f : Nat → Int) (st : List Int) (pl : List Int) (fr : Int) (to : Int) (h0 : fsat (inW W) W (aM m) v0) (h1 : fsat (inW W) W (.agg (c6 f)) v1) (h2 : fsat (inW W) W (aI st) v2) (h3 : fsat (inW W) W (aI pl) v3) (h4 : fsat (inW W) W (iv fr) v4) (h5 : fsat (inW W) W (iv to) v5) (om : OM m) (of : ∀ k, k < 6 → I64 (f k)) (ost : st.length * 8 ≤ 140737488351232) (opl : pl.length * 8 ≤ 140737488351232) (ofr : I64 fr) (oto : I64 to) :
    Calls Try.prog 10 #[v0, v1, v2, v3, v4, v5] W fun e w' => e = .returned (.bool true) ∧ Below W.heap.size W w' := by
  have hf : Sy.Fn Try.prog 10 [aM m, .agg (c6 f), aI st, aI pl, iv fr, iv to] (bv true) := fn10 m f st pl fr to om.big (by omega) (by omega)
  refine (hf.2 (inW W) W [v0, v1, v2, v3, v4, v5] (fun b hb => hb) ?_).mono ?_
  · simp only [fsatT]
    exact ⟨v0, _, rfl, h0, v1, _, rfl, h1, v2, _, rfl, h2, v3, _, rfl, h3, v4, _, rfl, h4, v5, _, rfl, h5, rfl⟩
  · rintro e w' ⟨v, rfl, hb, hv⟩
    simp only [fsat] at hv
    exact ⟨by rw [hv], hb⟩
theorem lifted10 (os : Os) (started : os.Started) (H : Type) (enc : TypeId × Value → H) :
    ReturnsInHanded {} Try.checked os 10 .any (Rows.roadCheapestSpec.pre6 enc Try.prog Try.f10 Rows.roadCheapestRow.domain false) (Rows.roadCheapestSpec.post enc Try.prog Try.f10 false true false false) := by
  refine returnsInHanded_of_change_sized (C := Try.checked) own started (by kernel_rfl) Try.func10
    (ChangeSpec.witness6 (enc := enc) (C := Try.checked) false ⟨#[], #[.agg #[.int .i64 0, .slice none 0 0, .slice none 0 0], .agg #[.int .i64 0, .int .i64 0, .int .i64 0, .int .i64 0, .int .i64 0, .int .i64 0], .slice none 0 0, .slice none 0 0, .int .i64 0, .int .i64 0], []⟩ 8 (by kernel_rfl) (by kernel_rfl) (by kernel_rfl) (by kernel_rfl)) ?_
  intro W base args ds gs before hval0 hW hcnd hsz _
  have hval : ∀ (j : Nat) t v, Try.f10.params[j]? = some t → args[j]? = some v → Value.okWide Try.prog W .any base t v := hval0
  have hW' := hW
  obtain ⟨p, q, hA0, hV, rfl, hfz, hnd⟩ := hW
  have hA : DataW.TrodAll enc Try.prog W 0 (fun _ => true) true Try.f10.params.toList args.toList ds p := hA0
  rw [Try.params10] at hA hval
  obtain ⟨v0, vs0, d0, ds0, p0, q0, hargs, rfl, rfl, h0, r0⟩ := trodAll_cons hA
  obtain ⟨v1, vs1, d1, ds1, p1, q1, rfl, rfl, rfl, h1, r1⟩ := trodAll_cons r0
  obtain ⟨v2, vs2, d2, ds2, p2, q2, rfl, rfl, rfl, h2, r2⟩ := trodAll_cons r1
  obtain ⟨v3, vs3, d3, ds3, p3, q3, rfl, rfl, rfl, h3, r3⟩ := trodAll_cons r2
  obtain ⟨v4, vs4, d4, ds4, p4, q4, rfl, rfl, rfl, h4, r4⟩ := trodAll_cons r3
  obtain ⟨v5, vs5, d5, ds5, p5, q5, rfl, rfl, rfl, h5, r5⟩ := trodAll_cons r4
  obtain ⟨rfl, rfl, rfl⟩ := trodAll_nil r5
  obtain rfl : args = #[v0, v1, v2, v3, v4, v5] := by cases args; simp_all
  obtain ⟨rfl, rfl⟩ := trodVars_none hV
  have hs : ∀ (j : Nat) t (d : DataW H), [25, 26, 27, 27, 3, 3][j]? = some t → [d0, d1, d2, d3, d4, d5][j]? = some d → ∀ n ∈ d.weights Try.prog t, n ≤ reachBytes := fun j t d ht hd n hn => by
    have hall := List.all_eq_true.1 hsz n (DataW.weights_mem_each (j := j) (t := t) (d := d) (by rw [Try.params10]; simpa using (List.getElem?_append_left (l₂ := _) (by have := (List.getElem?_eq_some_iff.1 ht).1; simpa using this)).trans ht) (by simpa using (List.getElem?_append_left (l₂ := _) (by have := (List.getElem?_eq_some_iff.1 hd).1; simpa using this)).trans hd) n hn)
    simpa using hall
  have lt0 : ∀ x ∈ p0, x.block < W.heap.size := by obtain ⟨m, hm⟩ := h0; exact DataW.trod_lt m _ _ _ hm
  have lt1 : ∀ x ∈ p1, x.block < W.heap.size := by obtain ⟨m, hm⟩ := h1; exact DataW.trod_lt m _ _ _ hm
  have lt2 : ∀ x ∈ p2, x.block < W.heap.size := by obtain ⟨m, hm⟩ := h2; exact DataW.trod_lt m _ _ _ hm
  have lt3 : ∀ x ∈ p3, x.block < W.heap.size := by obtain ⟨m, hm⟩ := h3; exact DataW.trod_lt m _ _ _ hm
  have lt4 : ∀ x ∈ p4, x.block < W.heap.size := by obtain ⟨m, hm⟩ := h4; exact DataW.trod_lt m _ _ _ hm
  have lt5 : ∀ x ∈ p5, x.block < W.heap.size := by obtain ⟨m, hm⟩ := h5; exact DataW.trod_lt m _ _ _ hm
  obtain ⟨m, om, s0⟩ := k25.arg (by kernel_rfl) (hval 0 25 v0 rfl rfl) h0 (hs 0 25 d0 rfl rfl)
  obtain ⟨f, of, s1⟩ := k26.arg (by kernel_rfl) (hval 1 26 v1 rfl rfl) h1 (hs 1 26 d1 rfl rfl)
  obtain ⟨st, ost, s2⟩ := k27.arg1 (by kernel_rfl) (hval 2 27 v2 rfl rfl) h2 (hs 2 27 d2 rfl rfl)
  obtain ⟨pl, opl, s3⟩ := k27.arg1 (by kernel_rfl) (hval 3 27 v3 rfl rfl) h3 (hs 3 27 d3 rfl rfl)
  obtain ⟨fr, ofr, s4⟩ := k3.arg1 (by kernel_rfl) (hval 4 3 v4 rfl rfl) h4 (hs 4 3 d4 rfl rfl)
  obtain ⟨to, oto, s5⟩ := k3.arg1 (by kernel_rfl) (hval 5 3 v5 rfl rfl) h5 (hs 5 3 d5 rfl rfl)
  clear hA0 hval0
  refine (walk10 W v0 v1 v2 v3 v4 v5 m f st pl fr to s0 s1 s2 s3 s4 s5 om of ost opl ofr oto).mono fun e W' ⟨he, bel⟩ => ?_
  subst he
  exact ⟨_, rfl, _, _, _, [], _, [], hW', trodAll_mk1 (shut_bool Try.underlying4 _), (trodAll_cons_mk (Below.trod laidOut (by kernel_rfl) (of_decide_eq_true (by kernel_rfl)) h0 bel lt0) (trodAll_cons_mk (Below.trod laidOut (by kernel_rfl) (of_decide_eq_true (by kernel_rfl)) h1 bel lt1) (trodAll_cons_mk (Below.trod laidOut (by kernel_rfl) (of_decide_eq_true (by kernel_rfl)) h2 bel lt2) (trodAll_cons_mk (Below.trod laidOut (by kernel_rfl) (of_decide_eq_true (by kernel_rfl)) h3 bel lt3) (trodAll_cons_mk (Below.trod laidOut (by kernel_rfl) (of_decide_eq_true (by kernel_rfl)) h4 bel lt4) (trodAll_cons_mk (Below.trod laidOut (by kernel_rfl) (of_decide_eq_true (by kernel_rfl)) h5 bel lt5) trodAll_mk0)))))), rfl, bel.frame _, fun h => by cases h⟩
theorem over10 : Rows.roadCheapestRow.holds Try.pinned (OpenSpec.ofChange Rows.roadCheapestSpec) :=
  OpenClaim.holds_of_wide 10 Try.f10 rfl rfl rfl rfl rfl rfl rfl ⟨rfl, rfl, rfl, rfl, rfl⟩ rfl rfl rfl rfl rfl (by kernel_rfl) Try.func10 (by kernel_rfl)
    (of_decide_eq_true (by kernel_rfl)) (by unfold Func.isWrapper; first | (rw [if_pos (by decide +kernel)]; kernel_rfl) | (rw [if_neg (by decide +kernel)]; exact ⟨rfl, rfl⟩))
    (fun os started H enc _ => lifted10 os started H enc)
theorem road_cheapest_holds : Rows.RoadCheapestSaid := over10
end Go.Proofs.Ytfbdlmenhoagmaa

