/- Part 8 of the proof of: TopBounded: for every input the law returns true -/
import Derived.Test.YtcfomfajpmlleaaGreatP7
namespace Go.Proofs.YtcfomfajpmlleaaGreat.R
open Go Sy
set_option maxRecDepth 100000
set_option maxHeartbeats 4000000
set_option linter.unusedVariables false
set_option linter.unusedSimpArgs false
theorem fn111 (x : Int) : Sy.Fn Tryz.prog 111 [iv x] (bv (!inR x 0 1073741824)) := by
  refine Fn_of_W mixed Xt111 rfl ?_
  (refine go_c (fun x1 x2 x3 => fn50 x1 x2 x3) ?_; try exact True.intro)
  exact W_ret ⟨[_], ⟨rfl, rfl⟩, rfl⟩
def li6 (f : Nat → Int) : List Int := [f 0, f 1, f 2, f 3, f 4, f 5]
theorem any6 (f : Nat → Int) : (List.any (li6 f) fun x => !inR x 0 1073741824) = !szB f := by
  unfold szB li6
  simp [List.range_succ, List.any_cons, List.all_append]
def szE (f : Nat → Int) : Int := if szB f = true then 0 else 2
theorem fn65 (f : Nat → Int) : Sy.Fn Tryz.prog 65 [.agg (c6 f)] (iv (szE f)) := by
  refine Fn_of_W mixed Xt65 rfl ?_
  have c48 := fn48 (li6 f) (Nat.le_of_ble_eq_true rfl) 111 [] [] (fun x => !inR x 0 1073741824) (fun x _ => fn111 x)
  rw [any6] at c48
  (refine go0 ?_; try exact True.intro)
  refine ⟨Int, 0, cI, li6 f, fun _ => ⟨trivial, rfl, by omega, fun x _ => rfl, rfl⟩, ?_⟩
  (refine sy1 ?_; try exact True.intro)
  (refine go_c c48 ?_; try exact True.intro)
  unfold szE
  cases szB f
  · refine W_cond (by rfl) (fun _ => ?_) (fun h => by cases h)
    (refine go0 ?_; try exact True.intro)
    exact W_ret ⟨[_], ⟨rfl, rfl⟩, rfl⟩
  · refine W_cond (by rfl) (fun h => by cases h) (fun _ => ?_)
    (refine go0 ?_; try exact True.intro)
    exact W_ret ⟨[_], ⟨rfl, rfl⟩, rfl⟩
structure Gm (m : Mp) : Prop where
  r : m.rs.length ≤ 300
  w : m.ws.length ≤ 20
  s : ∀ w ∈ m.ws, w.rs.length ≤ 40
theorem fn74 (w : Wrk) : Sy.Fn Tryz.prog 74 [.agg (cW w)] (bv (decide (16 < w.rs.length))) := by
  refine Fn_of_W mixed Xt74 rfl ?_
  have e : decide ((16 : Int) < (w.rs.length : Int)) = decide (16 < w.rs.length) := by
    rw [Bool.eq_iff_iff, decide_eq_true_eq, decide_eq_true_eq]; omega
  rw [← e]
  (refine go0 ?_; try exact True.intro)
  exact W_ret ⟨[_], ⟨rfl, rfl⟩, rfl⟩
theorem fn75 (m : Mp) (x : Int) : Sy.Fn Tryz.prog 75 [iv x, .fp (cM m) 0] (bv (plB m.n x)) := by
  refine Fn_of_W mixed Xt75 rfl ?_
  (refine go0 ?_; try exact True.intro)
  exact W_ret ⟨[_], ⟨rfl, rfl⟩, rfl⟩
theorem hrs_wrap (r : Rd) : (decide (0 ≤ r.o) && decide (r.o < r.z) && decide (r.z ≤ 1440) && inR r.m 1 (min 1440 (IntKind.i64.wrap (r.z - r.o)))) = hrsB r := by
  unfold hrsB
  by_cases h : 0 ≤ r.o ∧ r.o < r.z ∧ r.z ≤ 1440
  · rw [wrap64 (by omega)]
  · have e : (decide (0 ≤ r.o) && decide (r.o < r.z) && decide (r.z ≤ 1440)) = false := by
      rw [← Bool.not_eq_true]
      simp only [Bool.and_eq_true, decide_eq_true_eq]
      omega
    rw [e]; rfl
theorem fn76 (m : Mp) (r : Rd) : Sy.Fn Tryz.prog 76 [.agg (cR r), .fp [.clo 75 [] [.fp (cM m) 0]] 0] (bv (!roadB m.n r)) := by
  refine Fn_of_W mixed Xt76 rfl ?_
  (refine go_cg (fun x1 x2 x3 => fn50 x1 x2 x3) (fun x1 x2 x3 => fn50 x1 x2 x3) ?_; try exact True.intro)
  rw [hrs_wrap]
  repeat' (first | refine w1g ?_ | refine w1l ?_ | refine w1q ?_ | refine w1b ?_ | refine w1p ?_ | ((first | refine w1r ?_ | refine w1k ?_ | refine w1e ?_ | refine CallC.now (fn75 _ _) ?_ | refine CallC.go _ (fun _ => ⟨trivial, fn75 _ _⟩) rfl ?_ | refine CallC.go _ (fun _ => ⟨trivial, fn50 _ _ _⟩) rfl ?_ | refine CallC.go _ (fun _ => ⟨trivial, fn65 _⟩) rfl ?_); (refine sy1 ?_; try exact True.intro)) | refine an2 ?_ | fail)
  refine W_ret ⟨[_], ⟨rfl, rfl⟩, ?_⟩
  have e : roadB m.n r = (plB m.n r.f && plB m.n r.t && !(r.f == r.t) && inR r.c 1 1073741824 && hrsB r && szB r.lim) := rfl
  rw [e]
  unfold szE
  generalize plB m.n r.f = b1
  generalize plB m.n r.t = b2
  generalize (r.f == r.t) = b3
  generalize inR r.c 1 1073741824 = b4
  generalize hrsB r = b5
  generalize szB r.lim = b6
  cases b1 <;> cases b2 <;> cases b3 <;> cases b4 <;> cases b5 <;> cases b6 <;> rfl
theorem workB_neg (n : Int) (w : Wrk) : ((w.rs.length : Int) == 0 || !setB w.rs n || decide (w.k < 0) || decide (5 < w.k) || !inR w.l 0 1073741824 || !inR w.c 1 1073741824) = !workB n w := by
  have e : workB n w = (decide (0 < w.rs.length) && setB w.rs n && decide (0 ≤ w.k) && decide (w.k ≤ 5) && inR w.l 0 1073741824 && inR w.c 1 1073741824) := rfl
  rw [e, Bool.eq_iff_iff]
  generalize setB w.rs n = b1
  generalize inR w.l 0 1073741824 = b2
  generalize inR w.c 1 1073741824 = b3
  simp only [Bool.or_eq_true, Bool.not_eq_true', Bool.and_eq_false_iff, decide_eq_true_eq, decide_eq_false_iff_not, beq_iff_eq]
  cases b1 <;> cases b2 <;> cases b3 <;> simp only [true_or, or_true, false_or, or_false, reduceCtorEq] <;> omega
theorem fn77 (m : Mp) (w : Wrk) (hl : w.rs.length ≤ 1000000) : Sy.Fn Tryz.prog 77 [.agg (cW w), .fp (cM m) 0] (bv (!workB m.rs.length w)) := by
  refine Fn_of_W mixed Xt77 rfl ?_
  repeat' (first | refine w1g ?_ | refine w1l ?_ | refine w1q ?_ | refine w1b ?_ | refine w1p ?_ | ((first | refine w1r ?_ | refine w1k ?_ | refine w1e ?_ | refine CallC.go _ (fun _ => ⟨trivial, fn43 _ _ (by omega)⟩) rfl ?_ | refine CallC.go _ (fun _ => ⟨trivial, fn50 _ _ _⟩) rfl ?_); (refine sy1 ?_; try exact True.intro)) | refine an2 ?_ | fail)
  rw [workB_neg]
  exact W_ret ⟨[_], ⟨rfl, rfl⟩, rfl⟩
theorem manyB_eq {m : Mp} (hr : decide ((256 : Int) < (m.rs.length : Int)) = decide (256 < m.rs.length)) : manyB m = (decide ((256 : Int) < (m.rs.length : Int)) || decide ((10 : Int) < (m.ws.length : Int)) || m.ws.any fun w => decide (16 < w.rs.length)) := by
  unfold manyB
  rw [hr]
  congr 2
  rw [Bool.eq_iff_iff, decide_eq_true_eq, decide_eq_true_eq]; omega
theorem fn38 (m : Mp) (h : Gm m) : Sy.Fn Tryz.prog 38 [aM m] (iv (chkM m)) := by
  refine Fn_of_W mixed Xt38 rfl ?_
  have h1 := h.r
  have h2 := h.w
  have c81a := fn73 m.ws (by omega) 74 [] [] (fun w => decide (16 < w.rs.length)) (fun w _ => fn74 w)
  have c81b := fn73 m.ws (by omega) 77 [] [.fp (cM m) 0] (fun w => !workB m.rs.length w) (fun w hw => fn77 m w (by have := h.s w hw; omega))
  have c78 := fn78 m.rs (by omega) 76 [] [.fp [.clo 75 [] [.fp (cM m) 0]] 0] (fun r => !roadB m.n r) (fun r _ => fn76 m r)
  (refine go_g c81a ?_; try exact True.intro)
  have e1 := manyB_eq (m := m) (by rw [Bool.eq_iff_iff, decide_eq_true_eq, decide_eq_true_eq]; omega)
  rw [← e1]
  refine W_cond (by rfl) (fun hb => ?_) (fun hb => ?_)
  · have e : chkM m = 6 := by unfold chkM; rw [if_pos hb]
    rw [e]
    (refine go0 ?_; try exact True.intro)
    exact W_ret ⟨[_], ⟨rfl, rfl⟩, rfl⟩
  have hmn : ¬ manyB m = true := by rw [hb]; decide
  (refine go_gg c78 c81b ?_; try exact True.intro)
  have e2 : ((decide (m.n < 1) || decide (64 < m.n) || m.rs.any fun r => !roadB m.n r) || m.ws.any fun w => !workB (m.rs.length : Int) w) = badM m := rfl
  rw [e2]
  refine W_cond (by rfl) (fun hb => ?_) (fun hb => ?_)
  · have e : chkM m = 2 := by unfold chkM; rw [if_neg hmn, if_pos hb]
    rw [e]
    (refine go0 ?_; try exact True.intro)
    exact W_ret ⟨[_], ⟨rfl, rfl⟩, rfl⟩
  · have e : chkM m = 0 := by unfold chkM; rw [if_neg hmn, if_neg (by rw [hb]; decide)]
    rw [e]
    (refine go0 ?_; try exact True.intro)
    exact W_ret ⟨[_], ⟨rfl, rfl⟩, rfl⟩
end Go.Proofs.YtcfomfajpmlleaaGreat.R

namespace Go.Proofs.YtcfomfajpmlleaaGreat.R
open Go Sy
set_option maxRecDepth 100000
set_option maxHeartbeats 4000000
set_option linter.unusedVariables false
set_option linter.unusedSimpArgs false
end Go.Proofs.YtcfomfajpmlleaaGreat.R

namespace Go.Proofs.YtcfomfajpmlleaaGreat.R
open Go Sy
set_option maxRecDepth 100000
set_option maxHeartbeats 4000000
set_option linter.unusedVariables false
set_option linter.unusedSimpArgs false
def cAt (m : Mp) (f : Nat → Int) : List AV := [iv m.n, aR m.rs, aW m.ws, iv (f 0), iv (f 1), iv (f 2), iv (f 3), iv (f 4), iv (f 5)]
theorem nAt0 (m : Mp) (f : Nat → Int) : nth (cAt m f) 0 = iv m.n := rfl
theorem nAt1 (m : Mp) (f : Nat → Int) : nth (cAt m f) 1 = aR m.rs := rfl
theorem nAt2 (m : Mp) (f : Nat → Int) : nth (cAt m f) 2 = aW m.ws := rfl
theorem lAt (m : Mp) (f : Nat → Int) : (cAt m f).length = 9 := rfl
theorem frAt (m : Mp) (f : Nat → Int) : frzAll (cAt m f) = true := rfl
theorem tAt3 (m : Mp) (f : Nat → Int) : List.take 3 (cAt m f) = cM m := rfl
theorem tAt30 (m : Mp) (f : Nat → Int) : List.take 3 (List.drop 0 (cAt m f)) = cM m := rfl
theorem tAt6 (m : Mp) (f : Nat → Int) : List.take 6 (List.drop 3 (cAt m f)) = c6 f := rfl
theorem tAt9 (m : Mp) (f : Nat → Int) : List.take 9 (cAt m f) = cAt m f := rfl
theorem tAt90 (m : Mp) (f : Nat → Int) : List.take 9 (List.drop 0 (cAt m f)) = cAt m f := rfl
theorem iAt {g : Nat → Option Blk} {n : Nat} (m : Mp) (f : Nat → Int) : List.flatMap (ids g n) (cAt m f) = [] := flat_frz n _ (frAt m f)
theorem vAt {g : Nat → Option Blk} {n : Nat} (m : Mp) (f : Nat → Int) : List.map (view g n) (cAt m f) = cAt m f := viewL_frz n _ (frAt m f)
theorem mkAt (m : Mp) (f : Nat → Int) : cM m ++ c6 f = cAt m f := rfl
attribute [push_cast] nAt0 nAt1 nAt2 lAt frAt tAt3 tAt30 tAt6 tAt9 tAt90 iAt vAt mkAt
abbrev aAt (m : Mp) (f : Nat → Int) : AV := .agg (cAt m f)
def zAt : List AV := [iv 0, .v (.slice none 0 0), .v (.slice none 0 0), iv 0, iv 0, iv 0, iv 0, iv 0, iv 0]
def opE (m : Mp) (f : Nat → Int) : Int := if chkM m = 0 then szE f else chkM m
def opV (m : Mp) (f : Nat → Int) : List AV := if chkM m = 0 then cAt m f else zAt
theorem fn24 (m : Mp) (f : Nat → Int) (h : Gm m) : Sy.Fn Tryz.prog 24 [aM m, .agg (c6 f)] (.tup [.agg (opV m f), iv (opE m f)]) := by
  refine Fn_of_W mixed Xt24 rfl ?_
  unfold opE opV
  (refine go_c (fn38 m h) ?_; try exact True.intro)
  refine W_cond (by rfl) (fun hb => ?_) (fun hb => ?_)
  · rw [bne_iff_ne] at hb
    rw [if_neg hb, if_neg hb]
    (refine go0 ?_; try exact True.intro)
    exact W_ret ⟨[_, _], ⟨⟨by simp, rfl⟩, rfl, rfl⟩, rfl⟩
  · rw [bne_eq_false_iff_eq] at hb
    rw [if_pos hb, if_pos hb]
    (refine go_c (fn65 f) ?_; try exact True.intro)
    refine ⟨rfl, ?_⟩
    exact W_ret ⟨[_, _], ⟨⟨⟨trivial, Nat.le_of_ble_eq_true rfl⟩, rfl⟩, rfl, rfl⟩, rfl⟩
theorem fn67 (m : Mp) (x : Int) : Sy.Fn Tryz.prog 67 [iv x, .fp (cM m) 0] (bv (!plB m.n x)) := by
  refine Fn_of_W mixed Xt67 rfl ?_
  have e : (decide (x < 0) || decide (m.n ≤ x)) = !plB m.n x := by
    unfold plB
    rw [Bool.eq_iff_iff]
    simp only [Bool.or_eq_true, Bool.not_eq_true', Bool.and_eq_false_iff, decide_eq_true_eq, decide_eq_false_iff_not]
    omega
  rw [← e]
  (refine go0 ?_; try exact True.intro)
  exact W_ret ⟨[_], ⟨rfl, rfl⟩, rfl⟩
def plsB (m : Mp) (l : List Int) : Bool := !(l.any fun x => !plB m.n x)
theorem fn25 (m : Mp) (l : List Int) (hl : l.length ≤ 1000000) : Sy.Fn Tryz.prog 25 [aM m, aI l] (iv (if plsB m l = true then 0 else 3)) := by
  refine Fn_of_W mixed Xt25 rfl ?_
  have c66 := fn66 l hl 67 [] [.fp (cM m) 0] (fun x => !plB m.n x) (fun x _ => fn67 m x)
  unfold plsB
  (refine go_c c66 ?_; try exact True.intro)
  cases l.any fun x => !plB m.n x
  · refine W_cond (by rfl) (fun h => by cases h) (fun _ => ?_)
    (refine go0 ?_; try exact True.intro)
    exact W_ret ⟨[_], ⟨rfl, rfl⟩, rfl⟩
  · refine W_cond (by rfl) (fun _ => ?_) (fun h => by cases h)
    (refine go0 ?_; try exact True.intro)
    exact W_ret ⟨[_], ⟨rfl, rfl⟩, rfl⟩
theorem fn79 (m : Mp) (x : Int) : Sy.Fn Tryz.prog 79 [iv x, .fp (cM m) 0] (bv (!plB m.rs.length x)) := by
  refine Fn_of_W mixed Xt79 rfl ?_
  have e : (decide (x < 0) || decide ((m.rs.length : Int) ≤ x)) = !plB m.rs.length x := by
    unfold plB
    rw [Bool.eq_iff_iff]
    simp only [Bool.or_eq_true, Bool.not_eq_true', Bool.and_eq_false_iff, decide_eq_true_eq, decide_eq_false_iff_not]
    omega
  rw [← e]
  (refine go0 ?_; try exact True.intro)
  exact W_ret ⟨[_], ⟨rfl, rfl⟩, rfl⟩
def rdE (m : Mp) (l : List Int) : Int := if 256 < l.length then 6 else if (l.any fun x => !plB m.rs.length x) = true then 3 else 0
theorem fn39 (m : Mp) (l : List Int) (hl : l.length ≤ 1000000) : Sy.Fn Tryz.prog 39 [aM m, aI l] (iv (rdE m l)) := by
  refine Fn_of_W mixed Xt39 rfl ?_
  have c66 := fn66 l hl 79 [] [.fp (cM m) 0] (fun x => !plB m.rs.length x) (fun x _ => fn79 m x)
  unfold rdE
  (refine go0 ?_; try exact True.intro)
  refine W_condD (by rfl) (fun h => ?_) (fun h => ?_)
  · rw [if_pos (by omega)]
    (refine go0 ?_; try exact True.intro)
    exact W_ret ⟨[_], ⟨rfl, rfl⟩, rfl⟩
  rw [if_neg (by omega)]
  (refine go_c c66 ?_; try exact True.intro)
  cases l.any fun x => !plB m.rs.length x
  · refine W_cond (by rfl) (fun h => by cases h) (fun _ => ?_)
    (refine go0 ?_; try exact True.intro)
    exact W_ret ⟨[_], ⟨rfl, rfl⟩, rfl⟩
  · refine W_cond (by rfl) (fun _ => ?_) (fun h => by cases h)
    (refine go0 ?_; try exact True.intro)
    exact W_ret ⟨[_], ⟨rfl, rfl⟩, rfl⟩
def greatB (m : Mp) : Bool := decide (300 < m.rs.length) || decide (20 < m.ws.length) || (m.ws.any fun w => decide (40 < w.rs.length)) || (chkM m == 0 && (decide (12 < m.n) || decide (30 < m.rs.length) || decide (5 < m.ws.length)))
end Go.Proofs.YtcfomfajpmlleaaGreat.R

namespace Go.Proofs.YtcfomfajpmlleaaGreat.R
open Go Sy
set_option maxRecDepth 100000
set_option maxHeartbeats 4000000
set_option linter.unusedVariables false
set_option linter.unusedSimpArgs false
theorem fn33 (s : Nat) : Sy.Fn Tryz.prog 33 [uv s] (.clo 72 [] [.fp [uv s] 0]) := by
  refine Fn_of_W mixed Xt33 rfl ?_
  (refine go0 ?_; try exact True.intro)
  exact W_ret ⟨[_], ⟨rfl, rfl⟩, rfl⟩
theorem shrS (s : Nat) {i : Nat} (hi : i ≤ 64) : (s : Int).fdiv (2 ^ min i IntKind.u64.bits) = ((s / 2 ^ i : Nat) : Int) := by
  have e : min i IntKind.u64.bits = i := Nat.min_eq_left hi
  rw [e, Int.fdiv_eq_ediv_of_nonneg _ (Int.pow_nonneg (by omega))]
  rw [Int.natCast_ediv, Int.natCast_pow]
  rfl
theorem andS (x : Nat) (hx : x < 18446744073709551616) : bits .and .u64 (x : Int) 1 = ((x % 2 : Nat) : Int) := by
  have h := bits_and_u64_nat x 1 hx (by omega)
  rw [Nat.and_one_is_mod] at h
  exact h
theorem div_lt64 {s : Nat} (h : s < 1024) (i : Nat) : s / 2 ^ i < 18446744073709551616 := by
  have := Nat.div_le_self s (2 ^ i)
  omega
theorem pre_mem {l : List Int} {i : Nat} {x : Int} (h : x ∈ pre l i) : x ∈ l := by
  unfold pre at h
  exact (List.mem_filter.1 h).1
structure SetW (m : Mp) (l : List Int) (s : Nat) : Prop where
  b : BitsOf s l
  s : Srt m.ws.length 0 l
theorem fn31 (m : Mp) (f : Nat → Int) (l : List Int) (s : Nat) (h : OkM m) (hs : SetW m l s) : Sy.Fn Tryz.prog 31 [aAt m f, uv s] (iv (costL m l)) := by
  refine Fn_of_W mixed Xt31 rfl ?_
  have hw := h.nw
  have hlt := bits_lt hs.b (fun x hx => (hs.s.mem x hx).2)
  (refine go_c (fn33 s) ?_; try exact True.intro)
  refine W_rfn (.inl rfl) (fun lp R hR => Inl_of_W mixed Xt72 rfl (fun vs => ?_))
  (refine sy1 ?_; try exact True.intro)
  (refine go0 ?_; try exact True.intro)
  refine W_loopU (fun i : Nat => [(3, iv i)]) (fun i => [(2, .cells [iv (costL m (pre l i))])]) (fun i => i ≤ 10) (fun i => 11 - i) 0 (by omega) (by rfl) (by rw [pre_zero hs.s]; rfl) (fun i hi => ?_)
  have hs1 : s < 1024 := by
    have := bits_lt (n := 10) hs.b (fun x hx => by have := (hs.s.mem x hx).2; omega)
    simpa using this
  obtain ⟨q, hq⟩ : ∃ q, q = s / 2 ^ i := ⟨_, rfl⟩
  have e1 := shrS s (i := i) (by omega)
  have e2 := andS (s / 2 ^ i) (div_lt64 hs1 i)
  rw [bits_shr hs.b i] at e2
  rw [← hq] at e1 e2
  have e4 := pre_succ (i := i) hs.s
  (refine sy1 ?_; try exact True.intro)
  (refine gof e1 ?_; try exact True.intro)
  refine W_cond (by rfl) (fun hb => ?_) (fun hb => ?_)
  · have hi10 : i < 10 := bits_more hs.b (by rw [← hq]; intro z; rw [z] at hb; simp at hb) (fun x hx => by have := (hs.s.mem x hx).2; omega)
    by_cases hm : (i : Int) ∈ l
    · rw [if_pos hm] at e2 e4
      have e2 : bits .and .u64 (q : Int) 1 = 1 := e2
      have hir := hs.s.mem _ hm
      have ec : costL m (pre l (i + 1)) = costL m (pre l i) + (gw m i).c := by rw [e4, costL_snoc]; rfl
      have hcr := costL_rng h (l := pre l i) (fun x hx => hs.s.mem x (pre_mem hx))
      have hlen : (pre l i).length ≤ 10 := by
        have h1 := hs.s.len (by omega)
        have h2 := List.length_filter_le (fun x => decide (x < (i : Int))) l
        unfold pre
        omega
      have hwc := (workB_ok (h.w i (by omega))).c
      have hgw : m.ws.getD i dW = gw m i := rfl
      generalize costL m (pre l i) = C at *
      (refine gof (ad2 e1 e2) ?_; try exact True.intro)
      refine StopC.yld (fun hpc => ⟨trivial, Yl_of_W (k := 6) mixed hR rfl rfl rfl (fun vs2 => ?_)⟩) (fun hpc => absurd (by simp [Sy.pc]) hpc)
      (refine sy1 ?_; try exact True.intro)
      (refine go0 ?_; try exact True.intro)
      refine ⟨_, rfl, ?_⟩
      (refine sy1 ?_; try exact True.intro)
      (refine gof hgw ?_; try exact True.intro)
      refine ⟨_, _, rfl, rfl, ?_⟩
      (refine sy1 ?_; try exact True.intro)
      (refine go0 ?_; try exact True.intro)
      refine W_cond (by rfl) (fun h => by cases h) (fun _ => ?_)
      (refine go0 ?_; try exact True.intro)
      refine ⟨i + 1, by omega, by omega, by rfl, ?_⟩
      rw [ec]
      (refine syE ?_; try exact True.intro)
    · rw [if_neg hm] at e2 e4
      have e2 : bits .and .u64 (q : Int) 1 = 0 := e2
      have z01 : ((0 : Int) == 1) = false := rfl
      (refine gof (ad3 e1 e2 z01) ?_; try exact True.intro)
      refine StopC.yld (fun hpc => absurd hpc (by simp [Sy.pc])) (fun hpc => ?_)
      (refine sy1 ?_; try exact True.intro)
      (refine go0 ?_; try exact True.intro)
      refine W_cond (by rfl) (fun h => by cases h) (fun _ => ?_)
      (refine go0 ?_; try exact True.intro)
      refine ⟨i + 1, by omega, by omega, by rfl, ?_⟩
      rw [e4, List.append_nil]
      (refine syE ?_; try exact True.intro)
  · have hq0 : s / 2 ^ i = 0 := by
      rw [← hq]
      have := bne_eq_false_iff_eq.1 hb
      omega
    have hall := pre_all (bits_end hs.b (fun x hx => (hs.s.mem x hx).1) hq0)
    rw [hall]
    (refine go0 ?_; try exact True.intro)
    refine ⟨_, _, rfl, rfl, ⟨_, _, rfl, by rw [hR.st]; simp, ?_⟩⟩
    rw [hR.pe]
    (refine syN ?_; try exact True.intro)
    (refine go0 ?_; try exact True.intro)
    exact W_ret ⟨[_], ⟨rfl, rfl⟩, rfl⟩
theorem fn89 (m : Mp) (f : Nat → Int) (l : List Int) (s : Nat) (road k : Nat) (h : OkM m) (hs : SetW m l s) (hr : road < m.rs.length) (hk : k < 6) : Sy.Fn Tryz.prog 89 [aAt m f, uv s, iv road, iv k] (iv (limL m l road k)) := by
  refine Fn_of_W mixed Xt89 rfl ?_
  have hw := h.nw
  have hs1 : s < 1024 := by
    have := bits_lt (n := 10) hs.b (fun x hx => by have := (hs.s.mem x hx).2; omega)
    simpa using this
  have hlim : nth (cR (gr m road)) (6 + k) = iv ((gr m road).lim k) := by
    rcases k with _ | _ | _ | _ | _ | _ | k <;> first | rfl | omega
  have hgr : m.rs.getD road dR = gr m road := rfl
  repeat' (first | refine w1g ?_ | refine w1l ?_ | refine w1q ?_ | refine w1b ?_ | refine w1p ?_ | ((first | refine w1r ?_ | refine w1k ?_ | refine w1e ?_ | refine CallC.now (fn33 s) ?_); simp (maxSteps := 400000) (disch := omega) only [push_cast, ↓reduceIte, reduceCtorEq, Nat.reduceAdd, Nat.reduceSub, Nat.reduceEqDiff, Nat.reduceLeDiff, Nat.reduceLT, Nat.reduceBEq, Nat.reduceDiv, Nat.reduceMod, Nat.reducePow, Nat.reduceMul, Int.reduceToNat, Int.reduceLT, Int.reduceLE, hgr, hlim, Nat.mul_one, Nat.add_assoc]) | refine an2 ?_ | fail)
  refine W_rfn (.inl rfl) (fun lp R hR => Inl_of_W mixed Xt72 rfl (fun vs => ?_))
  (refine sy1 ?_; try exact True.intro)
  (refine go0 ?_; try exact True.intro)
  refine W_loopU (fun i : Nat => [(3, iv i)]) (fun i => [(13, .cells [iv (limL m (pre l i) road k)])]) (fun i => i ≤ 10) (fun i => 11 - i) 0 (by omega) (by rfl) (by rw [pre_zero hs.s]; rfl) (fun i hi => ?_)
  obtain ⟨q, hq⟩ : ∃ q, q = s / 2 ^ i := ⟨_, rfl⟩
  have e1 := shrS s (i := i) (by omega)
  have e2 := andS (s / 2 ^ i) (div_lt64 hs1 i)
  rw [bits_shr hs.b i] at e2
  rw [← hq] at e1 e2
  have e4 := pre_succ (i := i) hs.s
  (refine sy1 ?_; try exact True.intro)
  (refine gof e1 ?_; try exact True.intro)
  refine W_cond (by rfl) (fun hb => ?_) (fun hb => ?_)
  · have hi10 : i < 10 := bits_more hs.b (by rw [← hq]; intro z; rw [z] at hb; simp at hb) (fun x hx => by have := (hs.s.mem x hx).2; omega)
    by_cases hm : (i : Int) ∈ l
    · rw [if_pos hm] at e2 e4
      have e2 : bits .and .u64 (q : Int) 1 = 1 := e2
      have hir := hs.s.mem _ hm
      have ec : limL m (pre l (i + 1)) road k = limS m road k (limL m (pre l i) road k) i := by rw [e4, limL_snoc]
      have es : ∀ n : Int, limS m road k n i = if (gw m i).k = k ∧ (road : Int) ∈ (gw m i).rs then max n (gw m i).l else n := fun _ => rfl
      have hgw : m.ws.getD i dW = gw m i := rfl
      have hwl := h.s i (by omega)
      have c81 := fn81 (gw m i).rs (road : Int) (by omega)
      rw [es] at ec
      generalize limL m (pre l i) road k = C at *
      generalize gw m i = w at *
      (refine gof (ad2 e1 e2) ?_; try exact True.intro)
      refine StopC.yld (fun hpc => ⟨trivial, Yl_of_W (k := 17) mixed hR rfl rfl rfl (fun vs2 => ?_)⟩) (fun hpc => absurd (by simp [Sy.pc]) hpc)
      (refine sy1 ?_; try exact True.intro)
      (refine go0 ?_; try exact True.intro)
      refine ⟨_, rfl, ?_⟩
      (refine sy1 ?_; try exact True.intro)
      (refine gofg hgw c81 ?_; try exact True.intro)
      refine W_cond (by rfl) (fun hz => ?_) (fun hz => ?_)
      · rw [Bool.and_eq_true, beq_iff_eq, decide_eq_true_eq] at hz
        rw [if_pos hz] at ec
        (refine go0 ?_; try exact True.intro)
        refine ⟨_, _, rfl, rfl, ?_⟩
        (refine sy1 ?_; try exact True.intro)
        (refine go0 ?_; try exact True.intro)
        refine W_cond (by rfl) (fun h => by cases h) (fun _ => ?_)
        (refine go0 ?_; try exact True.intro)
        refine ⟨i + 1, by omega, by omega, by rfl, ?_⟩
        rw [ec]
        (refine syE ?_; try exact True.intro)
      · have hz : ¬ (w.k = k ∧ (road : Int) ∈ w.rs) := by
          rintro ⟨z1, z2⟩
          rw [z1, decide_eq_true z2] at hz
          simp at hz
        rw [if_neg hz] at ec
        (refine go0 ?_; try exact True.intro)
        refine ⟨_, _, rfl, rfl, ?_⟩
        (refine sy1 ?_; try exact True.intro)
        (refine go0 ?_; try exact True.intro)
        refine W_cond (by rfl) (fun h => by cases h) (fun _ => ?_)
        (refine go0 ?_; try exact True.intro)
        refine ⟨i + 1, by omega, by omega, by rfl, ?_⟩
        rw [ec]
        (refine syE ?_; try exact True.intro)
    · rw [if_neg hm] at e2 e4
      have e2 : bits .and .u64 (q : Int) 1 = 0 := e2
      have z01 : ((0 : Int) == 1) = false := rfl
      (refine gof (ad3 e1 e2 z01) ?_; try exact True.intro)
      refine StopC.yld (fun hpc => absurd hpc (by simp [Sy.pc])) (fun hpc => ?_)
      (refine sy1 ?_; try exact True.intro)
      (refine go0 ?_; try exact True.intro)
      refine W_cond (by rfl) (fun h => by cases h) (fun _ => ?_)
      (refine go0 ?_; try exact True.intro)
      refine ⟨i + 1, by omega, by omega, by rfl, ?_⟩
      rw [e4, List.append_nil]
      (refine syE ?_; try exact True.intro)
  · have hq0 : s / 2 ^ i = 0 := by
      rw [← hq]
      have := bne_eq_false_iff_eq.1 hb
      omega
    have hall := pre_all (bits_end hs.b (fun x hx => (hs.s.mem x hx).1) hq0)
    rw [hall]
    (refine go0 ?_; try exact True.intro)
    refine ⟨_, _, rfl, rfl, ⟨_, _, rfl, by rw [hR.st]; simp, ?_⟩⟩
    rw [hR.pe]
    (refine syN ?_; try exact True.intro)
    (refine go0 ?_; try exact True.intro)
    exact W_ret ⟨[_], ⟨rfl, rfl⟩, rfl⟩
end Go.Proofs.YtcfomfajpmlleaaGreat.R

namespace Go.Proofs.YtcfomfajpmlleaaGreat.R
open Go Sy
set_option maxRecDepth 100000
set_option maxHeartbeats 4000000
set_option linter.unusedVariables false
set_option linter.unusedSimpArgs false
theorem fn52 (m : Mp) (f : Nat → Int) (s : Nat) (road : Int) : Sy.Fn Tryz.prog 52 [aAt m f, uv s, iv road] (.clo 88 [] [.fp (cAt m f) 0, .fp [uv s] 0, .fp [iv road] 0]) := by
  refine Fn_of_W mixed Xt52 rfl ?_
  (refine go0 ?_; try exact True.intro)
  exact W_ret ⟨[_], ⟨rfl, rfl⟩, rfl⟩
theorem fn36 (m : Mp) (f : Nat → Int) (l : List Int) (s : Nat) (road : Nat) (h : OkM m) (hs : SetW m l s) (hr : road < m.rs.length) : Sy.Fn Tryz.prog 36 [aAt m f, uv s, iv road] (bv (usB m f l road)) := by
  refine Fn_of_W mixed Xt36 rfl ?_
  (refine go_c (fn52 m f s road) ?_; try exact True.intro)
  refine W_rfn (.inl rfl) (fun lp R hR => Inl_of_W mixed Xt88 rfl (fun vs => ?_))
  (refine sy1 ?_; try exact True.intro)
  (refine go0 ?_; try exact True.intro)
  refine W_loopU (fun k : Nat => [(10, iv k)]) (fun k => []) (fun k => k ≤ 6 ∧ ∀ j, j < k → f j ≤ limL m l road j) (fun k => 6 - k) 0 ⟨by omega, fun j hj => by omega⟩ (by rfl) (by rfl) (fun k hk => ?_)
  obtain ⟨hk, hall⟩ := hk
  (refine sy1 ?_; try exact True.intro)
  (refine go0 ?_; try exact True.intro)
  refine W_condD (by rfl) (fun h5 => ?_) (fun h5 => ?_)
  · have hk6 : k < 6 := by omega
    have c89 := fn89 m f l s road k h hs hr hk6
    have us : limL m l road k < f k → usB m f l road = false := fun q => by
      rw [← Bool.not_eq_true]
      intro z
      have := usN_iff.1 z k hk6
      omega
    obtain ⟨n, hnl⟩ : ∃ n, n = limL m l road k := ⟨_, rfl⟩
    rw [← hnl] at c89 us
    by_cases q : n < f k
    · have qb : decide (n < f k) = true := decide_eq_true q
      (refine gofc (ad3 Nat.mul_one Nat.zero_add qb) c89 ?_; try exact True.intro)
      refine StopC.yld (fun hpc => ⟨trivial, Yl_of_W (k := 6) mixed hR rfl rfl rfl (fun vs2 => ?_)⟩) (fun hpc => absurd (by simp [Sy.pc]) hpc)
      refine W_skip ?_
      refine ⟨_, rfl, ?_⟩
      (refine sy1 ?_; try exact True.intro)
      (refine go0 ?_; try exact True.intro)
      refine W_ret ?_
      refine ⟨_, _, rfl, rfl, ?_⟩
      (refine sy1 ?_; try exact True.intro)
      (refine go0 ?_; try exact True.intro)
      refine W_cond (by rfl) (fun _ => ?_) (fun h => by cases h)
      (refine go0 ?_; try exact True.intro)
      refine W_ret ?_
      refine ⟨_, _, rfl, rfl, ⟨_, _, rfl, by simp [doneL], ?_⟩⟩
      rw [us q]
      simp (maxSteps := 400000) (disch := omega) only [push_cast, ↓reduceIte, reduceCtorEq, Nat.reduceAdd, Nat.reduceSub, Nat.reduceEqDiff, Nat.reduceLeDiff, Nat.reduceLT, Nat.reduceBEq, Nat.reduceDiv, Nat.reduceMod, Nat.reducePow, Nat.reduceMul, Int.reduceToNat, Int.reduceLT, Int.reduceLE, doneL, EndP]
      exact ⟨[_], ⟨⟨by simp, rfl⟩, rfl⟩, rfl⟩
    · have qb : decide (n < f k) = false := decide_eq_false q
      (refine gofc (ad3 Nat.mul_one Nat.zero_add qb) c89 ?_; try exact True.intro)
      refine StopC.yld (fun hpc => absurd hpc (by simp [Sy.pc])) (fun hpc => ?_)
      (refine sy1 ?_; try exact True.intro)
      (refine go0 ?_; try exact True.intro)
      refine W_cond (by rfl) (fun h => by cases h) (fun _ => ?_)
      (refine go0 ?_; try exact True.intro)
      refine ⟨k + 1, ⟨by omega, up_all hall (by rw [← hnl]; omega)⟩, by omega, by rfl, ?_⟩
      (refine syE ?_; try exact True.intro)
  · have e : usB m f l road = true := usN_iff.2 (fun j hj => hall j (by omega))
    rw [e]
    (refine go0 ?_; try exact True.intro)
    refine ⟨_, _, rfl, rfl, ⟨_, _, rfl, by rw [hR.st]; simp, ?_⟩⟩
    rw [hR.pe]
    (refine syN ?_; try exact True.intro)
    (refine go0 ?_; try exact True.intro)
    exact W_ret ⟨[_], ⟨⟨by simp, rfl⟩, rfl⟩, rfl⟩
theorem fn30 (m : Mp) (f : Nat → Int) (s : Nat) : Sy.Fn Tryz.prog 30 [aAt m f, uv s] (.clo 70 [] [.fp (cAt m f) 0, .fp [uv s] 0]) := by
  refine Fn_of_W mixed Xt30 rfl ?_
  (refine go0 ?_; try exact True.intro)
  exact W_ret ⟨[_], ⟨rfl, rfl⟩, rfl⟩
theorem fn70 (m : Mp) (f : Nat → Int) (l : List Int) (s : Nat) (road : Nat) (h : OkM m) (hs : SetW m l s) (hr : road < m.rs.length) : Sy.Fn Tryz.prog 70 [iv road, .fp (cAt m f) 0, .fp [uv s] 0] (iv (edB m (usB m f l) road).c) := by
  refine Fn_of_W mixed Xt70 rfl ?_
  have hgr : m.rs.getD road dR = gr m road := rfl
  have e : (edB m (usB m f l) road).c = if usB m f l road = true then (gr m road).c else -1 := rfl
  rw [e]
  (refine go_c (fn36 m f l s road h hs hr) ?_; try exact True.intro)
  cases usB m f l road
  · refine W_cond (by rfl) (fun _ => ?_) (fun h => by cases h)
    (refine go0 ?_; try exact True.intro)
    exact W_ret ⟨[_], ⟨rfl, rfl⟩, rfl⟩
  · refine W_cond (by rfl) (fun h => by cases h) (fun _ => ?_)
    (refine gof hgr ?_; try exact True.intro)
    exact W_ret ⟨[_], ⟨rfl, rfl⟩, rfl⟩
end Go.Proofs.YtcfomfajpmlleaaGreat.R

namespace Go.Proofs.YtcfomfajpmlleaaGreat.R
open Go Sy
set_option maxRecDepth 100000
set_option maxHeartbeats 4000000
set_option linter.unusedVariables false
set_option linter.unusedSimpArgs false
def tbl (n : Nat) (g : Nat → Int) : List Int := (List.range n).map g
theorem tbl_len (n : Nat) (g : Nat → Int) : (tbl n g).length = n := by simp [tbl]
theorem tbl_at {n j : Nat} (g : Nat → Int) (h : j < n) : (tbl n g).getD j 0 = g j := by simp [tbl, List.getD, h]
theorem tbl_congr {n : Nat} {g h : Nat → Int} (hh : ∀ i, i < n → g i = h i) : tbl n g = tbl n h := List.map_congr_left (fun i hi => hh i (List.mem_range.1 hi))
theorem tbl_set {n j : Nat} {g h : Nat → Int} {v : Int} (hj : h j = v) (hh : ∀ i, i < n → i ≠ j → g i = h i) : (tbl n g).set j v = tbl n h := by
  apply List.ext_getElem (by rw [List.length_set, tbl_len, tbl_len])
  intro i h1 h2
  rw [tbl_len] at h2
  rw [List.getElem_set]
  split
  · rename_i q; subst q; rw [← hj]; simp [tbl]
  · rename_i q
    simp only [tbl, List.getElem_map, List.getElem_range]
    exact hh i h2 (fun e => q e.symm)
theorem tbl_rep (n : Nat) (v : Int) : tbl n (fun _ => v) = List.replicate n v := by
  unfold tbl
  rw [List.eq_replicate_iff]
  refine ⟨by simp, fun b hb => ?_⟩
  obtain ⟨i, _, rfl⟩ := List.mem_map.1 hb
  rfl
def upT (g : Nat → Int) (j i : Nat) : Int := if i < j then g i else 0
theorem upT_zero (g : Nat → Int) (n : Nat) : tbl n (upT g 0) = List.replicate n 0 := by
  rw [← tbl_rep]
  exact tbl_congr (fun i _ => by unfold upT; rw [if_neg (by omega)])
theorem upT_set (g : Nat → Int) {j n : Nat} : (tbl n (upT g j)).set j (g j) = tbl n (upT g (j + 1)) := tbl_set (by unfold upT; rw [if_pos (by omega)]) (fun i _ hi => by
  unfold upT
  by_cases r : i < j
  · rw [if_pos r, if_pos (by omega)]
  · rw [if_neg r, if_neg (by omega)])
theorem upT_all (g : Nat → Int) (n : Nat) : tbl n (upT g n) = tbl n g := tbl_congr (fun i hi => by unfold upT; rw [if_pos hi])
def edC (m : Mp) (bk : Bool) (c : Nat → Int) (i : Nat) : Edg := if bk = true then ⟨(gr m i).t.toNat, (gr m i).f.toNat, c i⟩ else ⟨(gr m i).f.toNat, (gr m i).t.toNat, c i⟩
def edgC (m : Mp) (bk : Bool) (c : Nat → Int) : List Edg := (List.range m.rs.length).map (edC m bk c)
theorem edgC_ok {m : Mp} (h : OkM m) (bk : Bool) {c : Nat → Int} (hc : ∀ i, i < m.rs.length → 0 ≤ c i → 1 ≤ c i) : (∀ e ∈ edgC m bk c, e.x < m.n.toNat ∧ e.y < m.n.toNat) ∧ ∀ e ∈ edgC m bk c, 0 ≤ e.c → 1 ≤ e.c := by
  constructor
  · intro e he
    obtain ⟨i, hi, rfl⟩ := List.mem_map.1 he
    have hr := roadB_ok (h.r i (List.mem_range.1 hi))
    have := hr.f
    have := hr.t
    unfold edC
    split
    · constructor
      · show (gr m i).t.toNat < _; omega
      · show (gr m i).f.toNat < _; omega
    · constructor
      · show (gr m i).f.toNat < _; omega
      · show (gr m i).t.toNat < _; omega
  · intro e he h0
    obtain ⟨i, hi, rfl⟩ := List.mem_map.1 he
    have hi := List.mem_range.1 hi
    have e : (edC m bk c i).c = c i := by unfold edC; split <;> rfl
    rw [e] at h0 ⊢
    exact hc i hi h0
theorem take_edC {m : Mp} {bk : Bool} {c : Nat → Int} {i : Nat} (h : i < m.rs.length) : (edgC m bk c).take (i + 1) = (edgC m bk c).take i ++ [edC m bk c i] := by
  rw [List.take_succ_eq_append_getElem (by simp [edgC]; exact h)]
  simp [edgC]
theorem pas_snoc (o : List Int) (es : List Edg) (e : Edg) : pas o (es ++ [e]) = stp (pas o es) e := by
  unfold pas
  rw [List.foldl_append]; rfl
def dstC (m : Mp) (bk : Bool) (c : Nat → Int) (a : Int) : List Int := dst (edgC m bk c) m.n.toNat a.toNat
theorem w29 (m : Mp) (f : Nat → Int) (a : Int) (bk : Bool) (g : Nat) (fi ca : List AV) (c : Nat → Int) (h : OkM m) (ha : 0 ≤ a ∧ a < m.n) (hc : ∀ i, i < m.rs.length → 0 ≤ c i → 1 ≤ c i) (hcb : ∀ i, i < m.rs.length → -1099511627776 ≤ c i ∧ c i ≤ 1099511627776)
    (hg : ∀ i, i < m.rs.length → Sy.Fn Tryz.prog g (fi ++ [iv (i : Nat)] ++ ca) (iv (c i))) : W Tryz.prog 102 Xn29_0 (init [aAt m f, iv a, bv bk, .clo g fi ca]) (FinO [.t 8] 2 1 0 cI (dstC m bk c a)) := by
  have hn := h.n
  have hnr := h.nr
  obtain ⟨n, hnn⟩ : ∃ n : Nat, m.n = n := ⟨m.n.toNat, by omega⟩
  (refine gof hnn ?_; try exact True.intro)
  refine ⟨rfl, ⟨by omega, by omega, by omega⟩, Int, 0, cI, 0, rfl, rfl, by omega, rfl, ?_⟩
  (refine syf Int.toNat_natCast ?_; try exact True.intro)
  repeat' (first | refine w1g ?_ | refine w1l ?_ | refine w1q ?_ | refine w1b ?_ | refine w1p ?_ | ((first | refine w1r ?_ | refine w1k ?_ | refine w1e ?_); simp (maxSteps := 400000) (disch := omega) only [push_cast, ↓reduceIte, reduceCtorEq, Nat.reduceAdd, Nat.reduceSub, Nat.reduceEqDiff, Nat.reduceLeDiff, Nat.reduceLT, Nat.reduceBEq, Nat.reduceDiv, Nat.reduceMod, Nat.reducePow, Nat.reduceMul, Int.reduceToNat, Int.reduceLT, Int.reduceLE, List.length_replicate]) | refine an2 ?_ | fail)
  refine W_loopU (fun j : Nat => [(25, iv j)]) (fun j => [(5, .row 0 2 1 0 cI (tbl n (upT (fun _ => far) j)))]) (fun j => j ≤ n) (fun j => n - j) 0 (by omega) (by rfl) (by rw [upT_zero]; rfl) (fun j hj => ?_)
  have tl := tbl_len n (upT (fun _ => far) j)
  (refine sy1 ?_; try exact True.intro)
  (refine go0 ?_; try exact True.intro)
  refine W_condD (by rfl) (fun h5 => ?_) (fun h5 => ?_)
  · have e3 := upT_set (fun _ => far) (j := j) (n := n)
    (refine gof tl ?_; try exact True.intro)
    refine ⟨rfl, ⟨Nat.le_of_ble_eq_true rfl, rfl⟩, by omega, far, rfl, rfl, ?_⟩
    rw [e3]
    (refine sy1 ?_; try exact True.intro)
    (refine go0 ?_; try exact True.intro)
    refine ⟨j + 1, by omega, by omega, by rfl, ?_⟩
    (refine syE ?_; try exact True.intro)
  have hjn : j = n := by omega
  subst hjn
  have ea : (a.toNat : Int) = a := by omega
  have ei : (tbl j (upT (fun _ => far) j)).set a.toNat 0 = ini j a.toNat := by rw [upT_all, tbl_rep]; rfl
  (refine gof tl ?_; try exact True.intro)
  refine ⟨rfl, ⟨Nat.le_of_ble_eq_true rfl, rfl⟩, by omega, 0, rfl, rfl, ?_⟩
  rw [ei]
  (refine sy1 ?_; try exact True.intro)
  (refine go0 ?_; try exact True.intro)
  refine ⟨rfl, ⟨by omega, by omega, by omega⟩, Int, 0, cI, 0, rfl, rfl, by omega, rfl, ?_⟩
  (refine syf Int.toNat_natCast ?_; try exact True.intro)
  repeat' (first | refine w1g ?_ | refine w1l ?_ | refine w1q ?_ | refine w1b ?_ | refine w1p ?_ | ((first | refine w1r ?_ | refine w1k ?_ | refine w1e ?_); simp (maxSteps := 400000) (disch := omega) only [push_cast, ↓reduceIte, reduceCtorEq, Nat.reduceAdd, Nat.reduceSub, Nat.reduceEqDiff, Nat.reduceLeDiff, Nat.reduceLT, Nat.reduceBEq, Nat.reduceDiv, Nat.reduceMod, Nat.reducePow, Nat.reduceMul, Int.reduceToNat, Int.reduceLT, Int.reduceLE, List.length_replicate]) | refine an2 ?_ | fail)
  refine W_loopU (fun i : Nat => [(42, iv i)]) (fun i => [(19, .row 0 2 1 0 cI (tbl m.rs.length (upT c i)))]) (fun i => i ≤ m.rs.length) (fun i => m.rs.length - i) 0 (by omega) (by rfl) (by rw [upT_zero]; rfl) (fun i hi => ?_)
  have tc := tbl_len m.rs.length (upT c i)
  (refine sy1 ?_; try exact True.intro)
  (refine go0 ?_; try exact True.intro)
  refine W_condD (by rfl) (fun h6 => ?_) (fun h6 => ?_)
  · have hlt : i < m.rs.length := by omega
    have e3 := upT_set c (j := i) (n := m.rs.length)
    have cg := hg i hlt
    (refine gofc tc cg ?_; try exact True.intro)
    refine ⟨rfl, ⟨Nat.le_of_ble_eq_true rfl, rfl⟩, by omega, c i, rfl, rfl, ?_⟩
    rw [e3]
    (refine sy1 ?_; try exact True.intro)
    (refine go0 ?_; try exact True.intro)
    refine ⟨i + 1, by omega, by omega, by rfl, ?_⟩
    (refine syE ?_; try exact True.intro)
  have hin : i = m.rs.length := by omega
  rw [hin, upT_all]
  clear tc tl ei h5 hj h6 hi
  obtain ⟨es, hes⟩ : ∃ es, es = edgC m bk c := ⟨_, rfl⟩
  obtain ⟨k1, k2⟩ := edgC_ok h bk hc
  rw [← hes, hnn, Int.toNat_natCast] at k1
  rw [← hes] at k2
  have hsj : a.toNat < j := by omega
  have hres : dstC m bk c a = dst es j a.toNat := by unfold dstC; rw [← hes, hnn, Int.toNat_natCast]
  rw [hres]
  (refine go0 ?_; try exact True.intro)
  refine W_loopU (fun u : List Int × Bool => [(13, bv u.2)]) (fun u => [(5, .row 0 2 1 0 cI u.1)]) (fun u => Dst es a.toNat j u.1 ∧ (u.2 = false → ∀ e ∈ es, stp u.1 e = u.1)) (fun u => 2 * (tot u.1).toNat + (if u.2 = true then 1 else 0)) (ini j a.toNat, true) ⟨ini_dst hsj, fun q => by cases q⟩ (by rfl) (by rfl) (fun u hu => ?_)
  obtain ⟨o, ch⟩ := u
  obtain ⟨hd, hch⟩ := hu
  dsimp only at hd hch ⊢
  have lo := hd.len
  have gI : ∀ (l : List Int) i, l.getD i 0 = gi l i := fun _ _ => rfl
  (refine sy1 ?_; try exact True.intro)
  (refine go0 ?_; try exact True.intro)
  refine W_cond (by rfl) (fun hb => ?_) (fun hb => ?_)
  · subst hb
    (refine go0 ?_; try exact True.intro)
    refine W_loopU (fun v : Nat × Bool => [(13, bv v.2), (57, iv v.1)]) (fun v => [(5, .row 0 2 1 0 cI (pas o (es.take v.1)))]) (fun v => v.1 ≤ m.rs.length ∧ (v.2 = true → tot (pas o (es.take v.1)) < tot o) ∧ (v.2 = false → ∀ e ∈ es.take v.1, stp o e = o)) (fun v => m.rs.length - v.1) (0, false) ⟨Nat.zero_le _, (fun q => absurd q (by decide)), fun _ e he => by rw [List.take_zero] at he; cases he⟩ (by rfl) (by rfl) (fun v hv => ?_)
    obtain ⟨i, cv⟩ := v
    obtain ⟨hi, hv1, hv2⟩ := hv
    dsimp only at hi hv1 hv2 ⊢
    (refine sy1 ?_; try exact True.intro)
    (refine go0 ?_; try exact True.intro)
    refine W_condD (by rfl) (fun h6 => ?_) (fun h6 => ?_)
    · have hlt : i < m.rs.length := by omega
      have hgr : m.rs.getD i dR = gr m i := rfl
      have e3 : es.take (i + 1) = es.take i ++ [edC m bk c i] := by rw [hes]; exact take_edC hlt
      have e4 : pas o (es.take (i + 1)) = stp (pas o (es.take i)) (edC m bk c i) := by rw [e3, pas_snoc]
      have hci := tbl_at c hlt
      have hcb := hcb i hlt
      repeat' (first | refine w1g ?_ | refine w1l ?_ | refine w1q ?_ | refine w1b ?_ | refine w1p ?_ | ((first | refine w1r ?_ | refine w1k ?_ | refine w1e ?_); simp (maxSteps := 400000) (disch := omega) only [push_cast, ↓reduceIte, reduceCtorEq, Nat.reduceAdd, Nat.reduceSub, Nat.reduceEqDiff, Nat.reduceLeDiff, Nat.reduceLT, Nat.reduceBEq, Nat.reduceDiv, Nat.reduceMod, Nat.reducePow, Nat.reduceMul, Int.reduceToNat, Int.reduceLT, Int.reduceLE, hgr, hci, tbl_len]) | refine an2 ?_ | fail)
      have hdu := pas_dst k1 (es.take i) o (fun e he => List.mem_of_mem_take he) hd
      have hel : edC m bk c i ∈ es := by rw [hes]; exact List.mem_map.2 ⟨i, List.mem_range.2 hlt, rfl⟩
      obtain ⟨X, hX⟩ : ∃ X, X = if bk = true then (gr m i).t else (gr m i).f := ⟨_, rfl⟩
      obtain ⟨Y, hY⟩ : ∃ Y, Y = if bk = true then (gr m i).f else (gr m i).t := ⟨_, rfl⟩
      have hr := roadB_ok (h.r i hlt)
      have hXr : 0 ≤ X ∧ X < j := by have := hr.f; have := hr.t; rw [hX]; split <;> omega
      have hYr : 0 ≤ Y ∧ Y < j := by have := hr.f; have := hr.t; rw [hY]; split <;> omega
      have hex : (edC m bk c i).x = X.toNat := by unfold edC; rw [hX]; split <;> rfl
      have hey : (edC m bk c i).y = Y.toNat := by unfold edC; rw [hY]; split <;> rfl
      have hec : (edC m bk c i).c = c i := by unfold edC; split <;> rfl
      have htk : ∀ e ∈ es.take (i + 1), e ∈ es.take i ∨ e = edC m bk c i := fun e he => by
        rw [e3] at he
        rcases List.mem_append.1 he with he | he
        · exact .inl he
        · exact .inr (List.mem_singleton.1 he)
      have hsame : cv = false → pas o (es.take i) = o := fun q => pas_same _ _ (hv2 q)
      generalize edC m bk c i = e at *
      have hst : ∀ z, stp z e = if 0 ≤ c i ∧ gi z X.toNat < far ∧ gi z X.toNat + c i < gi z Y.toNat then z.set Y.toNat (gi z X.toNat + c i) else z := fun z => by unfold stp; rw [hec, hex, hey]
      have hux := hdu.le (y := X.toNat) (by omega)
      have huy := hdu.le (y := Y.toNat) (by omega)
      have hux2 : gi (pas o (es.take i)) X.toNat ≤ 1125899906842624 := hux.2
      have huy2 : gi (pas o (es.take i)) Y.toNat ≤ 1125899906842624 := huy.2
      have hlu := hdu.len
      have htot := stp_tot (pas o (es.take i)) e (by rw [hey]; omega)
      have hto := pas_tot (es.take i) o (fun e he => by rw [lo]; exact (k1 e (List.mem_of_mem_take he)).2)
      generalize pas o (es.take i) = u at *
      refine W_condD (by rfl) (fun h7 => ?_) (fun h7 => ?_)
      · have hz : ∀ z, stp z e = z := fun z => by rw [hst, if_neg (by omega)]
        (refine go0 ?_; try exact True.intro)
        refine ⟨(i + 1, cv), ⟨by dsimp only; omega, fun q => by dsimp only at q ⊢; rw [e4, hz]; exact hv1 q, fun q e' he' => ?_⟩, by dsimp only; omega, by rfl, ?_⟩
        · rcases htk e' he' with he' | rfl
          · exact hv2 q e' he'
          · exact hz o
        dsimp only
        rw [e4, hz]
        (refine syE ?_; try exact True.intro)
      (refine go0 ?_; try exact True.intro)
      refine W_meet [(16, iv X), (17, iv Y)] [] ?_ ?_
      · refine W_cond (by rfl) (fun hb => ?_) (fun hb => ?_)
        · rw [hX, hY, hb, if_pos rfl, if_pos rfl]
          (refine go0 ?_; try exact True.intro)
          first | exact ⟨rfl, by rfl⟩ | rfl
        · rw [hX, hY, hb, if_neg (by decide), if_neg (by decide)]
          (refine go0 ?_; try exact True.intro)
          first | exact ⟨rfl, by rfl⟩ | rfl
      (refine sy1 ?_; try exact True.intro)
      (refine gof (ad4 gI hci tbl_len hlu) ?_; try exact True.intro)
      refine W_cond (by rfl) (fun h8 => ?_) (fun h8 => ?_)
      · rw [Bool.and_eq_true, decide_eq_true_eq, decide_eq_true_eq] at h8
        have hs1 : stp u e = u.set Y.toNat (gi u X.toNat + c i) := by rw [hst, if_pos ⟨by omega, h8.1, h8.2⟩]
        have ht1 : tot (stp u e) < tot u := by
          rcases Int.lt_or_eq_of_le htot.1 with q | q
          · exact q
          · have q2 := htot.2 q
            rw [hs1] at q2
            have q3 : gi (u.set Y.toNat (gi u X.toNat + c i)) Y.toNat = gi u Y.toNat := by rw [q2]
            rw [gi_set (by omega), if_pos rfl] at q3
            omega
        (refine gof (ad2 tbl_len hlu) ?_; try exact True.intro)
        refine ⟨rfl, ⟨Nat.le_of_ble_eq_true rfl, rfl⟩, by omega, gi u X.toNat + c i, rfl, rfl, ?_⟩
        rw [← hs1, ← e4]
        (refine sy1 ?_; try exact True.intro)
        (refine go0 ?_; try exact True.intro)
        refine ⟨(i + 1, true), ⟨by dsimp only; omega, fun _ => by dsimp only; rw [e4]; omega, fun q => absurd (show true = false from q) (by decide)⟩, by dsimp only; omega, by rfl, ?_⟩
        (refine syE ?_; try exact True.intro)
      · have hz : stp u e = u := by
          rw [hst, if_neg]
          rintro ⟨q1, q2, q3⟩
          have q2 : gi u X.toNat < 1125899906842624 := q2
          rw [decide_eq_true q2, decide_eq_true q3] at h8
          cases h8
        (refine go0 ?_; try exact True.intro)
        refine ⟨(i + 1, cv), ⟨by dsimp only; omega, fun q => by dsimp only at q ⊢; rw [e4, hz]; exact hv1 q, fun q e' he' => ?_⟩, by dsimp only; omega, by rfl, ?_⟩
        · rcases htk e' he' with he' | rfl
          · exact hv2 q e' he'
          · rw [hsame q] at hz
            exact hz
        dsimp only
        rw [e4, hz]
        (refine syE ?_; try exact True.intro)
    · have hin2 : i = m.rs.length := by omega
      have hall : es.take i = es := by rw [hin2, hes]; exact List.take_of_length_le (by simp [edgC])
      rw [hall] at hv1 hv2 ⊢
      have hdp := pas_dst k1 es o (fun e he => he) hd
      have hnn1 := tot_nn (pas o es) (fun q hq => (hdp.le (by rw [hdp.len] at hq; exact hq)).1)
      (refine go0 ?_; try exact True.intro)
      refine ⟨(pas o es, cv), ⟨hdp, fun q => ?_⟩, ?_, by rfl, ?_⟩
      · dsimp only at q ⊢
        have := hv2 q
        rw [pas_same es o this]
        exact this
      · dsimp only
        cases cv with
        | true =>
          have := hv1 rfl
          simp only [if_true]
          omega
        | false =>
          rw [pas_same es o (hv2 rfl)]
          simp
      (refine syE ?_; try exact True.intro)
  · have hfix := fix_stp (fun e he => by rw [lo]; exact (k1 e he).2) (hch hb)
    have hfin : o = dst es j a.toNat := dst_ext k1 hd hfix (dst_dst k1 hsj) (dst_fix k1 k2 hsj)
    rw [← hfin]
    (refine go0 ?_; try exact True.intro)
    exact W_ret ⟨_, _, ⟨rfl, rfl⟩, rfl⟩
theorem fn29 (m : Mp) (f : Nat → Int) (a : Int) (bk : Bool) (g : Nat) (fi ca : List AV) (c : Nat → Int) (h : OkM m) (ha : 0 ≤ a ∧ a < m.n) (hc : ∀ i, i < m.rs.length → 0 ≤ c i → 1 ≤ c i) (hcb : ∀ i, i < m.rs.length → -1099511627776 ≤ c i ∧ c i ≤ 1099511627776)
    (hg : ∀ i, i < m.rs.length → Sy.Fn Tryz.prog g (fi ++ [iv (i : Nat)] ++ ca) (iv (c i))) : Sy.Fn Tryz.prog 29 [aAt m f, iv a, bv bk, .clo g fi ca] (aI (dstC m bk c a)) := by
  exact Fn_of_W mixed Xt29 rfl (W_mono' (w29 m f a bk g fi ca c h ha hc hcb hg) fin_of_finO)
theorem fo29 (m : Mp) (f : Nat → Int) (a : Int) (bk : Bool) (g : Nat) (fi ca : List AV) (c : Nat → Int) (h : OkM m) (ha : 0 ≤ a ∧ a < m.n) (hc : ∀ i, i < m.rs.length → 0 ≤ c i → 1 ≤ c i) (hcb : ∀ i, i < m.rs.length → -1099511627776 ≤ c i ∧ c i ≤ 1099511627776)
    (hg : ∀ i, i < m.rs.length → Sy.Fn Tryz.prog g (fi ++ [iv (i : Nat)] ++ ca) (iv (c i))) : FnO Tryz.prog 29 [aAt m f, iv a, bv bk, .clo g fi ca] 2 1 0 cI (dstC m bk c a) := by
  exact FnO_of_W mixed Xt29 rfl (fun x _ => rfl) (w29 m f a bk g fi ca c h ha hc hcb hg)
end Go.Proofs.YtcfomfajpmlleaaGreat.R

namespace Go.Proofs.YtcfomfajpmlleaaGreat.R
set_option linter.unusedVariables false
def msk (l : List Int) : Nat := l.foldl (fun s x => s ||| 2 ^ x.toNat) 0
theorem msk_snoc (l : List Int) (i : Nat) : msk (l ++ [(i : Int)]) = msk l ||| 2 ^ i := by
  unfold msk; rw [List.foldl_append]; rfl
theorem msk_aux : ∀ (l p : List Int) (s : Nat), BitsOf s p → (∀ x ∈ l, 0 ≤ x) → BitsOf (l.foldl (fun s x => s ||| 2 ^ x.toNat) s) (p ++ l)
  | [], p, s, h, _ => by simpa using h
  | x :: l, p, s, h, hx => by
    have h1 := bits_snoc h x.toNat
    have e : ((x.toNat : Nat) : Int) = x := by have := hx x List.mem_cons_self; omega
    rw [e] at h1
    have := msk_aux l _ _ h1 (fun y hy => hx y (List.mem_cons_of_mem _ hy))
    rwa [List.append_assoc] at this
theorem msk_bits {l : List Int} (h : ∀ x ∈ l, 0 ≤ x) : BitsOf (msk l) l := msk_aux l [] 0 bits_nil h
theorem msk_lt {n : Int} {l : List Int} (h : Srt n 0 l) (hn : n ≤ 10) : msk l < 1024 := by
  have := bits_lt (n := 10) (msk_bits fun x hx => (h.mem x hx).1) (fun x hx => by have := (h.mem x hx).2; omega)
  simpa using this
def bS : Option (List Int × Int) → Nat
  | none => 0
  | some p => msk p.1
def bC : Option (List Int × Int) → Int
  | none => 0
  | some p => p.2
def bF : Option (List Int × Int) → Bool
  | none => false
  | some _ => true
theorem lstep_no {f : List Int → Int} {ok : List Int → Bool} {b : Option (List Int × Int)} {x : List Int} (h : ok x = false ∨ (bF b = true ∧ bC b ≤ f x)) : lstep f ok b x = b := by
  unfold lstep
  by_cases q : ok x = true
  · rw [if_pos q]
    rcases h with h | ⟨h1, h2⟩
    · rw [q] at h; cases h
    · cases b with
      | none => cases h1
      | some p =>
        obtain ⟨y, n⟩ := p
        dsimp only
        rw [if_neg (by show ¬ f x < n; have : bC (some (y, n)) = n := rfl; omega)]
  · rw [if_neg q]
theorem lstep_yes {f : List Int → Int} {ok : List Int → Bool} {b : Option (List Int × Int)} {x : List Int} (h : ok x = true) (h2 : bF b = false ∨ f x < bC b) : lstep f ok b x = some (x, f x) := by
  unfold lstep
  rw [if_pos h]
  cases b with
  | none => rfl
  | some p =>
    obtain ⟨y, n⟩ := p
    rcases h2 with h2 | h2
    · cases h2
    · dsimp only
      rw [if_pos (by have : bC (some (y, n)) = n := rfl; omega)]
end Go.Proofs.YtcfomfajpmlleaaGreat.R

namespace Go.Proofs.YtcfomfajpmlleaaGreat.R
open Go Sy
set_option maxRecDepth 100000
set_option maxHeartbeats 4000000
set_option linter.unusedVariables false
set_option linter.unusedSimpArgs false
theorem fn27 (n : Int) : Sy.Fn Tryz.prog 27 [iv n] (.clo 68 [] [.fp [iv n] 0]) := by
  refine Fn_of_W mixed Xt27 rfl ?_
  (refine go0 ?_; try exact True.intro)
  exact W_ret ⟨[_], ⟨rfl, rfl⟩, rfl⟩
theorem shl_one {j : Nat} (h : j ≤ 9) : IntKind.u64.wrap (1 * 2 ^ min j IntKind.u64.bits) = ((2 ^ j : Nat) : Int) := by
  have : j = 0 ∨ j = 1 ∨ j = 2 ∨ j = 3 ∨ j = 4 ∨ j = 5 ∨ j = 6 ∨ j = 7 ∨ j = 8 ∨ j = 9 := by omega
  rcases this with rfl | rfl | rfl | rfl | rfl | rfl | rfl | rfl | rfl | rfl <;> decide
theorem or_msk {x : List Int} {j : Nat} (h : msk x < 1024) (hj : j ≤ 9) : bits .or .u64 (msk x : Int) (IntKind.u64.wrap (1 * 2 ^ min j IntKind.u64.bits)) = (msk (x ++ [(j : Int)]) : Int) := by
  rw [shl_one hj, msk_snoc]
  have : 2 ^ j ≤ 2 ^ 9 := Nat.pow_le_pow_right (by omega) hj
  exact bits_or_u64_nat _ _ (by omega) (by omega)
theorem walk_inl {ι : Type} (n : Nat) (hn : n ≤ 10) (B : ι → Mem) (step : ι → List Int → ι) (N0 kw l : Nat) (hBas : ∀ b, Bas N0 (B b))
    (hW : ∀ b, lm (B b) kw = some (.cells [.cq 69 [] [.fp [yv l] 0, .fp [iv n] 0, .own kw 0]]))
    (HY : ∀ b x, Srt n 0 x → ∀ tm R nx, Opq N0 R nx → Yl Tryz.prog l [uv (msk x)] ⟨tm, B b ++ R, nx⟩ (MidB N0 nx tm R (fun r B' => r = true ∧ B' = B (step b x)))) :
    ∀ (d i : Nat) (x : List Int), i + d = n → Srt n 0 x → (∀ y ∈ x, y < (i : Int)) → ∀ b tm R nx, Opq N0 R nx →
      Inl Tryz.prog 69 [uv (msk x), iv i, .fp [yv l] 0, .fp [iv n] 0, .own kw 0] ⟨tm, B b ++ R, nx⟩ (MidR N0 nx tm R (fun r B' => r = bv true ∧ B' = B ((x :: brn d x i).foldl step b))) := by
  intro d
  induction d using Nat.strongRecOn with
  | _ d ih =>
  intro i x hi hx hlt b tm R nx hR
  refine Inl_mid mixed Xt69 rfl hR (hBas b) (fun R' nx' hR' => ?_)
  have hWR : ∀ b, lm (B b ++ R') kw = some (.cells [.cq 69 [] [.fp [yv l] 0, .fp [iv n] 0, .own kw 0]]) := fun b => by rw [lm_app, hW]
  (refine sy1 ?_; try exact True.intro)
  (refine gof hWR ?_; try exact True.intro)
  refine StopC.yld (fun hpc => ⟨trivial, Yl_le (HY b x hx _ R' _ (hR'.le (by omega))) (fun r s' hs => ?_)⟩) (fun hpc => absurd trivial hpc)
  obtain ⟨B', _, ⟨rfl, rfl⟩, hl⟩ := hs
  refine ⟨_, ?_, hl⟩
  (refine sy1 ?_; try exact True.intro)
  (refine gof hWR ?_; try exact True.intro)
  refine W_cond (by rfl) (fun h => by cases h) (fun _ => ?_)
  (refine go0 ?_; try exact True.intro)
  refine W_loopM (fun u : Nat × ι => [(8, iv u.1)]) (fun u => B u.2 ++ R') (fun u => i ≤ u.1 ∧ u.1 ≤ n ∧ (brn (n - u.1) x u.1).foldl step u.2 = (x :: brn d x i).foldl step b) (fun u => n - u.1) nx' (fun u _ => hR'.mem (hBas u.2)) (i, step b x) ⟨Nat.le_refl _, by omega, by rw [show n - i = d by omega]; rfl⟩ (by rfl) (by rfl) (fun u hu => ?_)
  obtain ⟨j, c⟩ := u
  obtain ⟨h1, h2, h3⟩ := hu
  dsimp only at h1 h2 h3 ⊢
  (refine sy1 ?_; try exact True.intro)
  (refine go0 ?_; try exact True.intro)
  refine W_condD (by rfl) (fun h5 => ?_) (fun h5 => ?_)
  · have e5 := or_msk (j := j) (msk_lt hx (by omega)) (by omega)
    have hx1 : Srt (n : Int) 0 (x ++ [(j : Int)]) := hx.snoc (by omega) (by omega) (fun y hy => by have := hlt y hy; omega)
    have hx2 : ∀ y ∈ x ++ [(j : Int)], y < ((j + 1 : Nat) : Int) := fun y hy => by
      rcases List.mem_append.1 hy with q | q
      · have := hlt y q; omega
      · rw [List.mem_singleton] at q; omega
    have e6 : ((j + 1 : Nat) : Int) = (j : Int) + 1 := by omega
    obtain ⟨d', hd'⟩ : ∃ d', n - j = d' + 1 := ⟨n - j - 1, by omega⟩
    have hI := ih d' (by omega) (j + 1) (x ++ [(j : Int)]) (by omega) hx1 hx2 c
    rw [e6] at hI
    repeat' (first | refine w1g ?_ | refine w1l ?_ | refine w1q ?_ | refine w1b ?_ | refine w1p ?_ | ((first | refine W_regS 7 (by decide) (by decide) ?_ | refine w1r ?_ | refine w1k ?_ | refine w1e ?_); (refine syf (ad2 hWR e5) ?_; try exact True.intro)) | refine an2 ?_ | fail)
    refine CallC.inl (Inl_le' (hI _ R' _ (hR'.le (by omega))) (fun r s2 hs => ?_))
    obtain ⟨B', _, ⟨rfl, rfl⟩, hl2⟩ := hs
    refine ⟨_, ?_, hl2⟩
    (refine sy1 ?_; try exact True.intro)
    (refine gof hWR ?_; try exact True.intro)
    refine W_cond (by rfl) (fun h => by cases h) (fun _ => ?_)
    (refine go0 ?_; try exact True.intro)
    refine ⟨(j + 1, (((x ++ [(j : Int)]) :: brn d' (x ++ [(j : Int)]) (j + 1)).foldl step c)), ⟨by dsimp only; omega, by dsimp only; omega, ?_⟩, by dsimp only; omega, by rfl, rfl⟩
    dsimp only
    rw [← h3, hd', show n - (j + 1) = d' by omega]
    simp only [brn, List.foldl_append, List.foldl_cons, List.cons_append]
  · have e7 : n - j = 0 := by omega
    rw [e7] at h3
    have h3 : c = (x :: brn d x i).foldl step b := h3
    (refine go0 ?_; try exact True.intro)
    refine W_ret ?_
    exact ⟨[_], _, ⟨rfl, rfl⟩, rfl, hBas _, rfl, by rw [h3]⟩
def tmL (n g : Nat) (fi ca : List AV) : List (Nat × AV) := [(3, .fp [.clo g fi ca] 0), (4, .own 1 0), (5, .own 2 0), (6, .own 3 0), (10, .clo 68 [] [.fp [iv n] 0])]
def memL (n g : Nat) (fi ca : List AV) (vs : Array Value) (lp : Nat) (R : Loop) (b : Option (List Int × Int)) : Mem := [(6, .oth (.fr vs (tmL n g fi ca))), (5, .oth (.lp lp R (tmL n g fi ca))), (1, .cells [uv (bS b)]), (2, .cells [iv (bC b)]), (3, .cells [bv (bF b)]), (8, .cells [.cq 69 [] [.fp [yv lp] 0, .fp [iv n] 0, .own 8 0]])]
theorem fn26 (n : Nat) (hn : n ≤ 10) (g : Nat) (fi ca : List AV) (f : List Int → Int) (ok : List Int → Bool) (hf : ∀ x, Srt n 0 x → -1099511627776000 ≤ f x ∧ f x ≤ 11258999068426240)
    (hg : ∀ x, Srt n 0 x → Sy.Fn Tryz.prog g (fi ++ [uv (msk x)] ++ ca) (.tup [iv (f x), bv (ok x)])) : Sy.Fn Tryz.prog 26 [.clo 68 [] [.fp [iv n] 0], .clo g fi ca] (.tup [uv (bS (leastL f ok (setsM n))), iv (bC (leastL f ok (setsM n))), bv (bF (leastL f ok (setsM n)))]) := by
  refine Fn_of_W mixed Xt26 rfl ?_
  (refine go0 ?_; try exact True.intro)
  refine W_rfn (.inl rfl) (fun lp R hR => Inl_of_W mixed Xt68 rfl (fun vs => ?_))
  (refine sy1 ?_; try exact True.intro)
  (refine go0 ?_; try exact True.intro)
  have HY : ∀ b x, Srt n 0 x → ∀ tm R' nx, Opq 12 R' nx → Yl Tryz.prog lp [uv (msk x)] ⟨tm, memL n g fi ca vs lp R b ++ R', nx⟩ (MidB 12 nx tm R' (fun r B' => r = true ∧ B' = memL n g fi ca vs lp R (lstep f ok b x))) := fun b x hx tm R' nx hO => by
    refine Yl_mid mixed (k := 5) (tml := tmL n g fi ca) hR rfl rfl rfl hO (bas_of rfl) (fun R2 nx2 hO2 => ?_)
    have cg := hg x hx
    unfold memL tmL
    simp (maxSteps := 400000) (disch := omega) only [push_cast, ↓reduceIte, reduceCtorEq, Nat.reduceAdd, Nat.reduceSub, Nat.reduceEqDiff, Nat.reduceLeDiff, Nat.reduceLT, Nat.reduceBEq, Nat.reduceDiv, Nat.reduceMod, Nat.reducePow, Nat.reduceMul, Int.reduceToNat, Int.reduceLT, Int.reduceLE, List.cons_append, List.nil_append]
    (refine go0 ?_; try exact True.intro)
    refine ⟨[_, _, _, _, _, _], _, rfl, rfl, ?_⟩
    (refine sy1 ?_; try exact True.intro)
    (refine go_c cg ?_; try exact True.intro)
    refine W_cond (by rfl) (fun hb => ?_) (fun hb => ?_)
    · have e : lstep f ok b x = some (x, f x) := by
        simp only [Bool.and_eq_true, Bool.or_eq_true, Bool.not_eq_true', decide_eq_true_eq] at hb
        exact lstep_yes hb.1 hb.2
      rw [e]
      (refine go0 ?_; try exact True.intro)
      refine ⟨[_, _, _, _, _, _], _, rfl, bas_of rfl, rfl, rfl, rfl⟩
    · have e : lstep f ok b x = b := by
        refine lstep_no ?_
        cases h1 : ok x
        · exact .inl rfl
        · right
          rw [h1] at hb
          simp only [Bool.true_and, Bool.or_eq_false_iff, Bool.not_eq_false', decide_eq_false_iff_not] at hb
          exact ⟨hb.1, by omega⟩
      rw [e]
      (refine go0 ?_; try exact True.intro)
      refine ⟨[_, _, _, _, _, _], _, rfl, bas_of rfl, rfl, rfl, rfl⟩
  refine CallC.inl (Inl_le' (walk_inl n hn (memL n g fi ca vs lp R) (lstep f ok) 12 8 lp (fun b => bas_of rfl) (fun b => rfl) HY n 0 [] (by omega) trivial (fun y hy => by cases hy) none _ [] 12 (opq_nil 12)) (fun r s' hs => ?_))
  obtain ⟨B', _, ⟨rfl, rfl⟩, hl2⟩ := hs
  refine ⟨_, ?_, hl2⟩
  have el : (([] : List Int) :: brn n [] 0).foldl (lstep f ok) none = leastL f ok (setsM n) := rfl
  rw [el, List.append_nil]
  generalize leastL f ok (setsM n) = X
  unfold memL tmL
  (refine sy1 ?_; try exact True.intro)
  refine ⟨_, _, rfl, rfl, ⟨_, _, rfl, by rw [hR.st]; simp, ?_⟩⟩
  rw [hR.pe]
  (refine syN ?_; try exact True.intro)
  (refine go0 ?_; try exact True.intro)
  exact W_ret ⟨[_, _, _], ⟨⟨by simp, rfl⟩, ⟨by simp, rfl⟩, ⟨by simp, rfl⟩, rfl⟩, rfl⟩
end Go.Proofs.YtcfomfajpmlleaaGreat.R

namespace Go.Proofs.YtcfomfajpmlleaaGreat.R
open Go Sy
set_option maxRecDepth 100000
set_option maxHeartbeats 4000000
set_option linter.unusedVariables false
set_option linter.unusedSimpArgs false
theorem setW_msk {m : Mp} {l : List Int} (h : Srt m.ws.length 0 l) : SetW m l (msk l) := ⟨msk_bits fun x hx => (h.mem x hx).1, h⟩
theorem fn71 (l : List Int) (n : Nat) (hn : n ≤ 10) (hs : Srt n 0 l) : Sy.Fn Tryz.prog 71 [.v (.slice none 0 0), .clo 72 [] [.fp [uv (msk l)] 0]] (aI l) := by
  refine Fn_of_W mixed Xt71 rfl ?_
  obtain ⟨s, hsm⟩ : ∃ s, s = msk l := ⟨_, rfl⟩
  have hb : BitsOf s l := by rw [hsm]; exact msk_bits fun x hx => (hs.mem x hx).1
  have hs1 : s < 1024 := by rw [hsm]; exact msk_lt hs (by omega)
  rw [← hsm]
  (refine go0 ?_; try exact True.intro)
  refine W_rfn (.inl rfl) (fun lp R hR => Inl_of_W mixed Xt72 rfl (fun vs => ?_))
  (refine sy1 ?_; try exact True.intro)
  (refine go0 ?_; try exact True.intro)
  refine W_le (le_adoptC 0 0 3 1 (0 : Int) cI (by omega) _ rfl rfl (by simp)) ?_
  (refine sy1 ?_; try exact True.intro)
  refine W_loopU (fun i : Nat => [(3, iv i)]) (fun i => [(0, .cells [.row 6 (pre l i).length]), (6, .row (pre l i).length 3 1 0 cI (pre l i))]) (fun i => i ≤ 10) (fun i => 11 - i) 0 (by omega) (by rfl) (by rw [pre_zero hs]; rfl) (fun i hi => ?_)
  obtain ⟨q, hq⟩ : ∃ q, q = s / 2 ^ i := ⟨_, rfl⟩
  have e1 := shrS s (i := i) (by omega)
  have e2 := andS (s / 2 ^ i) (div_lt64 hs1 i)
  rw [bits_shr hb i] at e2
  rw [← hq] at e1 e2
  have e4 := pre_succ (i := i) hs
  have hlen : (pre l i).length ≤ 10 := by
    have h1 := hs.len (by omega)
    have h2 := List.length_filter_le (fun x => decide (x < (i : Int))) l
    unfold pre
    omega
  (refine sy1 ?_; try exact True.intro)
  (refine gof e1 ?_; try exact True.intro)
  refine W_cond (by rfl) (fun hb2 => ?_) (fun hb2 => ?_)
  · have hi10 : i < 10 := bits_more hb (by rw [← hq]; intro z; rw [z] at hb2; simp at hb2) (fun x hx => by have := (hs.mem x hx).2; omega)
    by_cases hm : (i : Int) ∈ l
    · rw [if_pos hm] at e2 e4
      have e2 : bits .and .u64 (q : Int) 1 = 1 := e2
      (refine gof (ad2 e1 e2) ?_; try exact True.intro)
      refine StopC.yld (fun hpc => ⟨trivial, Yl_of_W (k := 3) mixed hR rfl rfl rfl (fun vs2 => ?_)⟩) (fun hpc => absurd (by simp [Sy.pc]) hpc)
      (refine sy1 ?_; try exact True.intro)
      (refine go0 ?_; try exact True.intro)
      refine ⟨_, rfl, ?_⟩
      (refine sy1 ?_; try exact True.intro)
      (refine go0 ?_; try exact True.intro)
      refine ⟨rfl, trivial, Int, 0, cI, [(i : Int)], rfl, by omega, fun x _ => ⟨rfl, rfl⟩, rfl, ?_⟩
      (refine sy1 ?_; try exact True.intro)
      refine ⟨rfl, ⟨Nat.le_of_ble_eq_true rfl, rfl⟩, trivial, [(i : Int)], rfl, by first | omega | (simp; omega), by first | omega | (simp; omega), ?_⟩
      (refine sy1 ?_; try exact True.intro)
      refine ⟨_, _, rfl, rfl, ?_⟩
      (refine sy1 ?_; try exact True.intro)
      refine W_cond (by rfl) (fun h => by cases h) (fun _ => ?_)
      (refine go0 ?_; try exact True.intro)
      refine ⟨i + 1, by omega, by omega, by rfl, ?_⟩
      rw [e4, List.length_append]
      (refine syE ?_; try exact True.intro)
    · rw [if_neg hm] at e2 e4
      have e2 : bits .and .u64 (q : Int) 1 = 0 := e2
      have z01 : ((0 : Int) == 1) = false := rfl
      (refine gof (ad3 e1 e2 z01) ?_; try exact True.intro)
      refine StopC.yld (fun hpc => absurd hpc (by simp [Sy.pc])) (fun hpc => ?_)
      (refine sy1 ?_; try exact True.intro)
      (refine go0 ?_; try exact True.intro)
      refine W_cond (by rfl) (fun h => by cases h) (fun _ => ?_)
      (refine go0 ?_; try exact True.intro)
      refine ⟨i + 1, by omega, by omega, by rfl, ?_⟩
      rw [e4, List.append_nil]
      (refine syE ?_; try exact True.intro)
  · have hq0 : s / 2 ^ i = 0 := by
      rw [← hq]
      have := bne_eq_false_iff_eq.1 hb2
      omega
    have hall := pre_all (bits_end hb (fun x hx => (hs.mem x hx).1) hq0)
    rw [hall]
    (refine go0 ?_; try exact True.intro)
    refine ⟨_, _, rfl, rfl, ⟨_, _, rfl, by rw [hR.st]; simp, ?_⟩⟩
    rw [hR.pe]
    (refine syN ?_; try exact True.intro)
    (refine go0 ?_; try exact True.intro)
    refine W_ret ⟨[_], ⟨rfl, rfl⟩, ?_⟩
    (refine syP ?_; try exact True.intro)
theorem fn32 (l : List Int) (n : Nat) (hn : n ≤ 10) (hs : Srt n 0 l) : Sy.Fn Tryz.prog 32 [.clo 72 [] [.fp [uv (msk l)] 0]] (aI l) := by
  refine Fn_of_W mixed Xt32 rfl ?_
  (refine go_c (fn71 l n hn hs) ?_; try exact True.intro)
  exact W_ret ⟨[_], ⟨rfl, rfl⟩, rfl⟩
def cU (m : Mp) (f : Nat → Int) (s : List Int) (i : Nat) : Int := (edB m (usB m f s) i).c
theorem cU_rng {m : Mp} (h : OkM m) (f : Nat → Int) (s : List Int) {i : Nat} (hi : i < m.rs.length) : (0 ≤ cU m f s i → 1 ≤ cU m f s i) ∧ -1 ≤ cU m f s i ∧ cU m f s i ≤ 1073741824 := by
  have hr := (roadB_ok (h.r i hi)).c
  unfold cU edB
  dsimp only
  split <;> omega
def dL (m : Mp) (f : Nat → Int) (s : List Int) (to : Int) : List Int := dstC m true (cU m f s) to
theorem dL_fn (m : Mp) (f : Nat → Int) (s : List Int) (to : Int) (bk : Bool) (h : OkM m) (hs : Srt m.ws.length 0 s) (ht : 0 ≤ to ∧ to < m.n) : Sy.Fn Tryz.prog 29 [aAt m f, iv to, bv bk, .clo 70 [] [.fp (cAt m f) 0, .fp [uv (msk s)] 0]] (aI (dstC m bk (cU m f s) to)) :=
  fn29 m f to bk 70 [] _ (cU m f s) h ht (fun i hi => (cU_rng h f s hi).1) (fun i hi => by have := (cU_rng h f s hi).2; omega) (fun i hi => fn70 m f s (msk s) i h (setW_msk hs) hi)
theorem dL_dst {m : Mp} (h : OkM m) (f : Nat → Int) (s : List Int) (bk : Bool) {to : Int} (ht : 0 ≤ to ∧ to < m.n) : Dst (edgC m bk (cU m f s)) to.toNat m.n.toNat (dstC m bk (cU m f s) to) ∧ Fix (edgC m bk (cU m f s)) (dstC m bk (cU m f s) to) := by
  obtain ⟨k1, k2⟩ := edgC_ok h bk (c := cU m f s) (fun i hi => (cU_rng h f s hi).1)
  exact ⟨dst_dst k1 (by omega), dst_fix k1 k2 (by omega)⟩
theorem dL_rng {m : Mp} (h : OkM m) (f : Nat → Int) (s : List Int) (bk : Bool) {to : Int} (ht : 0 ≤ to ∧ to < m.n) {y : Nat} (hy : y < m.n.toNat) : 0 ≤ gi (dstC m bk (cU m f s) to) y ∧ gi (dstC m bk (cU m f s) to) y ≤ 1125899906842624 := (dL_dst h f s bk ht).1.le hy
theorem dL_len {m : Mp} (h : OkM m) (f : Nat → Int) (s : List Int) (bk : Bool) {to : Int} (ht : 0 ≤ to ∧ to < m.n) : (dstC m bk (cU m f s) to).length = m.n.toNat := (dL_dst h f s bk ht).1.len
def cfS (m : Mp) (f : Nat → Int) (fr to : Int) (s : List Int) : Int := gi (dL m f s to) fr.toNat + costL m s
def okS (m : Mp) (f : Nat → Int) (fr to : Int) (s : List Int) : Bool := decide (gi (dL m f s to) fr.toNat < 1125899906842624)
theorem costL_set {m : Mp} (h : OkM m) {s : List Int} (hs : Srt m.ws.length 0 s) : 0 ≤ costL m s ∧ costL m s ≤ 10737418240 := by
  have h1 := costL_rng h (l := s) (fun x hx => hs.mem x hx)
  have h2 := hs.len (by omega)
  have := h.nw
  have h3 : (s.length : Int) * 1073741824 ≤ 10 * 1073741824 := by omega
  omega
theorem fn28 (m : Mp) (f : Nat → Int) (fr to : Int) (s : List Int) (h : OkM m) (hs : Srt m.ws.length 0 s) (ht : 0 ≤ to ∧ to < m.n) (hf : 0 ≤ fr ∧ fr < m.n) : Sy.Fn Tryz.prog 28 [uv (msk s), .fp (cAt m f) 0, .fp [iv to] 0, .fp [iv fr] 0] (.tup [iv (cfS m f fr to s), bv (okS m f fr to s)]) := by
  refine Fn_of_W mixed Xt28 rfl ?_
  have c29 := dL_fn m f s to true h hs ht
  have c31 := fn31 m f s (msk s) h (setW_msk hs)
  have hr := dL_rng h f s true ht (y := fr.toNat) (by omega)
  have hl := dL_len h f s true ht
  have hc := costL_set h hs
  unfold cfS okS
  have e : dL m f s to = dstC m true (cU m f s) to := rfl
  rw [e]
  generalize dstC m true (cU m f s) to = D at *
  have gI : ∀ (l : List Int) i, l.getD i 0 = gi l i := fun _ _ => rfl
  (refine gofccc gI (fn30 m f (msk s)) c29 c31 ?_; try exact True.intro)
  exact W_ret ⟨[_, _], ⟨rfl, rfl, rfl⟩, rfl⟩
end Go.Proofs.YtcfomfajpmlleaaGreat.R

namespace Go.Proofs.YtcfomfajpmlleaaGreat.R
open Go Sy
set_option linter.unusedVariables false
def fstN (p : Nat → Bool) : Nat → Nat → Nat
  | 0, i => i
  | k + 1, i => if p i = true then i else fstN p k (i + 1)
theorem fst_eq {p : Nat → Bool} : ∀ (k i j : Nat), i ≤ j → j < i + k → p j = true → (∀ x, i ≤ x → x < j → p x = false) → fstN p k i = j
  | 0, i, j, h1, h2, _, _ => by omega
  | k + 1, i, j, h1, h2, h3, h4 => by
    simp only [fstN]
    by_cases q : p i = true
    · rw [if_pos q]
      apply Classical.byContradiction
      intro z
      rw [h4 i (Nat.le_refl _) (by omega)] at q
      cases q
    · rw [if_neg q]
      have : i ≠ j := fun e => q (e ▸ h3)
      exact fst_eq k (i + 1) j (by omega) (by omega) h3 (fun x hx hy => h4 x (by omega) hy)
theorem fst_ex {p : Nat → Bool} : ∀ (k i j : Nat), i ≤ j → j < i + k → p j = true → ∃ d, i ≤ d ∧ d < i + k ∧ p d = true ∧ (∀ x, i ≤ x → x < d → p x = false)
  | 0, i, j, h1, h2, _ => by omega
  | k + 1, i, j, h1, h2, h3 => by
    by_cases q : p i = true
    · exact ⟨i, Nat.le_refl _, by omega, q, fun x hx hy => by omega⟩
    · have : i ≠ j := fun e => q (e ▸ h3)
      obtain ⟨d, h4, h5, h6, h7⟩ := fst_ex k (i + 1) j (by omega) (by omega) h3
      refine ⟨d, by omega, by omega, h6, fun x hx hy => ?_⟩
      by_cases e : x = i
      · rw [e]; simpa using q
      · exact h7 x (by omega) hy
def pB (left : List Int) (a : Int) (r : Rd) : Bool := r.f == a && gi left a.toNat == r.c + gi left r.t.toNat
def hitB (m : Mp) (f : Nat → Int) (s left : List Int) (a : Int) (i : Nat) : Bool := usB m f s i && pB left a (gr m i)
def nxt (m : Mp) (f : Nat → Int) (s left : List Int) (a : Int) : Nat := fstN (hitB m f s left a) m.rs.length 0
def wayC (m : Mp) (f : Nat → Int) (s left : List Int) (to : Int) : Nat → Int → List Int
  | 0, _ => []
  | k + 1, a => if a = to then [] else (nxt m f s left a : Int) :: wayC m f s left to k (gr m (nxt m f s left a)).t
def minL (m : Mp) (l : List Int) : Int := l.foldl (fun n x => n + (gr m x.toNat).m) 0
theorem minL_snoc (m : Mp) (l : List Int) (x : Int) : minL m (l ++ [x]) = minL m l + (gr m x.toNat).m := by
  unfold minL; rw [List.foldl_append]; rfl
structure AtW (m : Mp) (f : Nat → Int) (s left : List Int) (to a : Int) : Prop where
  r : 0 ≤ a ∧ a < m.n
  l : 0 ≤ gi left a.toNat ∧ gi left a.toNat < 1125899906842624
theorem hit_ex {m : Mp} {f : Nat → Int} {s : List Int} {to a : Int} (h : OkM m) (ht : 0 ≤ to ∧ to < m.n) (ha : AtW m f s (dL m f s to) to a) (hne : a ≠ to) : ∃ i, i < m.rs.length ∧ hitB m f s (dL m f s to) a i = true := by
  obtain ⟨h1, h2⟩ := dL_dst h f s true ht
  obtain ⟨k1, k2⟩ := edgC_ok h true (c := cU m f s) (fun i hi => (cU_rng h f s hi).1)
  have hl := ha.l
  have hr := ha.r
  rcases last_road k1 h1 h2 (y := a.toNat) (by omega) hl.2 with q | ⟨e, he, h3, h4, h5⟩
  · omega
  · obtain ⟨i, hi, rfl⟩ := List.mem_map.1 he
    have hi := List.mem_range.1 hi
    have ok := roadB_ok (h.r i hi)
    refine ⟨i, hi, ?_⟩
    have e1 : (edC m true (cU m f s) i).y = (gr m i).f.toNat := rfl
    have e2 : (edC m true (cU m f s) i).x = (gr m i).t.toNat := rfl
    have e3 : (edC m true (cU m f s) i).c = cU m f s i := rfl
    rw [e1] at h3
    rw [e2, e3] at h5
    rw [e3] at h4
    have hu : usB m f s i = true := by
      apply Classical.byContradiction
      intro z
      have : cU m f s i = -1 := by unfold cU edB; simp [z]
      omega
    have hc : cU m f s i = (gr m i).c := by unfold cU edB; simp [hu]
    have hf := ok.f
    unfold hitB pB
    rw [hu, Bool.true_and, Bool.and_eq_true, beq_iff_eq, beq_iff_eq]
    refine ⟨by omega, ?_⟩
    rw [hc] at h5
    show gi (dstC m true (cU m f s) to) a.toNat = _ + gi (dstC m true (cU m f s) to) _
    omega
theorem hit_step {m : Mp} {f : Nat → Int} {s : List Int} {to a : Int} (h : OkM m) (ht : 0 ≤ to ∧ to < m.n) (ha : AtW m f s (dL m f s to) to a) {i : Nat} (hi : i < m.rs.length) (hh : hitB m f s (dL m f s to) a i = true) :
    usB m f s i = true ∧ (gr m i).f = a ∧ gi (dL m f s to) a.toNat = (gr m i).c + gi (dL m f s to) (gr m i).t.toNat ∧ AtW m f s (dL m f s to) to (gr m i).t ∧ rk (dL m f s to) m.n.toNat (gr m i).t.toNat < rk (dL m f s to) m.n.toNat a.toNat := by
  have ok := roadB_ok (h.r i hi)
  unfold hitB pB at hh
  rw [Bool.and_eq_true, Bool.and_eq_true, beq_iff_eq, beq_iff_eq] at hh
  obtain ⟨h1, h2, h3⟩ := hh
  have hl := ha.l
  have hc := ok.c
  have htr := ok.t
  have hb := dL_rng h f s true ht (y := (gr m i).t.toNat) (by omega)
  have hb : 0 ≤ gi (dL m f s to) (gr m i).t.toNat ∧ gi (dL m f s to) (gr m i).t.toNat ≤ 1125899906842624 := hb
  refine ⟨h1, h2, h3, ⟨htr, by omega⟩, rk_lt (by omega) (by omega)⟩
theorem nxt_spec {m : Mp} {f : Nat → Int} {s : List Int} {to a : Int} (h : OkM m) (ht : 0 ≤ to ∧ to < m.n) (ha : AtW m f s (dL m f s to) to a) (hne : a ≠ to) :
    nxt m f s (dL m f s to) a < m.rs.length ∧ hitB m f s (dL m f s to) a (nxt m f s (dL m f s to) a) = true ∧ ∀ j, j < nxt m f s (dL m f s to) a → hitB m f s (dL m f s to) a j = false := by
  obtain ⟨i, hi, hh⟩ := hit_ex h ht ha hne
  obtain ⟨d, h1, h2, h3, h4⟩ := fst_ex m.rs.length 0 i (by omega) (by omega) hh
  have e : nxt m f s (dL m f s to) a = d := fst_eq m.rs.length 0 d (by omega) (by omega) h3 h4
  rw [e]
  exact ⟨by omega, h3, fun j hj => h4 j (by omega) hj⟩
def bestS (m : Mp) (f : Nat → Int) (fr to : Int) : Option (List Int × Int) := leastL (cfS m f fr to) (okS m f fr to) (setsM m.ws.length)
def wayS (m : Mp) (f : Nat → Int) (fr to : Int) (s : List Int) : List Int := wayC m f s (dL m f s to) to m.n.toNat fr
def bE : Option (List Int × Int) → Int
  | none => 15
  | some _ => 0
def chV (m : Mp) (f : Nat → Int) (fr to : Int) : Option (List Int × Int) := if opE m f = 0 then (if plB m.n fr = true ∧ plB m.n to = true then bestS m f fr to else none) else none
def chE (m : Mp) (f : Nat → Int) (fr to : Int) : Int := if opE m f = 0 then (if plB m.n fr = true ∧ plB m.n to = true then bE (bestS m f fr to) else 3) else opE m f
theorem leastL_mem {g : List Int → Int} {ok : List Int → Bool} : ∀ (l : List (List Int)) (b : Option (List Int × Int)) {s : List Int} {n : Int}, l.foldl (lstep g ok) b = some (s, n) → b = some (s, n) ∨ (s ∈ l ∧ ok s = true ∧ n = g s)
  | [], b, s, n, h => .inl h
  | x :: l, b, s, n, h => by
    rcases leastL_mem l (lstep g ok b x) h with q | ⟨q1, q2, q3⟩
    · unfold lstep at q
      by_cases c : ok x = true
      · rw [if_pos c] at q
        rcases b with _ | ⟨y, k⟩
        · cases q; exact .inr ⟨List.mem_cons_self, c, rfl⟩
        · dsimp only at q
          split at q
          · cases q; exact .inr ⟨List.mem_cons_self, c, rfl⟩
          · exact .inl q
      · rw [if_neg c] at q
        exact .inl q
    · exact .inr ⟨List.mem_cons_of_mem _ q1, q2, q3⟩
theorem best_some {m : Mp} {f : Nat → Int} {fr to : Int} {s : List Int} {n : Int} (h : bestS m f fr to = some (s, n)) : s ∈ setsM m.ws.length ∧ Srt m.ws.length 0 s ∧ okS m f fr to s = true ∧ n = cfS m f fr to s := by
  rcases leastL_mem _ _ h with q | ⟨q1, q2, q3⟩
  · cases q
  · exact ⟨q1, sets_srt s q1, q2, q3⟩
end Go.Proofs.YtcfomfajpmlleaaGreat.R

namespace Go.Proofs.YtcfomfajpmlleaaGreat.R
open Go Sy
set_option maxRecDepth 100000
set_option maxHeartbeats 4000000
set_option linter.unusedVariables false
set_option linter.unusedSimpArgs false
theorem fn35 (left : List Int) (a : Int) (r : Rd) (ha : 0 ≤ a ∧ a < left.length) (ht : 0 ≤ r.t ∧ r.t < left.length) (hc : 1 ≤ r.c ∧ r.c ≤ 1073741824) (hl : 0 ≤ gi left r.t.toNat ∧ gi left r.t.toNat ≤ 1125899906842624) : Sy.Fn Tryz.prog 35 [.agg (cR r), .fp [iv a] 0, .fp [aI left] 0] (bv (pB left a r)) := by
  refine Fn_of_W mixed Xt35 rfl ?_
  have gI : ∀ (l : List Int) i, l.getD i 0 = gi l i := fun _ _ => rfl
  unfold pB
  cases hb : r.f == a
  · repeat' (first | refine w1g ?_ | refine w1l ?_ | refine w1q ?_ | refine w1b ?_ | refine w1p ?_ | ((first | refine w1r ?_ | refine w1k ?_ | refine w1e ?_); simp (maxSteps := 400000) (disch := omega) only [push_cast, ↓reduceIte, reduceCtorEq, Nat.reduceAdd, Nat.reduceSub, Nat.reduceEqDiff, Nat.reduceLeDiff, Nat.reduceLT, Nat.reduceBEq, Nat.reduceDiv, Nat.reduceMod, Nat.reducePow, Nat.reduceMul, Int.reduceToNat, Int.reduceLT, Int.reduceLE, gI, hb]) | refine an2 ?_ | fail)
    exact W_ret ⟨[_], ⟨rfl, rfl⟩, rfl⟩
  · repeat' (first | refine w1g ?_ | refine w1l ?_ | refine w1q ?_ | refine w1b ?_ | refine w1p ?_ | ((first | refine w1r ?_ | refine w1k ?_ | refine w1e ?_); simp (maxSteps := 400000) (disch := omega) only [push_cast, ↓reduceIte, reduceCtorEq, Nat.reduceAdd, Nat.reduceSub, Nat.reduceEqDiff, Nat.reduceLeDiff, Nat.reduceLT, Nat.reduceBEq, Nat.reduceDiv, Nat.reduceMod, Nat.reducePow, Nat.reduceMul, Int.reduceToNat, Int.reduceLT, Int.reduceLE, gI, hb]) | refine an2 ?_ | fail)
    exact W_ret ⟨[_], ⟨rfl, rfl⟩, rfl⟩
theorem fn37 (left : List Int) (a : Int) (r : Rd) (ha : 0 ≤ a ∧ a < left.length) (ht : 0 ≤ r.t ∧ r.t < left.length) (hc : 1 ≤ r.c ∧ r.c ≤ 1073741824) (hl : 0 ≤ gi left r.t.toNat ∧ gi left r.t.toNat ≤ 1125899906842624) : Sy.Fn Tryz.prog 37 [.agg (cR r), .fp [iv a] 0, .fp [aI left] 0] (bv (pB left a r)) := by
  refine Fn_of_W mixed Xt37 rfl ?_
  have gI : ∀ (l : List Int) i, l.getD i 0 = gi l i := fun _ _ => rfl
  unfold pB
  cases hb : r.f == a
  · repeat' (first | refine w1g ?_ | refine w1l ?_ | refine w1q ?_ | refine w1b ?_ | refine w1p ?_ | ((first | refine w1r ?_ | refine w1k ?_ | refine w1e ?_); simp (maxSteps := 400000) (disch := omega) only [push_cast, ↓reduceIte, reduceCtorEq, Nat.reduceAdd, Nat.reduceSub, Nat.reduceEqDiff, Nat.reduceLeDiff, Nat.reduceLT, Nat.reduceBEq, Nat.reduceDiv, Nat.reduceMod, Nat.reducePow, Nat.reduceMul, Int.reduceToNat, Int.reduceLT, Int.reduceLE, gI, hb]) | refine an2 ?_ | fail)
    exact W_ret ⟨[_], ⟨rfl, rfl⟩, rfl⟩
  · repeat' (first | refine w1g ?_ | refine w1l ?_ | refine w1q ?_ | refine w1b ?_ | refine w1p ?_ | ((first | refine w1r ?_ | refine w1k ?_ | refine w1e ?_); simp (maxSteps := 400000) (disch := omega) only [push_cast, ↓reduceIte, reduceCtorEq, Nat.reduceAdd, Nat.reduceSub, Nat.reduceEqDiff, Nat.reduceLeDiff, Nat.reduceLT, Nat.reduceBEq, Nat.reduceDiv, Nat.reduceMod, Nat.reducePow, Nat.reduceMul, Int.reduceToNat, Int.reduceLT, Int.reduceLE, gI, hb]) | refine an2 ?_ | fail)
    exact W_ret ⟨[_], ⟨rfl, rfl⟩, rfl⟩
def cRt (rs ws : List Int) (c mi : Int) : List AV := [aI rs, aI ws, iv c, iv mi]
def zRt : List AV := [.v (.slice none 0 0), .v (.slice none 0 0), iv 0, iv 0]
def rtC (m : Mp) (f : Nat → Int) (fr to : Int) : Option (List Int × Int) → List AV
  | none => zRt
  | some p => cRt (wayS m f fr to p.1) p.1 p.2 (minL m (wayS m f fr to p.1))
theorem fn9 (m : Mp) (f : Nat → Int) (fr to : Int) (hm : Gm m) : Sy.Fn Tryz.prog 9 [aM m, .agg (c6 f), iv fr, iv to] (.tup [.agg (rtC m f fr to (chV m f fr to)), iv (chE m f fr to)]) := by
  refine Fn_of_W mixed Xt9 rfl ?_
  have c24 := fn24 m f hm
  by_cases h0 : opE m f = 0
  rotate_left
  · have e1 : chV m f fr to = none := by unfold chV; rw [if_neg h0]
    have e2 : chE m f fr to = opE m f := by unfold chE; rw [if_neg h0]
    rw [e1, e2]
    have hv : opV m f = cAt m f ∨ opV m f = zAt := by
      unfold opV
      split
      · exact .inl rfl
      · exact .inr rfl
    generalize opE m f = e at *
    rcases hv with hv | hv
    all_goals
      rw [hv] at c24
      try unfold zAt at c24
      (refine go_c c24 ?_; try exact True.intro)
      refine W_cond (by rfl) (fun h => ?_) (fun h => ?_)
      · (refine go0 ?_; try exact True.intro)
        exact W_ret ⟨[_, _], ⟨⟨by simp, rfl⟩, rfl, rfl⟩, rfl⟩
      · exact absurd (by simpa using h) h0
  have hchk : chkM m = 0 ∧ szE f = 0 := by
    unfold opE at h0
    by_cases q : chkM m = 0
    · rw [if_pos q] at h0; exact ⟨q, h0⟩
    · rw [if_neg q] at h0; exact absurd h0 q
  have hv : opV m f = cAt m f := by unfold opV; rw [if_pos hchk.1]
  have hok := chkM_ok hchk.1
  rw [hv, h0] at c24
  have c25 := fn25 m [fr, to] (by simp)
  have hpl : plsB m [fr, to] = (plB m.n fr && plB m.n to) := by simp [plsB]
  rw [hpl] at c25
  by_cases hp : plB m.n fr = true ∧ plB m.n to = true
  rotate_left
  · have e1 : chV m f fr to = none := by unfold chV; rw [if_pos h0, if_neg hp]
    have e2 : chE m f fr to = 3 := by unfold chE; rw [if_pos h0, if_neg hp]
    have e3 : (plB m.n fr && plB m.n to) = false := by rw [← Bool.not_eq_true, Bool.and_eq_true]; exact hp
    rw [e3] at c25
    rw [e1, e2]
    (refine go_c c24 ?_; try exact True.intro)
    refine W_cond (by rfl) (fun h => by cases h) (fun h => ?_)
    (refine go_c c25 ?_; try exact True.intro)
    refine ⟨rfl, trivial, Int, 0, cI, [fr, to], rfl, by omega, fun x _ => ⟨rfl, rfl⟩, rfl, ?_⟩
    (refine sy1 ?_; try exact True.intro)
    (refine go_g c25 ?_; try exact True.intro)
    refine W_cond (by rfl) (fun h => ?_) (fun h => by cases h)
    (refine go0 ?_; try exact True.intro)
    exact W_ret ⟨[_, _], ⟨⟨by simp, rfl⟩, rfl, rfl⟩, rfl⟩
  have hp1 : (0 ≤ fr ∧ fr < m.n) ∧ (0 ≤ to ∧ to < m.n) := by
    have := hp.1; have := hp.2
    unfold plB at *
    simp only [Bool.and_eq_true, decide_eq_true_eq] at *
    omega
  have e3 : (plB m.n fr && plB m.n to) = true := by rw [hp.1, hp.2]; rfl
  rw [e3] at c25
  have c26 := fn26 m.ws.length hok.nw 28 [] [.fp (cAt m f) 0, .fp [iv to] 0, .fp [iv fr] 0] (cfS m f fr to) (okS m f fr to) (fun x hx => by
    have h1 := costL_set hok hx
    have h2 := dL_rng hok f x true hp1.2 (y := fr.toNat) (by omega)
    have h2 : 0 ≤ gi (dL m f x to) fr.toNat ∧ gi (dL m f x to) fr.toNat ≤ 1125899906842624 := h2
    unfold cfS
    omega) (fun x hx => fn28 m f fr to x hok hx hp1.2 hp1.1)
  have e1 : chV m f fr to = bestS m f fr to := by unfold chV; rw [if_pos h0, if_pos hp]
  have e2 : chE m f fr to = bE (bestS m f fr to) := by unfold chE; rw [if_pos h0, if_pos hp]
  rw [e1, e2]
  have hbs : leastL (cfS m f fr to) (okS m f fr to) (setsM m.ws.length) = bestS m f fr to := rfl
  rw [hbs] at c26
  (refine go_c c24 ?_; try exact True.intro)
  refine W_cond (by rfl) (fun h => by cases h) (fun h => ?_)
  (refine go_c c25 ?_; try exact True.intro)
  refine ⟨rfl, trivial, Int, 0, cI, [fr, to], rfl, by omega, fun x _ => ⟨rfl, rfl⟩, rfl, ?_⟩
  (refine sy1 ?_; try exact True.intro)
  (refine go_g c25 ?_; try exact True.intro)
  refine W_cond (by rfl) (fun h => by cases h) (fun h => ?_)
  (refine go_cg (fun x1 => fn27 x1) c26 ?_; try exact True.intro)
  rcases hb : bestS m f fr to with _ | ⟨s, n⟩
  · refine W_cond (by rfl) (fun h => ?_) (fun h => by cases h)
    (refine go0 ?_; try exact True.intro)
    exact W_ret ⟨[_, _], ⟨⟨by simp, rfl⟩, rfl, rfl⟩, rfl⟩
  obtain ⟨b1, b2, b3, b4⟩ := best_some hb
  have c32 := fn32 s m.ws.length hok.nw b2
  have c29 := dL_fn m f s to true hok b2 hp1.2
  have hl := dL_len hok f s true hp1.2
  have hlr : ∀ y, y < m.n.toNat → 0 ≤ gi (dstC m true (cU m f s) to) y ∧ gi (dstC m true (cU m f s) to) y ≤ 1125899906842624 := fun y hy => dL_rng hok f s true hp1.2 hy
  have hd : dL m f s to = dstC m true (cU m f s) to := rfl
  rw [← hd] at c29 hl hlr
  have hA0 : AtW m f s (dL m f s to) to fr := ⟨hp1.1, (by have := hlr fr.toNat (by omega); omega), (by unfold okS at b3; rw [decide_eq_true_eq] at b3; exact b3)⟩
  refine W_cond (by rfl) (fun h => by cases h) (fun h => ?_)
  (refine go_cc (fun x1 => fn33 x1) c32 ?_; try exact True.intro)
  (refine go_cc (fn30 m f (msk s)) c29 ?_; try exact True.intro)
  have hN := hok.n
  obtain ⟨left, hleft⟩ : ∃ left, left = dL m f s to := ⟨_, rfl⟩
  have hbC : bC (some (s, n)) = n := rfl
  have hbS : bS (some (s, n)) = msk s := rfl
  have hres : rtC m f fr to (some (s, n)) = cRt (wayS m f fr to s) s n (minL m (wayS m f fr to s)) := rfl
  have hway : wayS m f fr to s = wayC m f s left to m.n.toNat fr := by rw [hleft]; rfl
  have hres2 : bE (some (s, n)) = 0 := rfl
  rw [hres, hres2, hway]
  rw [hbC, hbS]
  rw [← hleft] at hl hlr hA0 ⊢
  refine W_le (le_adoptC 45 0 3 1 (0 : Int) cI (by omega) _ rfl rfl (by simp)) ?_
  (refine sy1 ?_; try exact True.intro)
  refine W_loopU (fun u : Nat × Int × List Int => []) (fun u => [(2, .cells [iv u.2.1]), (45, .cells [.row 55 u.2.2.length, aI s, iv n, iv (minL m u.2.2)]), (55, .row u.2.2.length 3 1 0 cI u.2.2)]) (fun u => AtW m f s left to u.2.1 ∧ rk left m.n.toNat u.2.1.toNat ≤ u.1 ∧ u.2.2 ++ wayC m f s left to u.1 u.2.1 = wayC m f s left to m.n.toNat fr ∧ u.2.2.length + u.1 ≤ 64 ∧ 0 ≤ minL m u.2.2 ∧ minL m u.2.2 ≤ 1440 * u.2.2.length) (fun u => u.1) (m.n.toNat, fr, []) ⟨hA0, rk_le _ _ _, List.nil_append _, by simp; omega, by simp [minL], by simp [minL]⟩ (by rfl) (by rfl) (fun u hu => ?_)
  obtain ⟨k, a, acc⟩ := u
  obtain ⟨q1, q2, q3, q4, q5, q6⟩ := hu
  dsimp only at q1 q2 q3 q4 q5 q6 ⊢
  (refine sy1 ?_; try exact True.intro)
  (refine go0 ?_; try exact True.intro)
  refine W_cond (by rfl) (fun hb => ?_) (fun hb => ?_)
  · have hne : a ≠ to := by rw [bne_iff_ne] at hb; exact hb
    rw [hleft] at q1 q2
    obtain ⟨x1, x2, x3⟩ := nxt_spec hok hp1.2 q1 hne
    obtain ⟨y1, y2, y3, y4, y5⟩ := hit_step hok hp1.2 q1 x1 x2
    rw [← hleft] at q1 q2 x1 x2 x3 y1 y2 y3 y4 y5
    have ha := q1.r
    have hcl : ∀ r ∈ m.rs, Sy.Fn Tryz.prog 35 ([] ++ [.agg (cR r)] ++ [.fp [iv a] 0, .fp [aI left] 0]) (bv (pB left a r)) := fun r hr => by
      obtain ⟨i, hi, rfl⟩ := List.mem_iff_getElem.1 hr
      have hri := roadB_ok (hok.r i hi)
      have e : gr m i = m.rs[i] := by simp [gr, List.getD, hi]
      rw [e] at hri
      have := hri.t
      exact fn35 left a _ (by rw [hl]; omega) (by rw [hl]; omega) hri.c (hlr _ (by omega))
    have hnr := hok.nr
    have c34 := fn34 m.rs (by omega) 35 [] [.fp [iv a] 0, .fp [aI left] 0] (pB left a) hcl
    obtain ⟨x, hx⟩ : ∃ x, x = nxt m f s left a := ⟨_, rfl⟩
    rw [← hx] at x1 x2 x3 y1 y2 y3 y4 y5
    have hpx : pB left a (gr m x) = true := by unfold hitB at x2; rw [Bool.and_eq_true] at x2; exact x2.2
    obtain ⟨i0, z1, z2, z3, z4⟩ := fst_ex (p := fun i => pB left a (gr m i)) m.rs.length 0 x (by omega) (by omega) hpx
    have hi0 : idxF (pB left a) m.rs 0 = (i0 : Int) := by
      rw [idxF_at (pB left a) dR m.rs i0 0 (by omega) (fun j hj => z4 j (by omega) hj) z3]; omega
    rw [hi0] at c34
    have hno : ∀ j, pB left a (gr m j) = false → hitB m f s left a j = false := fun j hj => by unfold hitB; rw [hj, Bool.and_false]
    (refine go_g c34 ?_; try exact True.intro)
    refine W_loopU (fun i : Nat => [(18, iv i)]) (fun i => []) (fun i => i < m.rs.length ∧ pB left a (gr m i) = true ∧ ∀ j, j < i → hitB m f s left a j = false) (fun i => m.rs.length - i) i0 ⟨by omega, z3, fun j hj => hno j (z4 j (by omega) hj)⟩ (by rfl) (by rfl) (fun i hi => ?_)
    obtain ⟨w1, w2, w3⟩ := hi
    have c36 := fn36 m f s (msk s) i hok (setW_msk b2) w1
    (refine sy1 ?_; try exact True.intro)
    (refine go_g c36 ?_; try exact True.intro)
    refine W_cond (by rfl) (fun hu => ?_) (fun hu => ?_)
    · have hu : usB m f s i = false := by simpa using hu
      have hix : i < x := by
        rcases Nat.lt_trichotomy i x with q | q | q
        · exact q
        · rw [← q, hu] at y1; cases y1
        · rw [w3 x q] at x2; cases x2
      obtain ⟨i1, v1, v2, v3, v4⟩ := fst_ex (p := fun i => pB left a (gr m i)) (m.rs.length - (i + 1)) (i + 1) x (by omega) (by omega) hpx
      have hgd : ∀ j, (m.rs.drop (i + 1)).getD j dR = gr m (i + 1 + j) := fun j => by simp [gr, List.getD]
      have c34 := fn34 (m.rs.drop (i + 1)) (by rw [List.length_drop]; omega) 37 [] [.fp [iv a] 0, .fp [aI left] 0] (pB left a) (fun r hr => by
        have hr := List.mem_of_mem_drop hr
        obtain ⟨i, hi, rfl⟩ := List.mem_iff_getElem.1 hr
        have hri := roadB_ok (hok.r i hi)
        have e : gr m i = m.rs[i] := by simp [gr, List.getD, hi]
        rw [e] at hri
        have := hri.t
        exact fn37 left a _ (by rw [hl]; omega) (by rw [hl]; omega) hri.c (hlr _ (by omega)))
      have hi1 : idxF (pB left a) (m.rs.drop (i + 1)) 0 = ((i1 - (i + 1) : Nat) : Int) := by
        rw [idxF_at (pB left a) dR (m.rs.drop (i + 1)) (i1 - (i + 1)) 0 (by rw [List.length_drop]; omega) (fun j hj => by rw [hgd]; exact v4 (i + 1 + j) (by omega) (by omega)) (by rw [hgd, show i + 1 + (i1 - (i + 1)) = i1 by omega]; exact v3)]; omega
      rw [hi1] at c34
      (refine go_g c34 ?_; try exact True.intro)
      refine ⟨i1, ⟨by omega, v3, fun j hj => ?_⟩, by omega, by rfl, ?_⟩
      · rcases Nat.lt_trichotomy j i with q | q | q
        · exact w3 j q
        · rw [q]; unfold hitB; rw [hu]; rfl
        · exact hno j (v4 j (by omega) hj)
      · have e : (i : Int) + (1 + ((i1 : Int) - ((i : Int) + 1))) = i1 := by omega
        (refine eqf e ?_; try exact True.intro)
    · have hu : usB m f s i = true := by simpa using hu
      have hhit : hitB m f s left a i = true := by unfold hitB; rw [hu, w2]; rfl
      have hix : i = x := by
        rcases Nat.lt_trichotomy i x with q | q | q
        · rw [x3 i q] at hhit; cases hhit
        · exact q
        · rw [w3 x q] at x2; cases x2
      subst hix
      have hgr : m.rs.getD i dR = gr m i := rfl
      have hm1 := (roadB_ok (hok.r i w1)).m
      have hms : minL m (acc ++ [(i : Int)]) = minL m acc + (gr m i).m := by rw [minL_snoc]; rfl
      obtain ⟨k', hk'⟩ : ∃ k', k = k' + 1 := ⟨k - 1, by omega⟩
      have hw1 : wayC m f s left to k a = (i : Int) :: wayC m f s left to k' (gr m i).t := by
        rw [hk']
        simp only [wayC]
        rw [if_neg hne, ← hx]
      (refine go0 ?_; try exact True.intro)
      refine ⟨rfl, trivial, Int, 0, cI, [(i : Int)], rfl, by omega, fun x _ => ⟨rfl, rfl⟩, rfl, ?_⟩
      (refine sy1 ?_; try exact True.intro)
      refine ⟨rfl, ⟨Nat.le_of_ble_eq_true rfl, rfl⟩, trivial, [(i : Int)], rfl, by first | omega | (simp; omega), by first | omega | (simp; omega), ?_⟩
      (refine sy1 ?_; try exact True.intro)
      (refine gof hgr ?_; try exact True.intro)
      refine ⟨(k', (gr m i).t, acc ++ [(i : Int)]), ⟨y4, by dsimp only; omega, ?_, ?_, ?_, ?_⟩, by dsimp only; omega, by rfl, ?_⟩
      · dsimp only
        rw [← q3, hw1, List.append_assoc]; rfl
      · dsimp only; rw [List.length_append]; simp only [List.length_singleton]; omega
      · dsimp only; rw [hms]; omega
      · dsimp only; rw [hms, List.length_append]; simp only [List.length_singleton]; omega
      · dsimp only
        rw [hms, List.length_append]
        (refine syE ?_; try exact True.intro)
  · have hat : a = to := by simpa using hb
    have hw1 : wayC m f s left to k a = [] := by
      cases k with
      | zero => rfl
      | succ k => simp only [wayC]; rw [if_pos hat]
    rw [hw1, List.append_nil] at q3
    rw [← q3]
    (refine go0 ?_; try exact True.intro)
    refine W_ret ⟨[_, _], ⟨⟨by simp, rfl⟩, rfl, rfl⟩, ?_⟩
    (refine syP ?_; try exact True.intro)
    rfl
end Go.Proofs.YtcfomfajpmlleaaGreat.R

namespace Go.Proofs.YtcfomfajpmlleaaGreat.R
open Go Sy
set_option maxRecDepth 100000
set_option maxHeartbeats 4000000
set_option linter.unusedVariables false
set_option linter.unusedSimpArgs false
theorem take_snoc {l : List Int} {i : Nat} (h : i < l.length) : l.take (i + 1) = l.take i ++ [gi l i] := by
  rw [List.take_succ_eq_append_getElem h]
  simp [gi, List.getD, h]
theorem rdE_ok {m : Mp} {l : List Int} (h : rdE m l = 0) : l.length ≤ 256 ∧ ∀ i, i < l.length → 0 ≤ gi l i ∧ gi l i < m.rs.length := by
  unfold rdE at h
  by_cases q : 256 < l.length
  · rw [if_pos q] at h; omega
  · rw [if_neg q] at h
    by_cases q2 : (l.any fun x => !plB m.rs.length x) = true
    · rw [if_pos q2] at h; omega
    · refine ⟨by omega, fun i hi => ?_⟩
      rw [List.any_eq_true] at q2
      have h1 : gi l i ∈ l := getD_mem 0 l i hi
      have h2 : ¬ (!plB m.rs.length (gi l i)) = true := fun z => q2 ⟨_, h1, z⟩
      unfold plB at h2
      simp only [Bool.not_eq_true', Bool.not_eq_false, Bool.and_eq_true, decide_eq_true_eq] at h2
      exact h2
end Go.Proofs.YtcfomfajpmlleaaGreat.R

namespace Go.Proofs.YtcfomfajpmlleaaGreat.R
open Go Sy
set_option maxRecDepth 100000
set_option maxHeartbeats 4000000
set_option linter.unusedVariables false
set_option linter.unusedSimpArgs false
end Go.Proofs.YtcfomfajpmlleaaGreat.R

namespace Go.Proofs.YtcfomfajpmlleaaGreat.R
open Go Sy
set_option linter.unusedVariables false
theorem mem_brn {n : Nat} : ∀ (d : Nat) (l : List Int) (i : Nat) (t : List Int), i + d = n → Srt n i t → t ≠ [] → l ++ t ∈ brn d l i
  | _, _, _, [], _, _, h => absurd rfl h
  | 0, l, i, x :: t, hi, hs, _ => by
    have := hs.1; have := hs.2.1; omega
  | d + 1, l, i, x :: t, hi, hs, _ => by
    obtain ⟨h1, h2, h3⟩ := hs
    simp only [brn, List.cons_append, List.mem_cons, List.mem_append]
    by_cases q : x = i
    · rw [q] at h3 ⊢
      cases t with
      | nil => exact .inl rfl
      | cons y t =>
        right; left
        have := mem_brn d (l ++ [(i : Int)]) (i + 1) (y :: t) (by omega) h3 (by simp)
        rwa [List.append_assoc] at this
    · right; right
      exact mem_brn d l (i + 1) (x :: t) (by omega) ⟨by omega, h2, h3⟩ (by simp)
theorem mem_sets {n : Nat} {l : List Int} (h : Srt n 0 l) : l ∈ setsM n := by
  cases l with
  | nil => exact List.mem_cons_self
  | cons x l =>
    refine List.mem_cons_of_mem _ ?_
    exact mem_brn n [] 0 (x :: l) (by omega) h (by simp)
theorem lstep_keep {g : List Int → Int} {ok : List Int → Bool} {x y : List Int} {n : Int} : ∃ z k, lstep g ok (some (y, n)) x = some (z, k) ∧ k ≤ n := by
  unfold lstep
  by_cases c : ok x = true
  · rw [if_pos c]
    dsimp only
    split
    · exact ⟨_, _, rfl, by omega⟩
    · exact ⟨_, _, rfl, Int.le_refl _⟩
  · rw [if_neg c]
    exact ⟨_, _, rfl, Int.le_refl _⟩
theorem leastL_keep {g : List Int → Int} {ok : List Int → Bool} : ∀ (l : List (List Int)) (y : List Int) (n : Int), ∃ z k, l.foldl (lstep g ok) (some (y, n)) = some (z, k) ∧ k ≤ n
  | [], y, n => ⟨y, n, rfl, Int.le_refl _⟩
  | x :: l, y, n => by
    obtain ⟨z, k, h1, h2⟩ := lstep_keep (g := g) (ok := ok) (x := x) (y := y) (n := n)
    obtain ⟨z2, k2, h3, h4⟩ := leastL_keep l z k
    refine ⟨z2, k2, ?_, by omega⟩
    rw [List.foldl_cons, h1, h3]
theorem leastL_le {g : List Int → Int} {ok : List Int → Bool} : ∀ (l : List (List Int)) (b : Option (List Int × Int)) (x : List Int), x ∈ l → ok x = true → ∃ z k, l.foldl (lstep g ok) b = some (z, k) ∧ k ≤ g x
  | [], b, x, h, _ => by cases h
  | y :: l, b, x, h, hx => by
    rcases List.mem_cons.1 h with rfl | h
    · have h1 : ∃ z k, lstep g ok b x = some (z, k) ∧ k ≤ g x := by
        unfold lstep
        rw [if_pos hx]
        cases b with
        | none => exact ⟨_, _, rfl, Int.le_refl _⟩
        | some p =>
          obtain ⟨y, n⟩ := p
          dsimp only
          split
          · exact ⟨_, _, rfl, Int.le_refl _⟩
          · exact ⟨_, _, rfl, by omega⟩
      obtain ⟨z, k, h2, h3⟩ := h1
      obtain ⟨z2, k2, h4, h5⟩ := leastL_keep (g := g) (ok := ok) l z k
      refine ⟨z2, k2, ?_, by omega⟩
      rw [List.foldl_cons, h2, h4]
    · exact leastL_le l (lstep g ok b y) x h hx
theorem best_le {m : Mp} {f : Nat → Int} {fr to : Int} {s : List Int} (hs : Srt m.ws.length 0 s) (ho : okS m f fr to s = true) : ∃ z k, bestS m f fr to = some (z, k) ∧ k ≤ cfS m f fr to s :=
  leastL_le _ none s (mem_sets hs) ho
theorem Srt.more {n n' : Int} (hn : n ≤ n') : ∀ {l : List Int} {lo : Int}, Srt n lo l → Srt n' lo l
  | [], _, _ => trivial
  | x :: l, lo, h => ⟨h.1, by have := h.2.1; omega, Srt.more hn h.2.2⟩
end Go.Proofs.YtcfomfajpmlleaaGreat.R

namespace Go.Proofs.YtcfomfajpmlleaaGreat.R
open Go Sy
set_option maxRecDepth 100000
set_option maxHeartbeats 4000000
set_option linter.unusedVariables false
set_option linter.unusedSimpArgs false
structure Big (m : Mp) : Prop where
  r : m.rs.length ≤ 140737488355328
  w : m.ws.length ≤ 140737488355328
  s : ∀ w ∈ m.ws, w.rs.length ≤ 140737488355328
structure Val (m : Mp) (f : Nat → Int) (fr to : Int) : Prop where
  g : greatB m = false
  c : chkM m = 0
  z : szE f = 0
  f : 0 ≤ fr ∧ fr < m.n
  t : 0 ≤ to ∧ to < m.n
theorem Val.ok {m : Mp} {f : Nat → Int} {fr to : Int} (h : Val m f fr to) : OkM m := chkM_ok h.c
theorem Val.op {m : Mp} {f : Nat → Int} {fr to : Int} (h : Val m f fr to) : opE m f = 0 := by unfold opE; rw [if_pos h.c]; exact h.z
theorem plB_of {n x : Int} (h : 0 ≤ x ∧ x < n) : plB n x = true := by unfold plB; rw [decide_eq_true h.1, decide_eq_true h.2]; rfl
theorem Val.cv {m : Mp} {f : Nat → Int} {fr to : Int} (h : Val m f fr to) : chV m f fr to = bestS m f fr to := by unfold chV; rw [if_pos h.op, if_pos ⟨plB_of h.f, plB_of h.t⟩]
end Go.Proofs.YtcfomfajpmlleaaGreat.R

namespace Go.Proofs.YtcfomfajpmlleaaGreat.R
open Go Sy
set_option linter.unusedVariables false
def evL (n : Nat) : List Int := (List.range n).map fun i : Nat => (i : Int)
theorem ev_mem {n : Nat} {x : Int} : x ∈ evL n ↔ 0 ≤ x ∧ x < n := by
  unfold evL
  rw [List.mem_map]
  constructor
  · rintro ⟨i, hi, rfl⟩
    have := List.mem_range.1 hi
    omega
  · rintro ⟨h1, h2⟩
    exact ⟨x.toNat, List.mem_range.2 (by omega), by omega⟩
theorem rng_srt {n : Nat} : ∀ (k lo : Nat), lo + k ≤ n → Srt n lo ((List.range' lo k).map fun i : Nat => (i : Int))
  | 0, lo, h => trivial
  | k + 1, lo, h => by
    rw [List.range'_succ, List.map_cons]
    refine ⟨Int.le_refl _, by omega, ?_⟩
    have := rng_srt (n := n) k (lo + 1) (by omega)
    exact this
theorem ev_srt (n : Nat) : Srt n 0 (evL n) := by
  have := rng_srt (n := n) n 0 (by omega)
  unfold evL
  rw [List.range_eq_range']
  exact this
theorem ev_succ (n : Nat) : evL (n + 1) = evL n ++ [(n : Int)] := by
  unfold evL
  rw [List.range_succ, List.map_append]; rfl
theorem ev_len (n : Nat) : (evL n).length = n := by simp [evL]
theorem msk_ev (n : Nat) : msk (evL n) = 2 ^ n - 1 := by
  apply Nat.eq_of_testBit_eq
  intro i
  rw [(msk_bits fun x hx => (ev_mem.1 hx).1).b, Nat.testBit_two_pow_sub_one]
  congr 1
  rw [ev_mem, eq_iff_iff]
  omega
theorem limL_iff {m : Mp} {road k : Nat} {b : Int} : ∀ {l : List Int} {a : Int}, l.foldl (fun n x => limS m road k n x.toNat) a ≤ b ↔ a ≤ b ∧ ∀ x ∈ l, ((gw m x.toNat).k = k ∧ (road : Int) ∈ (gw m x.toNat).rs) → (gw m x.toNat).l ≤ b
  | [], a => by simp
  | x :: l, a => by
    rw [List.foldl_cons, limL_iff]
    unfold limS
    constructor
    · rintro ⟨h1, h2⟩
      by_cases q : (gw m x.toNat).k = k ∧ (road : Int) ∈ (gw m x.toNat).rs
      · rw [if_pos q] at h1
        refine ⟨by omega, fun y hy hq => ?_⟩
        rcases List.mem_cons.1 hy with rfl | hy
        · omega
        · exact h2 y hy hq
      · rw [if_neg q] at h1
        refine ⟨h1, fun y hy hq => ?_⟩
        rcases List.mem_cons.1 hy with rfl | hy
        · exact absurd hq q
        · exact h2 y hy hq
    · rintro ⟨h1, h2⟩
      refine ⟨?_, fun y hy hq => h2 y (List.mem_cons_of_mem _ hy) hq⟩
      split
      · rename_i q
        have := h2 x List.mem_cons_self q
        omega
      · exact h1
theorem limL_mono {m : Mp} {s t : List Int} (h : ∀ x ∈ s, x ∈ t) (road k : Nat) : limL m s road k ≤ limL m t road k := by
  obtain ⟨h1, h2⟩ := limL_iff.1 (Int.le_refl (limL m t road k))
  exact limL_iff.2 ⟨h1, fun x hx hq => h2 x (h x hx) hq⟩
theorem usB_mono {m : Mp} {f : Nat → Int} {s t : List Int} (h : ∀ x ∈ s, x ∈ t) {i : Nat} (hu : usB m f s i = true) : usB m f t i = true :=
  usN_iff.2 fun k hk => by have := usN_iff.1 hu k hk; have := limL_mono (m := m) h i k; omega
theorem srt_ev {n : Nat} {s : List Int} (h : Srt n 0 s) : ∀ x ∈ s, x ∈ evL n := fun x hx => ev_mem.2 (h.mem x hx)
theorem setB_at {l : List Int} {n : Int} (h : setB l n = true) : ∀ i, i < l.length → lastI l i < gi l i ∧ gi l i < n := fun i hi => by
  unfold setB at h
  rw [List.all_eq_true] at h
  have := h i (List.mem_range.2 hi)
  unfold okAt at this
  rwa [Bool.and_eq_true, decide_eq_true_eq, decide_eq_true_eq] at this
theorem srt_of {n : Int} : ∀ (l : List Int) (lo : Int), (∀ i, i < l.length → (if i = 0 then lo - 1 else gi l (i - 1)) < gi l i ∧ gi l i < n) → Srt n lo l
  | [], lo, _ => trivial
  | x :: l, lo, h => by
    have h0 := h 0 (by simp)
    rw [if_pos rfl] at h0
    have e0 : gi (x :: l) 0 = x := rfl
    rw [e0] at h0
    refine ⟨by omega, h0.2, srt_of l (x + 1) (fun i hi => ?_)⟩
    have h1 := h (i + 1) (by simpa using hi)
    rw [if_neg (by omega)] at h1
    have e1 : gi (x :: l) (i + 1) = gi l i := by simp [gi]
    rw [e1] at h1
    by_cases q : i = 0
    · rw [if_pos q]
      subst q
      have e2 : gi (x :: l) (0 + 1 - 1) = x := rfl
      rw [e2] at h1
      exact ⟨by omega, h1.2⟩
    · rw [if_neg q]
      have e2 : gi (x :: l) (i + 1 - 1) = gi l (i - 1) := by
        obtain ⟨j, rfl⟩ : ∃ j, i = j + 1 := ⟨i - 1, by omega⟩
        simp [gi]
      rw [e2] at h1
      exact h1
theorem setB_srt {l : List Int} {n : Int} (h : setB l n = true) : Srt n 0 l := srt_of l 0 (fun i hi => by
  have := setB_at h i hi
  unfold lastI at this
  split <;> rename_i q
  · rw [if_pos q] at this; omega
  · rw [if_neg q] at this; exact this)
theorem srt_at {n : Int} : ∀ (l : List Int) (lo : Int), Srt n lo l → ∀ i, i < l.length → (if i = 0 then lo - 1 else gi l (i - 1)) < gi l i ∧ gi l i < n
  | [], _, _, i, hi => by simp at hi
  | x :: l, lo, h, 0, _ => by
    rw [if_pos rfl]
    have e0 : gi (x :: l) 0 = x := rfl
    rw [e0]
    have := h.1; have := h.2.1
    omega
  | x :: l, lo, h, i + 1, hi => by
    rw [if_neg (by omega)]
    have h1 := srt_at l (x + 1) h.2.2 i (by simpa using hi)
    have e1 : gi (x :: l) (i + 1) = gi l i := by simp [gi]
    rw [e1]
    by_cases q : i = 0
    · subst q
      rw [if_pos rfl] at h1
      have e2 : gi (x :: l) (0 + 1 - 1) = x := rfl
      rw [e2]
      omega
    · rw [if_neg q] at h1
      have e2 : gi (x :: l) (i + 1 - 1) = gi l (i - 1) := by
        obtain ⟨j, rfl⟩ : ∃ j, i = j + 1 := ⟨i - 1, by omega⟩
        simp [gi]
      rw [e2]
      exact h1
theorem srt_setB {l : List Int} {n : Int} (h : Srt n 0 l) : setB l n = true := by
  unfold setB
  rw [List.all_eq_true]
  intro i hi
  have := srt_at l 0 h i (List.mem_range.1 hi)
  unfold okAt lastI
  rw [Bool.and_eq_true, decide_eq_true_eq, decide_eq_true_eq]
  split <;> rename_i q
  · rw [if_pos q] at this; omega
  · rw [if_neg q] at this; exact this
theorem filter_srt {n : Int} (p : Int → Bool) : ∀ (l : List Int) (lo : Int), Srt n lo l → Srt n lo (l.filter p)
  | [], _, _ => trivial
  | x :: l, lo, h => by
    rw [List.filter_cons]
    split
    · exact ⟨h.1, h.2.1, filter_srt p l _ h.2.2⟩
    · exact (filter_srt p l _ h.2.2).weak (by have := h.1; omega)
theorem Wk.pre {es : List Edg} {e : Edg} (he : e ∈ es) (hc : 0 ≤ e.c) {y : Nat} {d : Int} (h : Wk es e.y y d) : Wk es e.x y (e.c + d) := by
  induction h with
  | nil => rw [show e.c + 0 = 0 + e.c by omega]; exact .snoc .nil he hc
  | snoc _ h2 h3 ih => rw [← Int.add_assoc]; exact .snoc ih h2 h3
theorem Wk.rev {m : Mp} {c : Nat → Int} {bk : Bool} {s y : Nat} {d : Int} (h : Wk (edgC m bk c) s y d) : Wk (edgC m (!bk) c) y s d := by
  induction h with
  | nil => exact .nil
  | snoc _ h2 h3 ih =>
    rename_i e d' _
    obtain ⟨i, hi, rfl⟩ := List.mem_map.1 h2
    have e1 : (edC m (!bk) c i).x = (edC m bk c i).y := by cases bk <;> rfl
    have e2 : (edC m (!bk) c i).y = (edC m bk c i).x := by cases bk <;> rfl
    have e3 : (edC m (!bk) c i).c = (edC m bk c i).c := by cases bk <;> rfl
    rw [← e2] at ih
    have := Wk.pre (List.mem_map.2 ⟨i, hi, rfl⟩) (by rw [e3]; exact h3) ih
    rw [e1, e3] at this
    rw [Int.add_comm]
    exact this
theorem dist_bound {es : List Edg} {s n : Nat} {os : List Int} (hr : ∀ e ∈ es, e.x < n ∧ e.y < n) (hp : ∀ e ∈ es, 0 ≤ e.c → 1 ≤ e.c ∧ e.c ≤ 1073741824) (h : Dst es s n os) (hf : Fix es os) : ∀ (k y : Nat), rk os n y ≤ k → y < n → gi os y < far → gi os y ≤ k * 1073741824
  | 0, y, hk, hy, hl => by
    rcases last_road hr h hf hy hl with rfl | ⟨e, he, h1, h2, h3⟩
    · rw [h.src]; omega
    · have := rk_lt (os := os) (x := e.x) (y := y) (hr e he).1 (by have := hp e he h2; omega)
      omega
  | k + 1, y, hk, hy, hl => by
    rcases last_road hr h hf hy hl with rfl | ⟨e, he, h1, h2, h3⟩
    · rw [h.src]; omega
    · have hc := hp e he h2
      have := rk_lt (os := os) (x := e.x) (y := y) (hr e he).1 (by omega)
      have := dist_bound hr hp h hf k e.x (by omega) (hr e he).1 (by omega)
      push_cast
      omega
theorem fin_iff {m : Mp} (h : OkM m) (f : Nat → Int) (s : List Int) (bk : Bool) {to : Int} (ht : 0 ≤ to ∧ to < m.n) {y : Nat} (hy : y < m.n.toNat) : (gi (dstC m bk (cU m f s) to) y < far → gi (dstC m bk (cU m f s) to) y ≤ 68719476736) := by
  obtain ⟨h1, h2⟩ := dL_dst h f s bk ht
  obtain ⟨k1, k2⟩ := edgC_ok h bk (c := cU m f s) (fun i hi => (cU_rng h f s hi).1)
  intro hl
  have hp : ∀ e ∈ edgC m bk (cU m f s), 0 ≤ e.c → 1 ≤ e.c ∧ e.c ≤ 1073741824 := fun e he hc => by
    obtain ⟨i, hi, rfl⟩ := List.mem_map.1 he
    have ec : (edC m bk (cU m f s) i).c = cU m f s i := by unfold edC; split <;> rfl
    have := cU_rng h f s (List.mem_range.1 hi)
    rw [ec] at hc ⊢
    omega
  have := dist_bound k1 hp h1 h2 m.n.toNat y (rk_le _ _ _) hy hl
  have := h.n
  have : (m.n.toNat : Int) * 1073741824 ≤ 64 * 1073741824 := by omega
  omega
theorem us_edge {m : Mp} {f : Nat → Int} {s : List Int} {bk : Bool} {i : Nat} (hi : i < m.rs.length) (hu : usB m f s i = true) : edC m bk (cU m f s) i ∈ edgC m bk (cU m f s) ∧ (edC m bk (cU m f s) i).c = (gr m i).c := by
  refine ⟨List.mem_map.2 ⟨i, List.mem_range.2 hi, rfl⟩, ?_⟩
  have ec : (edC m bk (cU m f s) i).c = cU m f s i := by unfold edC; split <;> rfl
  rw [ec]; unfold cU edB; simp [hu]
theorem edge_us {m : Mp} {f : Nat → Int} {s : List Int} {bk : Bool} {e : Edg} (he : e ∈ edgC m bk (cU m f s)) (hc : 0 ≤ e.c) : ∃ i, i < m.rs.length ∧ e = edC m bk (cU m f s) i ∧ usB m f s i = true := by
  obtain ⟨i, hi, rfl⟩ := List.mem_map.1 he
  refine ⟨i, List.mem_range.1 hi, rfl, ?_⟩
  have ec : (edC m bk (cU m f s) i).c = cU m f s i := by unfold edC; split <;> rfl
  rw [ec] at hc
  apply Classical.byContradiction
  intro z
  have : cU m f s i = -1 := by unfold cU edB; simp [z]
  omega
def rcP (m : Mp) (f : Nat → Int) (s : List Int) (a : Int) (i : Int) : Bool := decide (gi (dstC m false (cU m f s) a) i.toNat < 1125899906842624)
def rcL (m : Mp) (f : Nat → Int) (s : List Int) (a : Int) : List Int := (evL m.n.toNat).filter (rcP m f s a)
theorem rc_mem {m : Mp} {f : Nat → Int} {s : List Int} {a x : Int} : x ∈ rcL m f s a ↔ (0 ≤ x ∧ x < m.n.toNat) ∧ gi (dstC m false (cU m f s) a) x.toNat < far := by
  unfold rcL rcP
  rw [List.mem_filter, ev_mem, decide_eq_true_eq]
theorem rc_srt (m : Mp) (f : Nat → Int) (s : List Int) (a : Int) : Srt m.n.toNat 0 (rcL m f s a) := filter_srt _ _ _ (ev_srt _)
theorem reach_iff {m : Mp} (h : OkM m) {f : Nat → Int} {fr to : Int} (hf : 0 ≤ fr ∧ fr < m.n) (ht : 0 ≤ to ∧ to < m.n) : to ∈ rcL m f (evL m.ws.length) fr ↔ ∃ p, bestS m f fr to = some p := by
  rw [rc_mem]
  obtain ⟨a1, a2⟩ := dL_dst h f (evL m.ws.length) false hf
  obtain ⟨k1, k2⟩ := edgC_ok h false (c := cU m f (evL m.ws.length)) (fun i hi => (cU_rng h f _ hi).1)
  obtain ⟨a3, a4⟩ := dL_dst h f (evL m.ws.length) true ht
  obtain ⟨k3, k4⟩ := edgC_ok h true (c := cU m f (evL m.ws.length)) (fun i hi => (cU_rng h f _ hi).1)
  constructor
  · rintro ⟨h1, h2⟩
    rcases a1.ach to.toNat (by omega) with h3 | ⟨_, h3⟩
    · omega
    · have h4 := fix_le k3 a3 a4 h3.rev
      have h5 : okS m f fr to (evL m.ws.length) = true := by
        unfold okS dL
        rw [decide_eq_true_eq]
        have h2 : gi (dstC m false (cU m f (evL m.ws.length)) fr) to.toNat < 1125899906842624 := h2
        omega
      obtain ⟨z, k, h6, _⟩ := best_le (ev_srt m.ws.length) h5
      exact ⟨_, h6⟩
  · rintro ⟨⟨s, n⟩, hb⟩
    obtain ⟨_, b2, b3, _⟩ := best_some hb
    refine ⟨by omega, ?_⟩
    obtain ⟨c1, c2⟩ := dL_dst h f s true ht
    unfold okS dL at b3
    rw [decide_eq_true_eq] at b3
    rcases c1.ach fr.toNat (by omega) with h3 | ⟨_, h3⟩
    · have h3 : gi (dstC m true (cU m f s) to) fr.toNat = 1125899906842624 := h3
      omega
    · have h4 := h3.rev
      have h5 := fix_le k1 a1 a2 (h4.mono (fun e he hc => by
        obtain ⟨i, hi, rfl, hu⟩ := edge_us he hc
        have hu2 := usB_mono (srt_ev b2) hu
        have e1 := us_edge (bk := !true) hi hu
        have e2 := us_edge (bk := !true) hi hu2
        have : edC m (!true) (cU m f s) i = edC m false (cU m f (evL m.ws.length)) i := by
          have q1 := e1.2; have q2 := e2.2
          have q3 : (edC m (!true) (cU m f s) i).c = cU m f s i := rfl
          have q4 : (edC m (!true) (cU m f (evL m.ws.length)) i).c = cU m f (evL m.ws.length) i := rfl
          show Edg.mk _ _ (cU m f s i) = Edg.mk _ _ (cU m f (evL m.ws.length) i)
          rw [← q3, ← q4, q1, q2]
        rw [this]
        exact e2.1))
      have h6 := dL_rng h f s true ht (y := fr.toNat) (by omega)
      show gi (dstC m false (cU m f (evL m.ws.length)) fr) to.toNat < 1125899906842624
      omega
def cutB (m : Mp) (f : Nat → Int) (l : List Int) (i : Nat) : Bool := decide ((gr m i).f ∈ l) && !decide ((gr m i).t ∈ l) && usB m f (evL m.ws.length) i
def ctE (m : Mp) (f : Nat → Int) (fr to : Int) (l : List Int) : Int :=
  if opE m f = 0 then (if plB m.n fr = true ∧ plB m.n to = true then (if setB l m.n = true then (if fr ∈ l ∧ to ∉ l then (if (List.range m.rs.length).any (cutB m f l) = true then 16 else 0) else 16) else 3) else 3) else opE m f
theorem reach_cut {m : Mp} (h : OkM m) {f : Nat → Int} {fr : Int} (hf : 0 ≤ fr ∧ fr < m.n) : fr ∈ rcL m f (evL m.ws.length) fr ∧ (List.range m.rs.length).any (cutB m f (rcL m f (evL m.ws.length) fr)) = false := by
  obtain ⟨a1, a2⟩ := dL_dst h f (evL m.ws.length) false hf
  refine ⟨rc_mem.2 ⟨by omega, by rw [a1.src]; decide⟩, ?_⟩
  rw [← Bool.not_eq_true, List.any_eq_true]
  rintro ⟨i, hi, hc⟩
  have hi := List.mem_range.1 hi
  unfold cutB at hc
  simp only [Bool.and_eq_true, Bool.not_eq_true', decide_eq_true_eq, decide_eq_false_iff_not] at hc
  obtain ⟨⟨h1, h2⟩, h3⟩ := hc
  have ok := roadB_ok (h.r i hi)
  obtain ⟨g1, g2⟩ := rc_mem.1 h1
  have hfr := ok.f; have htr := ok.t; have hcc := ok.c
  obtain ⟨e1, e2⟩ := us_edge (bk := false) hi h3
  have e3 : (edC m false (cU m f (evL m.ws.length)) i).x = (gr m i).f.toNat := rfl
  have e4 : (edC m false (cU m f (evL m.ws.length)) i).y = (gr m i).t.toNat := rfl
  have h5 := a2 _ e1 (by rw [e2]; omega) (by rw [e3]; exact g2)
  rw [e2, e3, e4] at h5
  have h6 := fin_iff h f (evL m.ws.length) false hf (y := (gr m i).f.toNat) (by omega) g2
  exact h2 (rc_mem.2 ⟨by omega, by show _ < (1125899906842624 : Int); omega⟩)
end Go.Proofs.YtcfomfajpmlleaaGreat.R

namespace Go.Proofs.YtcfomfajpmlleaaGreat.R
open Go Sy
set_option maxRecDepth 100000
set_option maxHeartbeats 4000000
set_option linter.unusedVariables false
set_option linter.unusedSimpArgs false
theorem fn45 (m : Mp) (f : Nat → Int) (h : m.ws.length ≤ 10) : Sy.Fn Tryz.prog 45 [aAt m f] (uv (msk (evL m.ws.length))) := by
  refine Fn_of_W mixed Xt45 rfl ?_
  rw [msk_ev]
  obtain ⟨n, hn⟩ : ∃ n, n = m.ws.length := ⟨_, rfl⟩
  rw [← hn] at h ⊢
  have e : IntKind.u64.wrap (IntKind.u64.wrap (1 * 2 ^ min n IntKind.u64.bits) - 1) = ((2 ^ n - 1 : Nat) : Int) := by
    have : n = 0 ∨ n = 1 ∨ n = 2 ∨ n = 3 ∨ n = 4 ∨ n = 5 ∨ n = 6 ∨ n = 7 ∨ n = 8 ∨ n = 9 ∨ n = 10 := by omega
    rcases this with rfl | rfl | rfl | rfl | rfl | rfl | rfl | rfl | rfl | rfl | rfl <;> decide
  repeat' (first | refine w1g ?_ | refine w1l ?_ | refine w1q ?_ | refine w1b ?_ | refine w1p ?_ | ((first | refine w1r ?_ | refine w1k ?_ | refine w1e ?_); simp (maxSteps := 400000) (disch := omega) only [push_cast, ↓reduceIte, reduceCtorEq, Nat.reduceAdd, Nat.reduceSub, Nat.reduceEqDiff, Nat.reduceLeDiff, Nat.reduceLT, Nat.reduceBEq, Nat.reduceDiv, Nat.reduceMod, Nat.reducePow, Nat.reduceMul, Int.reduceToNat, Int.reduceLT, Int.reduceLE, ← hn, e]) | refine an2 ?_ | fail)
  exact W_ret ⟨[_], ⟨rfl, rfl⟩, rfl⟩
theorem fn44 (l : List Int) (n : Nat) (hn : n ≤ 10) (hs : Srt n 0 l) : Sy.Fn Tryz.prog 44 [aI l] (uv (msk l)) := by
  refine Fn_of_W mixed Xt44 rfl ?_
  have hl := hs.len (by omega)
  (refine go0 ?_; try exact True.intro)
  refine W_loopU (fun i : Nat => [(3, uv (msk (l.take i))), (8, iv i)]) (fun i => []) (fun i => i ≤ l.length) (fun i => l.length - i) 0 (by omega) (by rfl) (by rfl) (fun i hi => ?_)
  (refine sy1 ?_; try exact True.intro)
  (refine go0 ?_; try exact True.intro)
  refine W_condD (by rfl) (fun h5 => ?_) (fun h5 => ?_)
  · have hlt : i < l.length := by omega
    have hm := hs.mem _ (getD_mem 0 l i hlt)
    obtain ⟨j, hj⟩ : ∃ j : Nat, l.getD i 0 = j := ⟨(l.getD i 0).toNat, by omega⟩
    have htk : l.take (i + 1) = l.take i ++ [(j : Int)] := by rw [take_snoc hlt]; show _ = _; rw [← hj]
    have e5 := or_msk (x := l.take i) (j := j) (by
      have h1 : ∀ x ∈ l.take i, 0 ≤ x ∧ x < n := fun x hx => hs.mem x (List.mem_of_mem_take hx)
      have := bits_lt (n := 10) (msk_bits fun x hx => (h1 x hx).1) (fun x hx => by have := h1 x hx; omega)
      simpa using this) (by omega)
    rw [← htk] at e5
    repeat' (first | refine w1g ?_ | refine w1l ?_ | refine w1q ?_ | refine w1b ?_ | refine w1p ?_ | ((first | refine w1r ?_ | refine w1k ?_ | refine w1e ?_); simp (maxSteps := 400000) (disch := omega) only [push_cast, ↓reduceIte, reduceCtorEq, Nat.reduceAdd, Nat.reduceSub, Nat.reduceEqDiff, Nat.reduceLeDiff, Nat.reduceLT, Nat.reduceBEq, Nat.reduceDiv, Nat.reduceMod, Nat.reducePow, Nat.reduceMul, Int.reduceToNat, Int.reduceLT, Int.reduceLE, hj, e5, Int.toNat_natCast]) | refine an2 ?_ | fail)
    refine ⟨i + 1, by omega, by omega, by rfl, ?_⟩
    (refine syE ?_; try exact True.intro)
  · have hil : i = l.length := by omega
    subst hil
    rw [List.take_length]
    (refine go0 ?_; try exact True.intro)
    exact W_ret ⟨[_], ⟨rfl, rfl⟩, rfl⟩
def rcE (m : Mp) (f : Nat → Int) (s : List Int) (a : Int) : Int := if opE m f = 0 then (if setB s m.ws.length = true then (if plB m.n a = true then 0 else 3) else 3) else opE m f
def rcV (m : Mp) (f : Nat → Int) (s : List Int) (a : Int) : List Int := if rcE m f s a = 0 then rcL m f s a else []
theorem fil_succ (p : Int → Bool) (i : Nat) : (evL (i + 1)).filter p = (evL i).filter p ++ (if p i = true then [(i : Int)] else []) := by
  rw [ev_succ, List.filter_append]
  congr 1
  cases h : p (i : Int) <;> simp [List.filter, h]
theorem fn12 (m : Mp) (f : Nat → Int) (s : List Int) (a : Int) (hm : Gm m) (hl : s.length ≤ 1000000) : Sy.Fn Tryz.prog 12 [aM m, .agg (c6 f), aI s, iv a] (.tup [aI (rcV m f s a), iv (rcE m f s a)]) := by
  refine Fn_of_W mixed Xt12 rfl ?_
  have c24 := fn24 m f hm
  by_cases h0 : opE m f = 0
  rotate_left
  · have e1 : rcE m f s a = opE m f := by unfold rcE; rw [if_neg h0]
    have e2 : rcV m f s a = [] := by unfold rcV; rw [e1, if_neg h0]
    rw [e1, e2]
    have hv : opV m f = cAt m f ∨ opV m f = zAt := by
      unfold opV
      split
      · exact .inl rfl
      · exact .inr rfl
    generalize opE m f = e at *
    rcases hv with hv | hv
    all_goals
      rw [hv] at c24
      try unfold zAt at c24
      (refine go_c c24 ?_; try exact True.intro)
      refine W_cond (by rfl) (fun h => ?_) (fun h => ?_)
      · (refine go0 ?_; try exact True.intro)
        refine W_le (le_nil 8 1 0 cI rfl) ?_
        exact W_ret ⟨[_, _], ⟨rfl, rfl, rfl⟩, rfl⟩
      · exact absurd (by simpa using h) h0
  have hchk : chkM m = 0 ∧ szE f = 0 := by
    unfold opE at h0
    by_cases q : chkM m = 0
    · rw [if_pos q] at h0; exact ⟨q, h0⟩
    · rw [if_neg q] at h0; exact absurd h0 q
  have hv : opV m f = cAt m f := by unfold opV; rw [if_pos hchk.1]
  have hok := chkM_ok hchk.1
  rw [hv, h0] at c24
  (refine go_c c24 ?_; try exact True.intro)
  refine W_cond (by rfl) (fun h => by cases h) (fun h => ?_)
  have c43 := fn43 s m.ws.length (by omega)
  by_cases h1 : setB s m.ws.length = true
  rotate_left
  · have e1 : rcE m f s a = 3 := by unfold rcE; rw [if_pos h0, if_neg h1]
    have e2 : rcV m f s a = [] := by unfold rcV; rw [e1]; rfl
    rw [Bool.not_eq_true] at h1
    rw [h1] at c43
    rw [e1, e2]
    (refine go_c c43 ?_; try exact True.intro)
    refine W_cond (by rfl) (fun h => ?_) (fun h => by cases h)
    (refine go0 ?_; try exact True.intro)
    refine W_le (le_nil 8 1 0 cI rfl) ?_
    exact W_ret ⟨[_, _], ⟨rfl, rfl, rfl⟩, rfl⟩
  rw [h1] at c43
  have hss := setB_srt h1
  (refine go_c c43 ?_; try exact True.intro)
  refine W_cond (by rfl) (fun h => by cases h) (fun h => ?_)
  have c25 := fn25 m [a] (by simp)
  have hpl : plsB m [a] = plB m.n a := by simp [plsB]
  rw [hpl] at c25
  by_cases h2 : plB m.n a = true
  rotate_left
  · have e1 : rcE m f s a = 3 := by unfold rcE; rw [if_pos h0, if_pos h1, if_neg h2]
    have e2 : rcV m f s a = [] := by unfold rcV; rw [e1]; rfl
    rw [Bool.not_eq_true] at h2
    rw [h2] at c25
    rw [e1, e2]
    (refine go0 ?_; try exact True.intro)
    refine ⟨rfl, trivial, Int, 0, cI, [a], rfl, by omega, fun x _ => ⟨rfl, rfl⟩, rfl, ?_⟩
    (refine sy1 ?_; try exact True.intro)
    (refine go_g c25 ?_; try exact True.intro)
    refine W_cond (by rfl) (fun h => ?_) (fun h => by cases h)
    (refine go0 ?_; try exact True.intro)
    refine W_le (le_nil 8 1 0 cI rfl) ?_
    exact W_ret ⟨[_, _], ⟨rfl, rfl, rfl⟩, rfl⟩
  rw [h2] at c25
  have ha : 0 ≤ a ∧ a < m.n := by unfold plB at h2; simpa using h2
  have e1 : rcE m f s a = 0 := by unfold rcE; rw [if_pos h0, if_pos h1, if_pos h2]
  have e2 : rcV m f s a = rcL m f s a := by unfold rcV; rw [if_pos e1]
  rw [e1, e2]
  (refine go0 ?_; try exact True.intro)
  refine ⟨rfl, trivial, Int, 0, cI, [a], rfl, by omega, fun x _ => ⟨rfl, rfl⟩, rfl, ?_⟩
  (refine sy1 ?_; try exact True.intro)
  (refine go_g c25 ?_; try exact True.intro)
  refine W_cond (by rfl) (fun h => by cases h) (fun h => ?_)
  have c29 := dL_fn m f s a false hok hss ha
  have hdl := dL_len hok f s false ha
  have hp : rcP m f s a = fun i => decide (gi (dstC m false (cU m f s) a) i.toNat < 1125899906842624) := rfl
  unfold rcL
  rw [hp]
  clear hp
  generalize dstC m false (cU m f s) a = D at *
  have hn := hok.n
  obtain ⟨n, hnn⟩ : ∃ n : Nat, n = m.n.toNat := ⟨_, rfl⟩
  rw [← hnn] at hdl ⊢
  (refine go_ccc (fn44 s m.ws.length hok.nw hss) (fn30 m f (msk s)) c29 ?_; try exact True.intro)
  refine W_le (le_adopt 13 3 1 (0 : Int) cI (by omega) rfl) ?_
  (refine sy1 ?_; try exact True.intro)
  obtain ⟨p, hp⟩ : ∃ p : Int → Bool, p = fun i => decide (gi D i.toNat < 1125899906842624) := ⟨_, rfl⟩
  rw [← hp]
  refine W_loopU (fun i : Nat => [(13, .row 38 ((evL i).filter p).length), (46, iv i)]) (fun i => [(38, .row ((evL i).filter p).length 3 1 0 cI ((evL i).filter p))]) (fun i => i ≤ n) (fun i => n - i) 0 (by omega) (by rfl) (by rfl) (fun i hi => ?_)
  have gI : ∀ (l : List Int) i, l.getD i 0 = gi l i := fun _ _ => rfl
  have hfl : ((evL i).filter p).length ≤ i := by have := List.length_filter_le p (evL i); rw [ev_len] at this; exact this
  have hfs := fil_succ p i
  have hpi : p (i : Int) = decide (gi D i < 1125899906842624) := by rw [hp]; rfl
  (refine sy1 ?_; try exact True.intro)
  (refine go0 ?_; try exact True.intro)
  refine W_condD (by rfl) (fun h5 => ?_) (fun h5 => ?_)
  · have hlt : i < n := by omega
    (refine gof gI ?_; try exact True.intro)
    refine W_cond (by rfl) (fun h6 => ?_) (fun h6 => ?_)
    · rw [hpi, h6, if_pos rfl] at hfs
      (refine go0 ?_; try exact True.intro)
      refine ⟨rfl, trivial, Int, 0, cI, [(i : Int)], rfl, by omega, fun x _ => ⟨rfl, rfl⟩, rfl, ?_⟩
      (refine sy1 ?_; try exact True.intro)
      refine ⟨rfl, ⟨Nat.le_of_ble_eq_true rfl, rfl⟩, trivial, [(i : Int)], rfl, by first | omega | (simp; omega), by first | omega | (simp; omega), ?_⟩
      (refine sy1 ?_; try exact True.intro)
      (refine go0 ?_; try exact True.intro)
      refine ⟨i + 1, by omega, by omega, by rfl, ?_⟩
      rw [hfs, List.length_append]
      (refine syE ?_; try exact True.intro)
    · rw [hpi, h6, if_neg (by decide), List.append_nil] at hfs
      (refine go0 ?_; try exact True.intro)
      refine ⟨i + 1, by omega, by omega, by rfl, ?_⟩
      rw [hfs]
      (refine syE ?_; try exact True.intro)
  · have hin : i = n := by omega
    rw [hin]
    (refine go0 ?_; try exact True.intro)
    refine W_ret ⟨[_, _], ⟨rfl, rfl, rfl⟩, ?_⟩
    (refine syP ?_; try exact True.intro)
end Go.Proofs.YtcfomfajpmlleaaGreat.R

namespace Go.Proofs.YtcfomfajpmlleaaGreat.R
open Go Sy
set_option maxRecDepth 100000
set_option maxHeartbeats 4000000
set_option linter.unusedVariables false
set_option linter.unusedSimpArgs false
theorem range_any {p : Nat → Bool} {n i : Nat} (hi : i < n) (h : p i = true) : (List.range n).any p = true := List.any_eq_true.2 ⟨i, by simpa using hi, h⟩
theorem range_none {p : Nat → Bool} {n : Nat} (h : ∀ j, j < n → p j = false) : (List.range n).any p = false := by
  rw [← Bool.not_eq_true, List.any_eq_true]
  rintro ⟨x, hx, hp⟩
  rw [h x (List.mem_range.1 hx)] at hp
  cases hp
def cB (x : Bool) : List AV := [bv x]
theorem nB (x : Bool) : nth (cB x) 0 = bv x := rfl
theorem lB (x : Bool) : (cB x).length = 1 := rfl
theorem frB (x : Bool) : frzAll (cB x) = true := rfl
theorem tB (x : Bool) : List.take 1 (List.drop 0 (cB x)) = cB x := rfl
attribute [push_cast] nB lB frB tB
def tbB (n : Nat) (g : Nat → Bool) : List Bool := (List.range n).map g
theorem tbB_len (n : Nat) (g : Nat → Bool) : (tbB n g).length = n := by simp [tbB]
theorem tbB_at {n j : Nat} (g : Nat → Bool) (h : j < n) : (tbB n g).getD j false = g j := by simp [tbB, List.getD, h]
theorem tbB_set {n j : Nat} {g h : Nat → Bool} {v : Bool} (hj : h j = v) (hh : ∀ i, i < n → i ≠ j → g i = h i) : (tbB n g).set j v = tbB n h := by
  apply List.ext_getElem (by rw [List.length_set, tbB_len, tbB_len])
  intro i h1 h2
  rw [tbB_len] at h2
  rw [List.getElem_set]
  split
  · rename_i q; subst q; rw [← hj]; simp [tbB]
  · rename_i q
    simp only [tbB, List.getElem_map, List.getElem_range]
    exact hh i h2 (fun e => q e.symm)
theorem tbB_rep (n : Nat) (v : Bool) : tbB n (fun _ => v) = List.replicate n v := by
  unfold tbB
  rw [List.eq_replicate_iff]
  refine ⟨by simp, fun b hb => ?_⟩
  obtain ⟨i, _, rfl⟩ := List.mem_map.1 hb
  rfl
def inT (l : List Int) (i : Nat) : Bool := decide ((i : Int) ∈ l)
theorem inT_snoc {n : Nat} {l : List Int} {i : Nat} (h : i < l.length) (hr : 0 ≤ gi l i ∧ gi l i < n) : (tbB n (inT (l.take i))).set (gi l i).toNat true = tbB n (inT (l.take (i + 1))) := by
  rw [take_snoc h]
  refine tbB_set ?_ (fun j hj hne => ?_)
  · unfold inT
    rw [decide_eq_true_eq, List.mem_append]
    right
    rw [List.mem_singleton]; omega
  · unfold inT
    congr 1
    rw [List.mem_append, List.mem_singleton, eq_iff_iff]
    constructor
    · exact .inl
    · rintro (q | q)
      · exact q
      · omega
theorem fn13 (m : Mp) (f : Nat → Int) (fr to : Int) (l : List Int) (hm : Gm m) (hl : l.length ≤ 1000000) : Sy.Fn Tryz.prog 13 [aM m, .agg (c6 f), iv fr, iv to, aI l] (iv (ctE m f fr to l)) := by
  refine Fn_of_W mixed Xt13 rfl ?_
  have c24 := fn24 m f hm
  by_cases h0 : opE m f = 0
  rotate_left
  · have e1 : ctE m f fr to l = opE m f := by unfold ctE; rw [if_neg h0]
    rw [e1]
    have hv : opV m f = cAt m f ∨ opV m f = zAt := by
      unfold opV
      split
      · exact .inl rfl
      · exact .inr rfl
    generalize opE m f = e at *
    rcases hv with hv | hv
    all_goals
      rw [hv] at c24
      try unfold zAt at c24
      (refine go_c c24 ?_; try exact True.intro)
      refine W_cond (by rfl) (fun h => ?_) (fun h => ?_)
      · (refine go0 ?_; try exact True.intro)
        exact W_ret ⟨[_], ⟨rfl, rfl⟩, rfl⟩
      · exact absurd (by simpa using h) h0
  have hchk : chkM m = 0 ∧ szE f = 0 := by
    unfold opE at h0
    by_cases q : chkM m = 0
    · rw [if_pos q] at h0; exact ⟨q, h0⟩
    · rw [if_neg q] at h0; exact absurd h0 q
  have hv : opV m f = cAt m f := by unfold opV; rw [if_pos hchk.1]
  have hok := chkM_ok hchk.1
  have hn := hok.n
  have hnr := hok.nr
  rw [hv, h0] at c24
  (refine go_c c24 ?_; try exact True.intro)
  refine W_cond (by rfl) (fun h => by cases h) (fun h => ?_)
  have c25 := fn25 m [fr, to] (by simp)
  have hpl : plsB m [fr, to] = (plB m.n fr && plB m.n to) := by simp [plsB]
  rw [hpl] at c25
  (refine go0 ?_; try exact True.intro)
  refine ⟨rfl, trivial, Int, 0, cI, [fr, to], rfl, by omega, fun x _ => ⟨rfl, rfl⟩, rfl, ?_⟩
  (refine sy1 ?_; try exact True.intro)
  by_cases hp : plB m.n fr = true ∧ plB m.n to = true
  rotate_left
  · have e1 : ctE m f fr to l = 3 := by unfold ctE; rw [if_pos h0, if_neg hp]
    have e3 : (plB m.n fr && plB m.n to) = false := by rw [← Bool.not_eq_true, Bool.and_eq_true]; exact hp
    rw [e3] at c25
    rw [e1]
    (refine go_g c25 ?_; try exact True.intro)
    refine W_cond (by rfl) (fun h => ?_) (fun h => by cases h)
    (refine go0 ?_; try exact True.intro)
    exact W_ret ⟨[_], ⟨rfl, rfl⟩, rfl⟩
  have hp1 : (0 ≤ fr ∧ fr < m.n) ∧ (0 ≤ to ∧ to < m.n) := by
    have := hp.1; have := hp.2
    unfold plB at *
    simp only [Bool.and_eq_true, decide_eq_true_eq] at *
    omega
  have e3 : (plB m.n fr && plB m.n to) = true := by rw [hp.1, hp.2]; rfl
  rw [e3] at c25
  (refine go_g c25 ?_; try exact True.intro)
  refine W_cond (by rfl) (fun h => by cases h) (fun h => ?_)
  have c43 := fn43 l m.n (by omega)
  by_cases h1 : setB l m.n = true
  rotate_left
  · have e1 : ctE m f fr to l = 3 := by unfold ctE; rw [if_pos h0, if_pos hp, if_neg h1]
    rw [Bool.not_eq_true] at h1
    rw [h1] at c43
    rw [e1]
    (refine go_c c43 ?_; try exact True.intro)
    refine W_cond (by rfl) (fun h => ?_) (fun h => by cases h)
    (refine go0 ?_; try exact True.intro)
    exact W_ret ⟨[_], ⟨rfl, rfl⟩, rfl⟩
  rw [h1] at c43
  have hss := setB_srt h1
  (refine go_c c43 ?_; try exact True.intro)
  refine W_cond (by rfl) (fun h => by cases h) (fun h => ?_)
  have e4 : ctE m f fr to l = if fr ∈ l ∧ to ∉ l then (if (List.range m.rs.length).any (cutB m f l) = true then 16 else 0) else 16 := by unfold ctE; rw [if_pos h0, if_pos hp, if_pos h1]
  obtain ⟨n, hnn⟩ : ∃ n : Nat, m.n = n := ⟨m.n.toNat, by omega⟩
  rw [hnn] at hss hp1 hn
  (refine gof hnn ?_; try exact True.intro)
  refine ⟨rfl, ⟨by omega, by omega, by omega⟩, Bool, false, cB, false, rfl, rfl, by omega, rfl, ?_⟩
  simp (maxSteps := 400000) (disch := omega) only [push_cast, ↓reduceIte, reduceCtorEq, Nat.reduceAdd, Nat.reduceSub, Nat.reduceEqDiff, Nat.reduceLeDiff, Nat.reduceLT, Nat.reduceBEq, Nat.reduceDiv, Nat.reduceMod, Nat.reducePow, Nat.reduceMul, Int.reduceToNat, Int.reduceLT, Int.reduceLE, Int.toNat_natCast]
  repeat' (first | refine w1g ?_ | refine w1l ?_ | refine w1q ?_ | refine w1b ?_ | refine w1p ?_ | ((first | refine w1r ?_ | refine w1k ?_ | refine w1e ?_); simp (maxSteps := 400000) (disch := omega) only [push_cast, ↓reduceIte, reduceCtorEq, Nat.reduceAdd, Nat.reduceSub, Nat.reduceEqDiff, Nat.reduceLeDiff, Nat.reduceLT, Nat.reduceBEq, Nat.reduceDiv, Nat.reduceMod, Nat.reducePow, Nat.reduceMul, Int.reduceToNat, Int.reduceLT, Int.reduceLE, List.length_replicate]) | refine an2 ?_ | fail)
  refine W_loopU (fun i : Nat => [(46, iv i)]) (fun i => [(29, .row 0 4 1 false cB (tbB n (inT (l.take i))))]) (fun i => i ≤ l.length) (fun i => l.length - i) 0 (by omega) (by rfl) (by rw [← tbB_rep]; rfl) (fun i hi => ?_)
  (refine sy1 ?_; try exact True.intro)
  (refine go0 ?_; try exact True.intro)
  refine W_condD (by rfl) (fun h5 => ?_) (fun h5 => ?_)
  · have hlt : i < l.length := by omega
    have hme := hss.mem _ (getD_mem 0 l i hlt)
    have e5 := inT_snoc (n := n) hlt hme
    repeat' (first | refine w1g ?_ | refine w1l ?_ | refine w1q ?_ | refine w1b ?_ | refine w1p ?_ | ((first | refine w1r ?_ | refine w1k ?_ | refine w1e ?_); simp (maxSteps := 400000) (disch := omega) only [push_cast, ↓reduceIte, reduceCtorEq, Nat.reduceAdd, Nat.reduceSub, Nat.reduceEqDiff, Nat.reduceLeDiff, Nat.reduceLT, Nat.reduceBEq, Nat.reduceDiv, Nat.reduceMod, Nat.reducePow, Nat.reduceMul, Int.reduceToNat, Int.reduceLT, Int.reduceLE, tbB_len]) | refine an2 ?_ | fail)
    refine ⟨rfl, ⟨Nat.le_of_ble_eq_true rfl, rfl⟩, by omega, true, rfl, rfl, ?_⟩
    have gI : ∀ (l : List Int) i, l.getD i 0 = gi l i := fun _ _ => rfl
    rw [gI, e5]
    (refine sy1 ?_; try exact True.intro)
    (refine go0 ?_; try exact True.intro)
    refine ⟨i + 1, by omega, by omega, by rfl, ?_⟩
    (refine syE ?_; try exact True.intro)
  have hil : i = l.length := by omega
  subst hil
  rw [List.take_length]
  clear h5 hi
  have tl := tbB_len n (inT l)
  have at1 : (tbB n (inT l)).getD fr.toNat false = decide (fr ∈ l) := by
    rw [tbB_at _ (by omega)]; unfold inT; rw [show ((fr.toNat : Nat) : Int) = fr by omega]
  have at2 : (tbB n (inT l)).getD to.toNat false = decide (to ∈ l) := by
    rw [tbB_at _ (by omega)]; unfold inT; rw [show ((to.toNat : Nat) : Int) = to by omega]
  (refine gof (ad3 tl at1 at2) ?_; try exact True.intro)
  refine W_cond (by rfl) (fun h6 => ?_) (fun h6 => ?_)
  · have e5 : ctE m f fr to l = 16 := by
      rw [e4, if_neg]
      rintro ⟨q1, q2⟩
      rw [decide_eq_true q1, decide_eq_false q2] at h6
      cases h6
    rw [e5]
    (refine go0 ?_; try exact True.intro)
    exact W_ret ⟨[_], ⟨rfl, rfl⟩, rfl⟩
  rw [Bool.or_eq_false_iff, Bool.not_eq_false', decide_eq_true_eq, decide_eq_false_iff_not] at h6
  rw [if_pos h6] at e4
  (refine go0 ?_; try exact True.intro)
  refine W_loopU (fun i : Nat => [(68, iv i)]) (fun i => []) (fun i => i ≤ m.rs.length ∧ ∀ j, j < i → cutB m f l j = false) (fun i => m.rs.length - i) 0 ⟨by omega, fun j hj => by omega⟩ (by rfl) (by rfl) (fun i hi => ?_)
  obtain ⟨hi, hall⟩ := hi
  (refine sy1 ?_; try exact True.intro)
  (refine go0 ?_; try exact True.intro)
  refine W_condD (by rfl) (fun h5 => ?_) (fun h5 => ?_)
  · have hlt : i < m.rs.length := by omega
    have ok := roadB_ok (hok.r i hlt)
    have ofr := ok.f; have otr := ok.t
    rw [hnn] at ofr otr
    have gR : m.rs.getD i dR = gr m i := rfl
    have at3 : (tbB n (inT l)).getD (gr m i).f.toNat false = decide ((gr m i).f ∈ l) := by
      rw [tbB_at _ (by omega)]; unfold inT; rw [show (((gr m i).f.toNat : Nat) : Int) = (gr m i).f by omega]
    have at4 : (tbB n (inT l)).getD (gr m i).t.toNat false = decide ((gr m i).t ∈ l) := by
      rw [tbB_at _ (by omega)]; unfold inT; rw [show (((gr m i).t.toNat : Nat) : Int) = (gr m i).t by omega]
    have c45 := fn45 m f hok.nw
    have c36 := fn36 m f (evL m.ws.length) (msk (evL m.ws.length)) i hok (setW_msk (ev_srt _)) hlt
    have ecut : cutB m f l i = (decide ((gr m i).f ∈ l) && !decide ((gr m i).t ∈ l) && usB m f (evL m.ws.length) i) := rfl
    generalize usB m f (evL m.ws.length) i = U at *
    generalize msk (evL m.ws.length) = M at *
    generalize gr m i = r at *
    (refine gofgg (ad4 gR tl at3 at4) c45 c36 ?_; try exact True.intro)
    rw [← ecut]
    refine W_cond (by rfl) (fun h7 => ?_) (fun h7 => ?_)
    · rw [if_pos (range_any hlt h7)] at e4
      rw [e4]
      (refine go0 ?_; try exact True.intro)
      exact W_ret ⟨[_], ⟨rfl, rfl⟩, rfl⟩
    · (refine go0 ?_; try exact True.intro)
      refine ⟨i + 1, ⟨by omega, up_all hall h7⟩, by omega, by rfl, ?_⟩
      (refine syE ?_; try exact True.intro)
  · have hil : i = m.rs.length := by omega
    subst hil
    rw [if_neg (by rw [range_none hall]; decide)] at e4
    rw [e4]
    (refine go0 ?_; try exact True.intro)
    exact W_ret ⟨[_], ⟨rfl, rfl⟩, rfl⟩
end Go.Proofs.YtcfomfajpmlleaaGreat.R

namespace Go.Proofs.YtcfomfajpmlleaaGreat.R
open Go Sy
set_option maxRecDepth 100000
set_option maxHeartbeats 4000000
set_option linter.unusedVariables false
set_option linter.unusedSimpArgs false
structure Cs where
  r : Int
  k : Int
  l : Int
  n : Int
def dC : Cs := ⟨0, 0, 0, 0⟩
def cC (c : Cs) : List AV := [iv c.r, iv c.k, iv c.l, iv c.n]
theorem lC (c : Cs) : (cC c).length = 4 := rfl
theorem frC (c : Cs) : frzAll (cC c) = true := rfl
theorem tC (c : Cs) : List.take 4 (List.drop 0 (cC c)) = cC c := rfl
theorem tC2 (c : Cs) : List.take 4 (cC c) = cC c := rfl
theorem iC {m : Nat → Option Blk} {n : Nat} (c : Cs) : List.flatMap (ids m n) (cC c) = [] := flat_frz n _ (frC c)
theorem vC {m : Nat → Option Blk} {n : Nat} (c : Cs) : List.map (view m n) (cC c) = cC c := viewL_frz n _ (frC c)
attribute [push_cast] lC frC tC tC2 iC vC
abbrev aC (l : List Cs) : AV := .sl 4 dC cC l
def cz1 (m : Mp) (f : Nat → Int) (s : List Int) (road k : Nat) : List Cs := if limL m s road k < f k then [⟨road, k, limL m s road k, f k⟩] else []
def czK (m : Mp) (f : Nat → Int) (s : List Int) (road n : Nat) : List Cs := (List.range n).flatMap (cz1 m f s road)
def czR (m : Mp) (f : Nat → Int) (s : List Int) (rs : List Int) : List Cs := rs.flatMap fun r => czK m f s r.toNat 6
theorem czK_succ (m : Mp) (f : Nat → Int) (s : List Int) (road n : Nat) : czK m f s road (n + 1) = czK m f s road n ++ cz1 m f s road n := by
  unfold czK
  rw [List.range_succ, List.flatMap_append]
  simp
theorem czR_snoc (m : Mp) (f : Nat → Int) (s : List Int) (rs : List Int) (r : Int) : czR m f s (rs ++ [r]) = czR m f s rs ++ czK m f s r.toNat 6 := by
  unfold czR
  rw [List.flatMap_append]
  simp
theorem czK_len (m : Mp) (f : Nat → Int) (s : List Int) (road : Nat) : ∀ n, (czK m f s road n).length ≤ n
  | 0 => by simp [czK]
  | n + 1 => by
    rw [czK_succ, List.length_append]
    have := czK_len m f s road n
    have : (cz1 m f s road n).length ≤ 1 := by unfold cz1; split <;> simp
    omega
theorem czR_len (m : Mp) (f : Nat → Int) (s : List Int) : ∀ rs : List Int, (czR m f s rs).length ≤ 6 * rs.length
  | [] => by simp [czR]
  | r :: rs => by
    have h1 := czR_len m f s rs
    have h2 := czK_len m f s r.toNat 6
    have e : czR m f s (r :: rs) = czK m f s r.toNat 6 ++ czR m f s rs := rfl
    rw [e, List.length_append, List.length_cons]
    omega
def csE (m : Mp) (f : Nat → Int) (s rs : List Int) : Int := if opE m f = 0 then (if setB s m.ws.length = true then rdE m rs else 3) else opE m f
def csV (m : Mp) (f : Nat → Int) (s rs : List Int) : List Cs := if csE m f s rs = 0 then czR m f s rs else []
theorem fn15 (m : Mp) (f : Nat → Int) (s rs : List Int) (hm : Gm m) (hl : s.length ≤ 1000000) (hl2 : rs.length ≤ 1000000) : Sy.Fn Tryz.prog 15 [aM m, .agg (c6 f), aI s, aI rs] (.tup [aC (csV m f s rs), iv (csE m f s rs)]) := by
  refine Fn_of_W mixed Xt15 rfl ?_
  have c24 := fn24 m f hm
  by_cases h0 : opE m f = 0
  rotate_left
  · have e1 : csE m f s rs = opE m f := by unfold csE; rw [if_neg h0]
    have e2 : csV m f s rs = [] := by unfold csV; rw [e1, if_neg h0]
    rw [e1, e2]
    have hv : opV m f = cAt m f ∨ opV m f = zAt := by
      unfold opV
      split
      · exact .inl rfl
      · exact .inr rfl
    generalize opE m f = e at *
    rcases hv with hv | hv
    all_goals
      rw [hv] at c24
      try unfold zAt at c24
      (refine go_c c24 ?_; try exact True.intro)
      refine W_cond (by rfl) (fun h => ?_) (fun h => ?_)
      · (refine go0 ?_; try exact True.intro)
        refine W_le (le_nil 8 4 dC cC rfl) ?_
        exact W_ret ⟨[_, _], ⟨rfl, rfl, rfl⟩, rfl⟩
      · exact absurd (by simpa using h) h0
  have hchk : chkM m = 0 ∧ szE f = 0 := by
    unfold opE at h0
    by_cases q : chkM m = 0
    · rw [if_pos q] at h0; exact ⟨q, h0⟩
    · rw [if_neg q] at h0; exact absurd h0 q
  have hv : opV m f = cAt m f := by unfold opV; rw [if_pos hchk.1]
  have hok := chkM_ok hchk.1
  rw [hv, h0] at c24
  (refine go_c c24 ?_; try exact True.intro)
  refine W_cond (by rfl) (fun h => by cases h) (fun h => ?_)
  have c43 := fn43 s m.ws.length (by omega)
  by_cases h1 : setB s m.ws.length = true
  rotate_left
  · have e1 : csE m f s rs = 3 := by unfold csE; rw [if_pos h0, if_neg h1]
    have e2 : csV m f s rs = [] := by unfold csV; rw [e1]; rfl
    rw [Bool.not_eq_true] at h1
    rw [h1] at c43
    rw [e1, e2]
    (refine go_c c43 ?_; try exact True.intro)
    refine W_cond (by rfl) (fun h => ?_) (fun h => by cases h)
    (refine go0 ?_; try exact True.intro)
    refine W_le (le_nil 8 4 dC cC rfl) ?_
    exact W_ret ⟨[_, _], ⟨rfl, rfl, rfl⟩, rfl⟩
  rw [h1] at c43
  have hss := setB_srt h1
  (refine go_c c43 ?_; try exact True.intro)
  refine W_cond (by rfl) (fun h => by cases h) (fun h => ?_)
  have c39 := fn39 m rs hl2
  have e0 : csE m f s rs = rdE m rs := by unfold csE; rw [if_pos h0, if_pos h1]
  by_cases h2 : rdE m rs = 0
  rotate_left
  · have e2 : csV m f s rs = [] := by unfold csV; rw [e0, if_neg h2]
    rw [e0, e2]
    generalize rdE m rs = e at *
    (refine go_c c39 ?_; try exact True.intro)
    refine W_cond (by rfl) (fun h => ?_) (fun h => ?_)
    · (refine go0 ?_; try exact True.intro)
      refine W_le (le_nil 8 4 dC cC rfl) ?_
      exact W_ret ⟨[_, _], ⟨rfl, rfl, rfl⟩, rfl⟩
    · exact absurd (by simpa using h) h2
  obtain ⟨hl3, hlr⟩ := rdE_ok h2
  rw [h2] at c39 e0
  have e2 : csV m f s rs = czR m f s rs := by unfold csV; rw [if_pos e0]
  rw [e0, e2]
  (refine go_c c39 ?_; try exact True.intro)
  refine W_cond (by rfl) (fun h => by cases h) (fun h => ?_)
  (refine go0 ?_; try exact True.intro)
  refine W_le (le_adopt 13 141 4 dC cC (by omega) rfl) ?_
  (refine sy1 ?_; try exact True.intro)
  refine W_loopU (fun i : Nat => [(13, .row 31 (czR m f s (rs.take i)).length), (39, iv i)]) (fun i => [(31, .row (czR m f s (rs.take i)).length 141 4 dC cC (czR m f s (rs.take i)))]) (fun i => i ≤ rs.length) (fun i => rs.length - i) 0 (by omega) (by rfl) (by rfl) (fun i hi => ?_)
  have hcl := czR_len m f s (rs.take i)
  have htl : (rs.take i).length = i := by rw [List.length_take]; omega
  rw [htl] at hcl
  (refine sy1 ?_; try exact True.intro)
  (refine go0 ?_; try exact True.intro)
  refine W_condD (by rfl) (fun h5 => ?_) (fun h5 => ?_)
  rotate_left
  · have hil : i = rs.length := by omega
    rw [hil, List.take_length]
    (refine go0 ?_; try exact True.intro)
    refine W_ret ⟨[_, _], ⟨rfl, rfl, rfl⟩, ?_⟩
    (refine syP ?_; try exact True.intro)
  have hlt : i < rs.length := by omega
  have hsn : czR m f s (rs.take (i + 1)) = czR m f s (rs.take i) ++ czK m f s (gi rs i).toNat 6 := by rw [take_snoc hlt, czR_snoc]
  obtain ⟨road, hrd⟩ : ∃ road : Nat, gi rs i = road := ⟨(gi rs i).toNat, by have := hlr i hlt; omega⟩
  have hrl : road < m.rs.length := by have := hlr i hlt; omega
  rw [hrd, Int.toNat_natCast] at hsn
  have hrd2 : rs.getD i 0 = (road : Int) := hrd
  generalize czR m f s (rs.take i) = X at *
  repeat' (first | refine w1g ?_ | refine w1l ?_ | refine w1q ?_ | refine w1b ?_ | refine w1p ?_ | ((first | refine W_regS 6 (by decide) (by decide) ?_ | refine w1r ?_ | refine w1k ?_ | refine w1e ?_ | refine CallC.now (fn44 s m.ws.length hok.nw hss) ?_ | refine CallC.now (fn52 m f (msk s) road) ?_); (refine syf hrd2 ?_; try exact True.intro)) | refine an2 ?_ | fail)
  refine CallC.inl (Inl_of_W mixed Xt51 rfl (fun vs => ?_))
  (refine sy1 ?_; try exact True.intro)
  (refine go0 ?_; try exact True.intro)
  refine W_rfn (.inl rfl) (fun lp R hR => Inl_of_W mixed Xt88 rfl (fun vs2 => ?_))
  (refine sy1 ?_; try exact True.intro)
  (refine go0 ?_; try exact True.intro)
  refine W_loopU (fun k : Nat => [(10, iv k)]) (fun k => [(43, .cells [.row 31 (X ++ czK m f s road k).length]), (31, .row (X ++ czK m f s road k).length 141 4 dC cC (X ++ czK m f s road k))]) (fun k => k ≤ 6) (fun k => 6 - k) 0 (by omega) (by rfl) (by simp only [czK, List.range_zero, List.flatMap_nil, List.append_nil]; rfl) (fun k hk => ?_)
  have hkl := czK_len m f s road k
  have hks := czK_succ m f s road k
  have hal : (X ++ czK m f s road k).length ≤ 1000000 := by rw [List.length_append]; omega
  (refine sy1 ?_; try exact True.intro)
  (refine go0 ?_; try exact True.intro)
  refine W_condD (by rfl) (fun h6 => ?_) (fun h6 => ?_)
  · have hk6 : k < 6 := by omega
    have c89 := fn89 m f s (msk s) road k hok (setW_msk hss) hrl hk6
    have ez : cz1 m f s road k = if limL m s road k < f k then [⟨road, k, limL m s road k, f k⟩] else [] := rfl
    obtain ⟨n, hnl⟩ : ∃ n, n = limL m s road k := ⟨_, rfl⟩
    rw [← hnl] at c89 ez
    have hys : X ++ czK m f s road (k + 1) = (X ++ czK m f s road k) ++ cz1 m f s road k := by rw [hks, List.append_assoc]
    generalize X ++ czK m f s road k = Y at *
    by_cases q : n < f k
    · have qb : decide (n < f k) = true := decide_eq_true q
      rw [if_pos q] at ez
      (refine gofc (ad3 Nat.mul_one Nat.zero_add qb) c89 ?_; try exact True.intro)
      refine StopC.yld (fun hpc => ⟨trivial, Yl_of_W (k := 46) mixed hR rfl rfl rfl (fun vs3 => ?_)⟩) (fun hpc => absurd (by simp [Sy.pc]) hpc)
      (refine sy1 ?_; try exact True.intro)
      (refine go0 ?_; try exact True.intro)
      refine ⟨_, rfl, ?_⟩
      (refine sy1 ?_; try exact True.intro)
      (refine go0 ?_; try exact True.intro)
      refine ⟨rfl, trivial, Cs, dC, cC, [⟨road, k, n, f k⟩], rfl, by omega, fun x _ => ⟨rfl, rfl⟩, rfl, ?_⟩
      (refine sy1 ?_; try exact True.intro)
      refine ⟨rfl, ⟨Nat.le_of_ble_eq_true rfl, rfl⟩, trivial, [(⟨road, k, n, f k⟩ : Cs)], rfl, by first | omega | (simp; omega), by first | omega | (simp; omega), ?_⟩
      (refine sy1 ?_; try exact True.intro)
      (refine go0 ?_; try exact True.intro)
      refine ⟨_, _, rfl, rfl, ?_⟩
      (refine sy1 ?_; try exact True.intro)
      (refine go0 ?_; try exact True.intro)
      refine W_cond (by rfl) (fun h => by cases h) (fun _ => ?_)
      (refine go0 ?_; try exact True.intro)
      refine ⟨k + 1, by omega, by omega, by rfl, ?_⟩
      rw [hys, ez, List.length_append]
      (refine syE ?_; try exact True.intro)
    · have qb : decide (n < f k) = false := decide_eq_false q
      rw [if_neg q] at ez
      (refine gofc (ad3 Nat.mul_one Nat.zero_add qb) c89 ?_; try exact True.intro)
      refine StopC.yld (fun hpc => absurd hpc (by simp [Sy.pc])) (fun hpc => ?_)
      (refine sy1 ?_; try exact True.intro)
      (refine go0 ?_; try exact True.intro)
      refine W_cond (by rfl) (fun h => by cases h) (fun _ => ?_)
      (refine go0 ?_; try exact True.intro)
      refine ⟨k + 1, by omega, by omega, by rfl, ?_⟩
      rw [hys, ez, List.append_nil]
      (refine syE ?_; try exact True.intro)
  · have hk6 : k = 6 := by omega
    subst hk6
    rw [← hsn]
    rw [← hsn] at hal
    (refine go0 ?_; try exact True.intro)
    refine ⟨_, _, rfl, rfl, ⟨_, _, rfl, by rw [hR.st]; simp, ?_⟩⟩
    rw [hR.pe]
    (refine syN ?_; try exact True.intro)
    (refine go0 ?_; try exact True.intro)
    refine W_ret ⟨[_], _, ⟨rfl, rfl⟩, rfl, ?_⟩
    (refine syP ?_; try exact True.intro)
    (refine go0 ?_; try exact True.intro)
    refine ⟨i + 1, by omega, by omega, by rfl, ?_⟩
    (refine syE ?_; try exact True.intro)
end Go.Proofs.YtcfomfajpmlleaaGreat.R

namespace Go.Proofs.YtcfomfajpmlleaaGreat.R
open Go Sy
set_option maxRecDepth 100000
set_option maxHeartbeats 4000000
set_option linter.unusedVariables false
set_option linter.unusedSimpArgs false
def allU (m : Mp) (f : Nat → Int) (rs : List Int) (s : List Int) : Bool := !(rs.any fun x => !usB m f s x.toNat)
def cL (l : List Int) : List AV := [aI l]
theorem nL (l : List Int) : nth (cL l) 0 = aI l := rfl
theorem lL (l : List Int) : (cL l).length = 1 := rfl
theorem frL (l : List Int) : frzAll (cL l) = true := rfl
theorem tL (l : List Int) : List.take 1 (List.drop 0 (cL l)) = cL l := rfl
attribute [push_cast] nL lL frL tL
end Go.Proofs.YtcfomfajpmlleaaGreat.R

namespace Go.Proofs.YtcfomfajpmlleaaGreat.R
open Go Sy
set_option maxRecDepth 100000
set_option maxHeartbeats 4000000
set_option linter.unusedVariables false
set_option linter.unusedSimpArgs false
theorem czK_nil {m : Mp} {f : Nat → Int} {s : List Int} {road : Nat} : czK m f s road 6 = [] ↔ usB m f s road = true := by
  unfold czK
  rw [List.flatMap_eq_nil_iff, usN_iff]
  constructor
  · intro h k hk
    have := h k (List.mem_range.2 hk)
    unfold cz1 at this
    by_cases q : limL m s road k < f k
    · rw [if_pos q] at this; cases this
    · omega
  · intro h k hk
    have := h k (List.mem_range.1 hk)
    unfold cz1
    rw [if_neg (by omega)]
theorem czR_nil {m : Mp} {f : Nat → Int} {s rs : List Int} : (czR m f s rs).length = 0 ↔ allU m f rs s = true := by
  rw [List.length_eq_zero_iff]
  unfold czR allU
  rw [List.flatMap_eq_nil_iff, Bool.not_eq_true', ← Bool.not_eq_true, List.any_eq_true]
  constructor
  · rintro h ⟨x, hx, hq⟩
    have := czK_nil.1 (h x hx)
    rw [this] at hq; cases hq
  · intro h x hx
    rw [czK_nil]
    apply Classical.byContradiction
    intro q
    exact h ⟨x, hx, by simpa using q⟩
def del (l : List Int) (i : Nat) : List Int := l.take i ++ l.drop (i + 1)
theorem del_srt {n : Int} : ∀ (l : List Int) (lo : Int) (i : Nat), Srt n lo l → Srt n lo (del l i)
  | [], _, i, _ => by simp [del]; trivial
  | x :: l, lo, 0, h => by
    have : del (x :: l) 0 = l := by simp [del]
    rw [this]
    exact h.2.2.weak (by have := h.1; omega)
  | x :: l, lo, i + 1, h => by
    have : del (x :: l) (i + 1) = x :: del l i := by simp [del]
    rw [this]
    exact ⟨h.1, h.2.1, del_srt l (x + 1) i h.2.2⟩
theorem costL_from (m : Mp) : ∀ (l : List Int) (a : Int), l.foldl (fun n x => n + (gw m x.toNat).c) a = a + costL m l
  | [], a => by simp [costL]
  | x :: l, a => by
    have h1 := costL_from m l (a + (gw m x.toNat).c)
    have h2 := costL_from m l (0 + (gw m x.toNat).c)
    unfold costL
    rw [List.foldl_cons, List.foldl_cons, h1, h2]
    omega
theorem costL_app (m : Mp) (a b : List Int) : costL m (a ++ b) = costL m a + costL m b := by
  have := costL_from m b (costL m a)
  unfold costL at this ⊢
  rw [List.foldl_append]
  exact this
theorem del_cost (m : Mp) {l : List Int} {i : Nat} (h : i < l.length) : costL m l = costL m (del l i) + (gw m (gi l i).toNat).c := by
  have e : l = l.take (i + 1) ++ l.drop (i + 1) := (List.take_append_drop _ _).symm
  have e2 : costL m l = costL m (l.take (i + 1) ++ l.drop (i + 1)) := by rw [← e]
  rw [e2, take_snoc h, costL_app, costL_snoc]
  unfold del
  rw [costL_app]
  omega
def sumR (m : Mp) (l : List Int) : Int := l.foldl (fun n x => n + (gr m x.toNat).c) 0
theorem sumR_snoc (m : Mp) (l : List Int) (x : Int) : sumR m (l ++ [x]) = sumR m l + (gr m x.toNat).c := by
  unfold sumR; rw [List.foldl_append]; rfl
theorem sumR_aux {m : Mp} (h : OkM m) : ∀ (l : List Int) (a : Int), (∀ x ∈ l, 0 ≤ x ∧ x < m.rs.length) → a ≤ l.foldl (fun n x => n + (gr m x.toNat).c) a ∧ l.foldl (fun n x => n + (gr m x.toNat).c) a ≤ a + l.length * 1073741824
  | [], a, _ => by simp
  | x :: l, a, hx => by
    have h1 := sumR_aux h l (a + (gr m x.toNat).c) (fun y hy => hx y (List.mem_cons_of_mem _ hy))
    have h2 := hx x List.mem_cons_self
    have h3 := (roadB_ok (h.r x.toNat (by omega))).c
    simp only [List.foldl_cons, List.length_cons]
    omega
theorem sumR_rng {m : Mp} (h : OkM m) {l : List Int} (hx : ∀ x ∈ l, 0 ≤ x ∧ x < m.rs.length) : 0 ≤ sumR m l ∧ sumR m l ≤ l.length * 1073741824 := by
  have := sumR_aux h l 0 hx
  unfold sumR
  omega
end Go.Proofs.YtcfomfajpmlleaaGreat.R

namespace Go.Proofs.YtcfomfajpmlleaaGreat.R
open Go Sy
set_option linter.unusedVariables false
inductive Pt (m : Mp) (fr : Int) : List Int → Int → Prop
  | nil : Pt m fr [] fr
  | snoc {l : List Int} {a : Int} {i : Nat} : Pt m fr l a → i < m.rs.length → (gr m i).f = a → Pt m fr (l ++ [(i : Int)]) (gr m i).t
theorem Pt.rng {m : Mp} {fr a : Int} {l : List Int} (h : Pt m fr l a) : ∀ x ∈ l, 0 ≤ x ∧ x < m.rs.length := by
  induction h with
  | nil => intro x hx; cases hx
  | snoc _ hi _ ih =>
    intro x hx
    rcases List.mem_append.1 hx with hx | hx
    · exact ih x hx
    · rw [List.mem_singleton] at hx; omega
theorem count_set : ∀ (l : List Bool) (i : Nat), i < l.length → l.getD i false = false → (l.set i true).count false + 1 = l.count false
  | [], i, h, _ => by simp at h
  | b :: l, 0, h, hb => by
    have : b = false := by simpa using hb
    subst this
    simp
  | b :: l, i + 1, h, hb => by
    have h1 := count_set l i (by simpa using h) (by simpa using hb)
    rw [List.set_cons_succ, List.count_cons, List.count_cons]
    omega
end Go.Proofs.YtcfomfajpmlleaaGreat.R

namespace Go.Proofs.YtcfomfajpmlleaaGreat.R
open Go Sy
set_option maxRecDepth 100000
set_option maxHeartbeats 4000000
set_option linter.unusedVariables false
set_option linter.unusedSimpArgs false
end Go.Proofs.YtcfomfajpmlleaaGreat.R

namespace Go.Proofs.YtcfomfajpmlleaaGreat.R
open Go Sy
set_option maxRecDepth 100000
set_option maxHeartbeats 4000000
set_option linter.unusedVariables false
set_option linter.unusedSimpArgs false
def vis (m : Mp) (fr : Int) (l : List Int) (i : Nat) : List Int := fr :: (l.take i).map fun x => (gr m x.toNat).t
def atP (m : Mp) (fr : Int) (l : List Int) (i : Nat) : Int := if i = 0 then fr else (gr m (gi l (i - 1)).toNat).t
def rtK (m : Mp) (fr : Int) (l : List Int) (i : Nat) : Bool := (gr m (gi l i).toNat).f == atP m fr l i && !decide ((gr m (gi l i).toNat).t ∈ vis m fr l i)
def rtB (m : Mp) (fr to : Int) (l : List Int) : Bool := (List.range l.length).all (rtK m fr l) && atP m fr l l.length == to
def irE (m : Mp) (fr to : Int) (l : List Int) : Int := if chkM m = 0 then (if plB m.n fr = true ∧ plB m.n to = true then rdE m l else 3) else chkM m
def irV (m : Mp) (fr to : Int) (l : List Int) : Bool := decide (irE m fr to l = 0) && rtB m fr to l
theorem vis_succ (m : Mp) (fr : Int) {l : List Int} {i : Nat} (h : i < l.length) : vis m fr l (i + 1) = vis m fr l i ++ [(gr m (gi l i).toNat).t] := by
  unfold vis
  rw [take_snoc h, List.map_append]; rfl
theorem atP_succ (m : Mp) (fr : Int) (l : List Int) (i : Nat) : atP m fr l (i + 1) = (gr m (gi l i).toNat).t := by
  unfold atP; rw [if_neg (by omega)]; rfl
end Go.Proofs.YtcfomfajpmlleaaGreat.R

namespace Go.Proofs.YtcfomfajpmlleaaGreat.R
open Go Sy
set_option linter.unusedVariables false
theorem allU_mem {m : Mp} {f : Nat → Int} {rs s : List Int} (h : allU m f rs s = true) : ∀ x ∈ rs, usB m f s x.toNat = true := fun x hx => by
  unfold allU at h
  rw [Bool.not_eq_true', ← Bool.not_eq_true, List.any_eq_true] at h
  apply Classical.byContradiction
  intro q
  exact h ⟨x, hx, by simpa using q⟩
theorem allU_of {m : Mp} {f : Nat → Int} {rs s : List Int} (h : ∀ x ∈ rs, usB m f s x.toNat = true) : allU m f rs s = true := by
  unfold allU
  rw [Bool.not_eq_true', ← Bool.not_eq_true, List.any_eq_true]
  rintro ⟨x, hx, q⟩
  rw [h x hx] at q
  cases q
theorem pt_wk {m : Mp} {f : Nat → Int} {s : List Int} {fr a : Int} {l : List Int} (hok : OkM m) (h : Pt m fr l a) (hu : ∀ x ∈ l, usB m f s x.toNat = true) : Wk (edgC m false (cU m f s)) fr.toNat a.toNat (sumR m l) := by
  induction h with
  | nil => exact .nil
  | snoc h1 hi hf ih =>
    rename_i l' a' i
    have hus : usB m f s i = true := by simpa using hu (i : Int) (by simp)
    obtain ⟨he, hc⟩ := us_edge (m := m) (f := f) (s := s) (bk := false) hi hus
    have ihh := ih (fun x hx => hu x (List.mem_append_left _ hx))
    rw [sumR_snoc, Int.toNat_natCast]
    have e1 : (edC m false (cU m f s) i).x = a'.toNat := by rw [← hf]; rfl
    have e2 : (edC m false (cU m f s) i).y = (gr m i).t.toNat := rfl
    rw [← e1] at ihh
    have h5 := (roadB_ok (hok.r i hi)).c
    have h6 := Wk.snoc ihh he (by rw [hc]; omega)
    rw [hc, e2] at h6
    exact h6
theorem price_le {m : Mp} {f : Nat → Int} {fr to : Int} {x s : List Int} (h : OkM m) (hf : 0 ≤ fr ∧ fr < m.n) (ht : 0 ≤ to ∧ to < m.n) (hp : Pt m fr x to) (hx : x.length ≤ 100) (hs : Srt m.ws.length 0 s) (hu : allU m f x s = true) : ∃ z k, bestS m f fr to = some (z, k) ∧ k ≤ sumR m x + costL m s := by
  have h1 := (pt_wk h hp (allU_mem hu)).rev
  have h1 : Wk (edgC m true (cU m f s)) to.toNat fr.toNat (sumR m x) := h1
  obtain ⟨k1, k2⟩ := edgC_ok h true (c := cU m f s) (fun i hi => (cU_rng h f s hi).1)
  obtain ⟨h3, h4⟩ := dL_dst h f s true ht
  have h5 := fix_le k1 h3 h4 h1
  have h5 : gi (dL m f s to) fr.toNat ≤ sumR m x := h5
  have h6 := (sumR_rng h hp.rng).2
  have h7 : (x.length : Int) * 1073741824 ≤ 100 * 1073741824 := by omega
  obtain ⟨z, k, h8, h9⟩ := best_le (m := m) (f := f) (fr := fr) (to := to) hs (by unfold okS; rw [decide_eq_true_eq]; omega)
  exact ⟨z, k, h8, by unfold cfS at h9; omega⟩
theorem sumR_from (m : Mp) : ∀ (l : List Int) (a : Int), l.foldl (fun n x => n + (gr m x.toNat).c) a = a + sumR m l
  | [], a => by simp [sumR]
  | x :: l, a => by
    have h1 := sumR_from m l (a + (gr m x.toNat).c)
    have h2 := sumR_from m l (0 + (gr m x.toNat).c)
    unfold sumR
    rw [List.foldl_cons, List.foldl_cons, h1, h2]
    omega
theorem sumR_cons (m : Mp) (x : Int) (l : List Int) : sumR m (x :: l) = (gr m x.toNat).c + sumR m l := by
  have h2 := sumR_from m l (0 + (gr m x.toNat).c)
  have e : sumR m (x :: l) = l.foldl (fun n x => n + (gr m x.toNat).c) (0 + (gr m x.toNat).c) := rfl
  rw [e, h2]; omega
theorem Pt.cons {m : Mp} {a b : Int} {l : List Int} {i : Nat} (hi : i < m.rs.length) (h : Pt m (gr m i).t l b) (hf : (gr m i).f = a) : Pt m a ((i : Int) :: l) b := by
  induction h with
  | nil =>
    have := Pt.snoc (Pt.nil (m := m) (fr := a)) hi hf
    exact this
  | snoc _ h2 h3 ih => exact .snoc ih h2 h3
theorem atP_cons (m : Mp) (a x : Int) (l : List Int) (i : Nat) : atP m a (x :: l) (i + 1) = atP m (gr m x.toNat).t l i := by
  unfold atP
  rw [if_neg (by omega)]
  rcases i with _ | j
  · rfl
  · rw [if_neg (by omega)]; rfl
structure Way (m : Mp) (f : Nat → Int) (s left : List Int) (to a : Int) (l : List Int) : Prop where
  u : ∀ x ∈ l, usB m f s x.toNat = true
  c : sumR m l = gi left a.toNat
  p : Pt m a l to
  f : ∀ i, i < l.length → (gr m (gi l i).toNat).f = atP m a l i
  d : ∀ i, i < l.length → gi left (gr m (gi l i).toNat).t.toNat < gi left (atP m a l i).toNat
  e : atP m a l l.length = to
theorem way_ok {m : Mp} {f : Nat → Int} {s : List Int} {to : Int} (h : OkM m) (ht : 0 ≤ to ∧ to < m.n) : ∀ (k : Nat) (a : Int), AtW m f s (dL m f s to) to a → rk (dL m f s to) m.n.toNat a.toNat ≤ k → Way m f s (dL m f s to) to a (wayC m f s (dL m f s to) to k a) ∧ (wayC m f s (dL m f s to) to k a).length ≤ k := by
  have h0 : gi (dL m f s to) to.toNat = 0 := (dL_dst h f s true ht).1.src
  have base : ∀ a, a = to → Way m f s (dL m f s to) to a [] := fun a e => by
    subst e
    exact ⟨fun x hx => (by cases hx), (by rw [h0]; rfl), .nil, fun i hi => (by simp at hi), fun i hi => (by simp at hi), rfl⟩
  intro k
  induction k with
  | zero =>
    intro a ha hr
    have hat : a = to := by
      apply Classical.byContradiction
      intro hne
      obtain ⟨h1, h2, _⟩ := nxt_spec h ht ha hne
      have := (hit_step h ht ha h1 h2).2.2.2.2
      omega
    exact ⟨base a hat, Nat.le_refl _⟩
  | succ k ih =>
    intro a ha hr
    by_cases hat : a = to
    · have e : wayC m f s (dL m f s to) to (k + 1) a = [] := by simp only [wayC]; rw [if_pos hat]
      rw [e]
      exact ⟨base a hat, by simp⟩
    · obtain ⟨h1, h2, _⟩ := nxt_spec h ht ha hat
      obtain ⟨g1, g2, g3, g4, g5⟩ := hit_step h ht ha h1 h2
      have e : wayC m f s (dL m f s to) to (k + 1) a = (nxt m f s (dL m f s to) a : Int) :: wayC m f s (dL m f s to) to k (gr m (nxt m f s (dL m f s to) a)).t := by simp only [wayC]; rw [if_neg hat]
      rw [e]
      obtain ⟨W, hl⟩ := ih _ g4 (by omega)
      generalize nxt m f s (dL m f s to) a = i at *
      generalize wayC m f s (dL m f s to) to k (gr m i).t = l at *
      have hc := (roadB_ok (h.r i h1)).c
      refine ⟨⟨fun x hx => ?_, ?_, W.p.cons h1 g2, fun j hj => ?_, fun j hj => ?_, ?_⟩, by simpa using hl⟩
      · rcases List.mem_cons.1 hx with rfl | hx
        · simpa using g1
        · exact W.u x hx
      · rw [sumR_cons, W.c, Int.toNat_natCast]; omega
      · rcases j with _ | j
        · exact g2
        · rw [atP_cons, Int.toNat_natCast]
          exact W.f j (by simpa using hj)
      · rcases j with _ | j
        · show gi (dL m f s to) (gr m i).t.toNat < gi (dL m f s to) a.toNat
          omega
        · rw [atP_cons, Int.toNat_natCast]
          exact W.d j (by simpa using hj)
      · rw [List.length_cons, atP_cons, Int.toNat_natCast]
        exact W.e
theorem Way.rt {m : Mp} {f : Nat → Int} {s left : List Int} {to a : Int} {l : List Int} (h : Way m f s left to a l) : rtB m a to l = true := by
  have key : ∀ i, i ≤ l.length → ∀ y ∈ vis m a l i, gi left (atP m a l i).toNat ≤ gi left y.toNat := fun i => by
    induction i with
    | zero =>
      intro _ y hy
      have : y = a := by simpa [vis] using hy
      rw [this]; exact Int.le_refl _
    | succ i ih =>
      intro hi y hy
      rw [vis_succ m a (by omega)] at hy
      rw [atP_succ]
      rcases List.mem_append.1 hy with hy | hy
      · have h1 := ih (by omega) y hy
        have h2 := h.d i (by omega)
        omega
      · rw [List.mem_singleton] at hy
        rw [hy]; exact Int.le_refl _
  unfold rtB
  rw [Bool.and_eq_true, List.all_eq_true, beq_iff_eq]
  refine ⟨fun i hi => ?_, h.e⟩
  have hi := List.mem_range.1 hi
  unfold rtK
  rw [Bool.and_eq_true, beq_iff_eq, Bool.not_eq_true', decide_eq_false_iff_not]
  refine ⟨h.f i hi, fun hv => ?_⟩
  have h1 := key i (by omega) _ hv
  have h2 := h.d i hi
  omega
theorem best_way {m : Mp} {f : Nat → Int} {fr to : Int} {s : List Int} {n : Int} (h : OkM m) (hf : 0 ≤ fr ∧ fr < m.n) (ht : 0 ≤ to ∧ to < m.n) (hb : bestS m f fr to = some (s, n)) :
    Srt m.ws.length 0 s ∧ Way m f s (dL m f s to) to fr (wayS m f fr to s) ∧ (wayS m f fr to s).length ≤ 64 ∧ n = sumR m (wayS m f fr to s) + costL m s ∧ ∀ i, i < s.length → allU m f (wayS m f fr to s) (del s i) = false := by
  obtain ⟨b1, b2, b3, b4⟩ := best_some hb
  have hN := h.n
  have hlr := dL_rng h f s true ht (y := fr.toNat) (by omega)
  have hlr : 0 ≤ gi (dL m f s to) fr.toNat ∧ gi (dL m f s to) fr.toNat ≤ 1125899906842624 := hlr
  have hA0 : AtW m f s (dL m f s to) to fr := ⟨hf, by omega, (by unfold okS at b3; rw [decide_eq_true_eq] at b3; exact b3)⟩
  obtain ⟨W, hl⟩ := way_ok h ht m.n.toNat fr hA0 (rk_le _ _ _)
  have hW : wayC m f s (dL m f s to) to m.n.toNat fr = wayS m f fr to s := rfl
  rw [hW] at W hl
  have hn : n = sumR m (wayS m f fr to s) + costL m s := by rw [b4, W.c]; rfl
  refine ⟨b2, W, by omega, hn, fun i hi => ?_⟩
  cases hq : allU m f (wayS m f fr to s) (del s i)
  · rfl
  · exfalso
    obtain ⟨z, k, h4, h5⟩ := price_le h hf ht W.p (by omega) (del_srt s 0 i b2) hq
    rw [hb] at h4
    cases h4
    have h6 := del_cost m hi
    have h7 := b2.mem _ (getD_mem 0 s i hi)
    have h8 := (workB_ok (h.w (gi s i).toNat (by show (s.getD i 0).toNat < _; omega))).c
    omega
end Go.Proofs.YtcfomfajpmlleaaGreat.R

namespace Go.Proofs.YtcfomfajpmlleaaGreat.R
open Go Sy
set_option linter.unusedVariables false
structure Tr where
  f : Int
  t : Int
  c : Int
  w : Int
  a : Int
  h : Int
  o : Int
  l : Int
structure Fx where
  r : Int
  k : Int
  l : Int
  c : Int
def dTr : Tr := ⟨0, 0, 0, 0, 0, 0, 0, 0⟩
def dFx : Fx := ⟨0, 0, 0, 0⟩
structure OTr (x : Tr) : Prop where
  f : 0 ≤ x.f ∧ x.f ≤ 255
  t : 0 ≤ x.t ∧ x.t ≤ 255
  c : 0 ≤ x.c ∧ x.c ≤ 255
  w : 0 ≤ x.w ∧ x.w ≤ 255
  a : 0 ≤ x.a ∧ x.a ≤ 255
  h : 0 ≤ x.h ∧ x.h ≤ 255
  o : 0 ≤ x.o ∧ x.o ≤ 255
  l : 0 ≤ x.l ∧ x.l ≤ 255
structure OFx (x : Fx) : Prop where
  r : 0 ≤ x.r ∧ x.r ≤ 255
  k : 0 ≤ x.k ∧ x.k ≤ 255
  l : 0 ≤ x.l ∧ x.l ≤ 255
  c : 0 ≤ x.c ∧ x.c ≤ 255
def rdT (t : Tr) : Rd := ⟨t.f % 5, (t.f % 5 + 1 + t.t % 4) % 5, 1 + t.c, 10 + t.c % 50, t.o * 3, min 1440 (t.o * 3 + (10 + t.c % 50) + t.l * 4), 1200 + 20 * t.h, 100000, 10000 + 200 * t.w, 3000 + 50 * t.a, 100000, 100000⟩
def kdF (k : Int) : Int := if k % 3 = 0 then 0 else if k % 3 = 1 then 2 else 3
def mxF (k : Int) : Int := if k % 3 = 0 then 6000 else if k % 3 = 1 then 80000 else 20000
def wkF (n : Int) (x : Fx) : Wrk := ⟨[x.r % n], kdF x.k, mxF x.k * (1 + x.l) / 256, 1 + x.c⟩
def rdA (l : List Tr) : List Rd := (l.take 12).map rdT
def wkA (n : Nat) (fs : List Fx) : List Wrk := if n = 0 then [] else (fs.take 4).map (wkF n)
def atl (l : List Tr) (fs : List Fx) : Mp := ⟨5, rdA l, wkA (rdA l).length fs⟩
theorem rdT_ok {t : Tr} (h : OTr t) : roadB 5 (rdT t) = true := by
  obtain ⟨h1, h2, h3, h4, h5, h6, h7, h8⟩ := h
  unfold roadB plB hrsB
  simp only [Bool.and_eq_true, decide_eq_true_eq, Bool.not_eq_true', beq_eq_false_iff_ne, inR_iff]
  have e : szB (rdT t).lim = true := szB_iff.2 fun k hk => by
    rcases k with _ | _ | _ | _ | _ | _ | k <;> first | omega | (simp only [Rd.lim, rdT]; omega)
  refine ⟨⟨⟨⟨⟨?_, ?_⟩, ?_⟩, ?_⟩, ?_⟩, e⟩ <;> simp only [rdT] <;> omega
theorem wkF_ok {n : Int} (hn : 0 < n) {x : Fx} (h : OFx x) : workB n (wkF n x) = true := by
  obtain ⟨h1, h2, h3, h4⟩ := h
  have hm : 0 ≤ x.r % n ∧ x.r % n < n := ⟨Int.emod_nonneg _ (by omega), Int.emod_lt_of_pos _ hn⟩
  have hk : 0 ≤ kdF x.k ∧ kdF x.k ≤ 5 := by unfold kdF; split <;> (try split) <;> omega
  have hx : 0 ≤ mxF x.k ∧ mxF x.k ≤ 80000 := by unfold mxF; split <;> (try split) <;> omega
  have hp : 0 ≤ mxF x.k * (1 + x.l) ∧ mxF x.k * (1 + x.l) ≤ 80000 * 256 := ⟨Int.mul_nonneg hx.1 (by omega), Int.mul_le_mul hx.2 (by omega) (by omega) (by omega)⟩
  have hs : setB [x.r % n] n = true := srt_setB ⟨hm.1, hm.2, trivial⟩
  unfold workB
  simp only [Bool.and_eq_true, decide_eq_true_eq, inR_iff]
  refine ⟨⟨⟨⟨⟨?_, hs⟩, ?_⟩, ?_⟩, ?_⟩, ?_⟩ <;> simp only [wkF] <;> first | (simp; done) | omega
theorem atl_len (l : List Tr) (fs : List Fx) : (atl l fs).rs.length ≤ 12 ∧ (atl l fs).ws.length ≤ 4 ∧ (rdA l).length = min 12 l.length := by
  have h1 : (rdA l).length = min 12 l.length := by simp [rdA]
  refine ⟨Nat.le_trans (Nat.le_of_eq h1) (Nat.min_le_left _ _), ?_, h1⟩
  show (wkA _ fs).length ≤ 4
  unfold wkA
  split
  · simp
  · simp only [List.length_map, List.length_take]; omega
theorem wkA_mem {n : Nat} {fs : List Fx} {w : Wrk} (h : w ∈ wkA n fs) : 0 < n ∧ ∃ x ∈ fs, w = wkF n x := by
  unfold wkA at h
  split at h
  · cases h
  · obtain ⟨x, hx, rfl⟩ := List.mem_map.1 h
    exact ⟨by omega, x, List.mem_of_mem_take hx, rfl⟩
theorem atl_gm (l : List Tr) (fs : List Fx) : Gm (atl l fs) := by
  obtain ⟨h1, h2, _⟩ := atl_len l fs
  exact ⟨by omega, by omega, fun w hw => by
    obtain ⟨_, x, _, rfl⟩ := wkA_mem hw
    simp [wkF]⟩
theorem atl_chk {l : List Tr} {fs : List Fx} (hl : ∀ t ∈ l, OTr t) (hf : ∀ x ∈ fs, OFx x) : chkM (atl l fs) = 0 := by
  obtain ⟨h1, h2, _⟩ := atl_len l fs
  have m1 : manyB (atl l fs) = false := by
    rw [← Bool.not_eq_true]
    unfold manyB
    simp only [Bool.or_eq_true, decide_eq_true_eq, List.any_eq_true, not_or, not_exists, not_and]
    refine ⟨⟨by omega, by omega⟩, fun w hw => ?_⟩
    obtain ⟨_, x, _, rfl⟩ := wkA_mem hw
    simp [wkF]
  have m2 : badM (atl l fs) = false := by
    rw [← Bool.not_eq_true]
    unfold badM
    simp only [Bool.or_eq_true, decide_eq_true_eq, List.any_eq_true, not_or, not_exists, not_and, Bool.not_eq_true', Bool.not_eq_false]
    refine ⟨⟨⟨by show ¬ ((5 : Int) < 1); omega, by show ¬ ((64 : Int) < 5); omega⟩, fun r hr => ?_⟩, fun w hw => ?_⟩
    · obtain ⟨t, ht, rfl⟩ := List.mem_map.1 (show r ∈ rdA l from hr)
      exact rdT_ok (hl t (List.mem_of_mem_take ht))
    · obtain ⟨hn, x, hx, rfl⟩ := wkA_mem hw
      exact wkF_ok (n := ((rdA l).length : Int)) (by omega) (hf x hx)
  unfold chkM
  rw [m1, if_neg (by decide), m2, if_neg (by decide)]
structure Rte (m : Mp) (f : Nat → Int) (fr to : Int) (s : List Int) (n : Int) : Prop where
  srt : Srt m.ws.length 0 s
  us : ∀ x ∈ wayS m f fr to s, usB m f s x.toNat = true
  rg : ∀ x ∈ wayS m f fr to s, 0 ≤ x ∧ x < m.rs.length
  len : (wayS m f fr to s).length ≤ 64
  ir : irV m fr to (wayS m f fr to s) = true ∧ irE m fr to (wayS m f fr to s) = 0
theorem chE_of {m : Mp} {f : Nat → Int} {fr to : Int} (hc : chkM m = 0) (hz : szE f = 0) (hf : 0 ≤ fr ∧ fr < m.n) (ht : 0 ≤ to ∧ to < m.n) : opE m f = 0 ∧ chE m f fr to = bE (bestS m f fr to) ∧ chV m f fr to = bestS m f fr to := by
  have ho : opE m f = 0 := by unfold opE; rw [if_pos hc]; exact hz
  have p : plB m.n fr = true ∧ plB m.n to = true := by
    unfold plB
    simp only [Bool.and_eq_true, decide_eq_true_eq]
    exact ⟨hf, ht⟩
  refine ⟨ho, ?_, ?_⟩
  · unfold chE; rw [if_pos ho, if_pos p]
  · unfold chV; rw [if_pos ho, if_pos p]
end Go.Proofs.YtcfomfajpmlleaaGreat.R

namespace Go.Proofs.YtcfomfajpmlleaaGreat.R
open Go Sy
set_option maxRecDepth 100000
set_option maxHeartbeats 8000000
set_option linter.unusedVariables false
set_option linter.unusedSimpArgs false
abbrev cTr (t : Tr) : List AV := [.v (.int .u8 t.f), .v (.int .u8 t.t), .v (.int .u8 t.c), .v (.int .u8 t.w), .v (.int .u8 t.a), .v (.int .u8 t.h), .v (.int .u8 t.o), .v (.int .u8 t.l)]
abbrev aTr (l : List Tr) : AV := .sl 8 dTr cTr l
abbrev cFx (x : Fx) : List AV := [.v (.int .u8 x.r), .v (.int .u8 x.k), .v (.int .u8 x.l), .v (.int .u8 x.c)]
abbrev aFx (l : List Fx) : AV := .sl 4 dFx cFx l
def sl1 (b : Bool) (x : AV) : AV := if b = true then x else .bad
theorem sl1_t (x : AV) : sl1 true x = x := rfl
theorem sl1_f (x : AV) : sl1 false x = .bad := rfl
theorem le_stk {s s' : S} (ks : List Nat) (nx : Nat) (h : ∀ j, nx ≤ j → lm s.mem j = none) (he : (⟨keepL s.tm ks, s.mem, nx⟩ : S) = s') : le s s' := he ▸ le_keepL ks nx h
theorem le_two {s t u : S} (h : le s t) (k : le t u) : le s u := fun G E a w hS => by
  obtain ⟨E2, h2⟩ := h G E a w hS
  exact k G E2 a w h2
theorem oB {bs : List Nat} {b : Bool} {x : AV} (h : onlyB bs x = true) : onlyB bs (sl1 b x) = true := by
  cases b
  · rfl
  · exact h
theorem okc {bs : List Nat} {t : Nat} {a : AV} {r : List (Nat × AV)} (h : onlyB bs a = true) (k : okTm bs r = true) : okTm bs ((t, a) :: r) = true := by
  show (onlyB bs a && okTm bs r) = true
  rw [h, k]; rfl
theorem nOK {ks bs : List Nat} {nx : Nat} {s : S} (h1 : okTm bs (ks.map fun t => (t, lk s.tm t)) = true) (h2 : okMem bs s.mem = true) (h3 : allLt nx bs = true) : normOK ks bs nx s = true := by
  show (okTm bs (ks.map fun t => (t, lk s.tm t)) && okMem bs s.mem && allLt nx bs) = true
  rw [h1, h2, h3]; rfl
def fW (ws : List Wrk) (w : Wrk) (i : Nat) : Bool → Blk
  | true => .row (i + 1) 50 4 dW cW (ws ++ [w])
  | false => .row i 50 4 dW cW ws
def fC (n i : Nat) : Bool → Blk
  | true => .cells [iv 5, .row 5 n, .row 6 (i + 1)]
  | false => .cells [iv 5, .row 5 n, .row 6 i]
abbrev fZ : Blk := .cells [iv 0, .v (.slice none 0 0), .v (.slice none 0 0)]
abbrev fM (RA : List Rd) (ws : List Wrk) (i : Nat) (b : Fx) (x y : Bool) : List (Nat × Blk) := [(6, fW ws (wkF RA.length b) i x), (5, .row RA.length 48 12 dR cR RA), (0, fZ), (2, fC RA.length i y), (34, .cells (cFx b))]
theorem fM_no (RA : List Rd) (ws : List Wrk) (i : Nat) (b : Fx) (x y : Bool) (q : Nat) (hq : 90 ≤ q) : lm (fM RA ws i b x y) q = none := by
  simp only [lm]
  repeat rw [if_neg (by omega)]
def kS46 : List Nat := [1, 4, 5, 9, 10, 11, 116, 117, 118, 119, 120, 121, 122, 123, 124, 125, 126, 127, 128, 129, 130, 131, 132, 133, 134, 135, 136, 137, 138, 139, 140, 141, 142, 143, 144, 145, 146]
def fS (fs : List Fx) (RA : List Rd) (ws : List Wrk) (i : Nat) (b : Fx) (D : Nat → Bool) : S :=
  ⟨[(1, aFx fs), (4, .own 0 0), (5, .own 2 0), (9, iv i), (10, .own 34 0), (11, iv (kdF b.k)), (116, sl1 (D 0) (.own 2 2)), (117, sl1 (D 1) (.row 6 i)), (118, sl1 (D 2) (.own 34 0)), (119, sl1 (D 3) (.v (.int .u8 b.r))), (120, sl1 (D 4) (iv b.r)), (121, sl1 (D 5) (.own 2 1)), (122, sl1 (D 6) (.row 5 RA.length)), (123, sl1 (D 7) (iv RA.length)), (124, sl1 (D 8) (iv (b.r % RA.length))), (125, sl1 (D 9) (aI [b.r % RA.length])), (126, sl1 (D 10) (iv (kdF b.k))), (127, sl1 (D 11) (.agg [iv 6000, iv 80000, iv 20000])), (128, sl1 (D 12) (.own 34 1)), (129, sl1 (D 13) (.v (.int .u8 b.k))), (130, sl1 (D 14) (iv b.k)), (131, sl1 (D 15) (iv (b.k % 3))), (132, sl1 (D 16) (iv (mxF b.k))), (133, sl1 (D 17) (.own 34 2)), (134, sl1 (D 18) (.v (.int .u8 b.l))), (135, sl1 (D 19) (iv b.l)), (136, sl1 (D 20) (iv (1 + b.l))), (137, sl1 (D 21) (iv (mxF b.k * (1 + b.l)))), (138, sl1 (D 22) (iv (mxF b.k * (1 + b.l) / 256))), (139, sl1 (D 23) (.own 34 3)), (140, sl1 (D 24) (.v (.int .u8 b.c))), (141, sl1 (D 25) (iv b.c)), (142, sl1 (D 26) (iv (1 + b.c))), (143, sl1 (D 27) (.agg (cW (wkF RA.length b)))), (144, sl1 (D 28) (aW [wkF RA.length b])), (145, sl1 (D 29) (.row 6 (i + 1))), (146, sl1 (D 30) (.own 2 2))], fM RA ws i b (D 29) (D 31), 90⟩
theorem nth_mx {k : Int} (h : 0 ≤ k) : nth [iv 6000, iv 80000, iv 20000] ((k % 3).toNat * 1) = iv (mxF k) := by
  have : k % 3 = 0 ∨ k % 3 = 1 ∨ k % 3 = 2 := by omega
  unfold mxF
  rcases this with q | q | q <;> rw [q] <;> rfl
theorem nth_kd {k : Int} (h : 0 ≤ k) : nth [iv 0, iv 2, iv 3] ((k % 3).toNat * 1) = iv (kdF k) := by
  have : k % 3 = 0 ∨ k % 3 = 1 ∨ k % 3 = 2 := by omega
  unfold kdF
  rcases this with q | q | q <;> rw [q] <;> rfl
theorem t46 (fs : List Fx) (RA : List Rd) (ws : List Wrk) (i : Nat) (b : Fx) (hb : OFx b) (hR : 0 < RA.length ∧ RA.length ≤ 12) (hw : ws.length = i) (hi : i < 4) {Q : Ex → S → Prop}
    (hQ : Q .n ⟨[(1, aFx fs), (4, .own 0 0), (5, .own 2 0), (9, iv i)], fM RA ws i b true true, 90⟩) :
    W Tryz.prog 148 Xn8_46 ⟨[(1, aFx fs), (4, .own 0 0), (5, .own 2 0), (9, iv i), (10, .own 34 0), (11, iv (kdF b.k))], [(6, .row i 50 4 dW cW ws), (5, .row RA.length 48 12 dR cR RA), (0, fZ), (2, .cells [iv 5, .row 5 RA.length, .row 6 i]), (34, .cells (cFx b))], 43⟩ Q := by
  obtain ⟨b1, b2, b3, b4⟩ := hb
  have e1 : b.k.tmod 3 = b.k % 3 := Int.tmod_eq_emod_of_nonneg b2.1
  have e2 : b.r.tmod RA.length = b.r % RA.length := Int.tmod_eq_emod_of_nonneg b1.1
  have hm : 0 ≤ b.r % (RA.length : Int) ∧ b.r % (RA.length : Int) < RA.length := ⟨Int.emod_nonneg _ (by omega), Int.emod_lt_of_pos _ (by omega)⟩
  have hx : 0 ≤ mxF b.k ∧ mxF b.k ≤ 80000 := by unfold mxF; split <;> (try split) <;> omega
  have hp : 0 ≤ mxF b.k * (1 + b.l) ∧ mxF b.k * (1 + b.l) ≤ 80000 * 256 := ⟨Int.mul_nonneg hx.1 (by omega), Int.mul_le_mul hx.2 (by omega) (by omega) (by omega)⟩
  have e3 : (mxF b.k * (1 + b.l)).tdiv 256 = mxF b.k * (1 + b.l) / 256 := Int.tdiv_eq_ediv_of_nonneg hp.1
  have em := nth_mx b2.1
  have ew : cW (wkF RA.length b) = [aI [b.r % RA.length], iv (kdF b.k), iv (mxF b.k * (1 + b.l) / 256), iv (1 + b.c)] := rfl
  refine W_regJ (fS fs RA ws i b) ?_ (fun D i' ro m hro hms hD ha hcl => ?_) (fun D hD => ?_)
  · exact le_stk kS46 90 (fun z hz => fM_no RA ws i b false false z hz) (by rfl)
  · have off : ∀ (x y w : Nat), D y = false → [0, 1, 0, 4, 12, 0, 32, 96, 252, 508, 0, 0, 0, 4096, 12288, 28672, 63488, 0, 131072, 393216, 917504, 2095104, 4192256, 0, 8388608, 25165824, 58720256, 134217724, 268435452, 536870911, 1073741823, 2147483647][x]? = some w → tb w y → D x = false := fun x y w hy hw hb => by
      rw [← Bool.not_eq_true]
      intro z
      rw [hcl x w z hw y hb] at hy
      cases hy
    have L : ∀ (x y : Bool) (z : Nat), 90 ≤ z → lm (fM RA ws i b x y) z = none := fun x y z hz => fM_no RA ws i b x y z hz
    rcases i' with _ | _ | _ | _ | _ | _ | _ | _ | _ | _ | _ | _ | _ | _ | _ | _ | _ | _ | _ | _ | _ | _ | _ | _ | _ | _ | _ | _ | _ | _ | _ | _ | i'
    all_goals simp only [List.getElem?_cons_zero, List.getElem?_cons_succ, List.getElem?_nil, Option.some.injEq, reduceCtorEq] at hro hms
    all_goals subst hro
    all_goals subst hms
    all_goals unfold fS
    have h29 := off 29 0 536870911 hD rfl (by unfold tb; decide)
    have h31 := off 31 0 2147483647 hD rfl (by unfold tb; decide)
    simp only [h29, h31]
    rotate_left
    have a0 := ha 0 (by unfold tb; decide)
    have h29 := off 29 1 536870911 hD rfl (by unfold tb; decide)
    have h31 := off 31 1 2147483647 hD rfl (by unfold tb; decide)
    simp only [a0, h29, h31]
    rotate_left
    have h29 := off 29 2 536870911 hD rfl (by unfold tb; decide)
    have h31 := off 31 2 2147483647 hD rfl (by unfold tb; decide)
    simp only [h29, h31]
    rotate_left
    have a2 := ha 2 (by unfold tb; decide)
    have h29 := off 29 3 536870911 hD rfl (by unfold tb; decide)
    have h31 := off 31 3 2147483647 hD rfl (by unfold tb; decide)
    simp only [a2, h29, h31]
    rotate_left
    have a3 := ha 3 (by unfold tb; decide)
    have h29 := off 29 4 536870911 hD rfl (by unfold tb; decide)
    have h31 := off 31 4 2147483647 hD rfl (by unfold tb; decide)
    simp only [a3, h29, h31]
    rotate_left
    have h29 := off 29 5 536870911 hD rfl (by unfold tb; decide)
    have h31 := off 31 5 2147483647 hD rfl (by unfold tb; decide)
    simp only [h29, h31]
    rotate_left
    have a5 := ha 5 (by unfold tb; decide)
    have h29 := off 29 6 536870911 hD rfl (by unfold tb; decide)
    have h31 := off 31 6 2147483647 hD rfl (by unfold tb; decide)
    simp only [a5, h29, h31]
    rotate_left
    have a6 := ha 6 (by unfold tb; decide)
    have h29 := off 29 7 536870911 hD rfl (by unfold tb; decide)
    have h31 := off 31 7 2147483647 hD rfl (by unfold tb; decide)
    simp only [a6, h29, h31]
    rotate_left
    have a4 := ha 4 (by unfold tb; decide)
    have a7 := ha 7 (by unfold tb; decide)
    have h29 := off 29 8 536870911 hD rfl (by unfold tb; decide)
    have h31 := off 31 8 2147483647 hD rfl (by unfold tb; decide)
    simp only [a4, a7, h29, h31]
    rotate_left
    have a8 := ha 8 (by unfold tb; decide)
    have h29 := off 29 9 536870911 hD rfl (by unfold tb; decide)
    have h31 := off 31 9 2147483647 hD rfl (by unfold tb; decide)
    simp only [a8, h29, h31]
    simp (maxSteps := 400000) (disch := omega) only [push_cast, ↓reduceIte, reduceCtorEq, Nat.reduceAdd, Nat.reduceSub, Nat.reduceEqDiff, Nat.reduceLeDiff, Nat.reduceLT, Nat.reduceBEq, Nat.reduceDiv, Nat.reduceMod, Nat.reducePow, Nat.reduceMul, Int.reduceToNat, Int.reduceLT, Int.reduceLE, sl1_t, sl1_f, fW, fC, e1, e2, e3, em, hD]
    refine ⟨rfl, trivial, Int, 0, cI, [b.r % RA.length], rfl, by omega, fun x _ => ⟨rfl, rfl⟩, rfl, ?_⟩
    simp (maxSteps := 400000) (disch := omega) only [push_cast, ↓reduceIte, reduceCtorEq, Nat.reduceAdd, Nat.reduceSub, Nat.reduceEqDiff, Nat.reduceLeDiff, Nat.reduceLT, Nat.reduceBEq, Nat.reduceDiv, Nat.reduceMod, Nat.reducePow, Nat.reduceMul, Int.reduceToNat, Int.reduceLT, Int.reduceLE, sl1_t, sl1_f, fW, fC, e1, e2, e3, em, hD]
    refine le_two (le_frzR 125 [1, 4, 5, 9, 10, 11, 116, 117, 118, 119, 120, 121, 122, 123, 124, 126, 127, 128, 129, 130, 131, 132, 133, 134, 135, 136, 137, 138, 139, 140, 141, 142, 143, 144, 145, 146] [6, 5, 0, 2, 34] 91 90 0 3 1 0 cI [b.r % RA.length] rfl rfl rfl (nOK (by repeat (first | exact rfl | refine okc rfl ?_ | refine okc (oB rfl) ?_)) rfl rfl)) ?_
    first | exact le_stk kS46 90 (L false false) (by rfl) | exact ⟨by decide, le_stk kS46 90 (L false false) (by rfl)⟩ | exact ⟨by omega, le_stk kS46 90 (L false false) (by rfl)⟩
    have h29 := off 29 10 536870911 hD rfl (by unfold tb; decide)
    have h31 := off 31 10 2147483647 hD rfl (by unfold tb; decide)
    simp only [h29, h31]
    rotate_left
    have h29 := off 29 11 536870911 hD rfl (by unfold tb; decide)
    have h31 := off 31 11 2147483647 hD rfl (by unfold tb; decide)
    simp only [h29, h31]
    rotate_left
    have h29 := off 29 12 536870911 hD rfl (by unfold tb; decide)
    have h31 := off 31 12 2147483647 hD rfl (by unfold tb; decide)
    simp only [h29, h31]
    rotate_left
    have a12 := ha 12 (by unfold tb; decide)
    have h29 := off 29 13 536870911 hD rfl (by unfold tb; decide)
    have h31 := off 31 13 2147483647 hD rfl (by unfold tb; decide)
    simp only [a12, h29, h31]
    rotate_left
    have a13 := ha 13 (by unfold tb; decide)
    have h29 := off 29 14 536870911 hD rfl (by unfold tb; decide)
    have h31 := off 31 14 2147483647 hD rfl (by unfold tb; decide)
    simp only [a13, h29, h31]
    rotate_left
    have a14 := ha 14 (by unfold tb; decide)
    have h29 := off 29 15 536870911 hD rfl (by unfold tb; decide)
    have h31 := off 31 15 2147483647 hD rfl (by unfold tb; decide)
    simp only [a14, h29, h31]
    rotate_left
    have a11 := ha 11 (by unfold tb; decide)
    have a15 := ha 15 (by unfold tb; decide)
    have h29 := off 29 16 536870911 hD rfl (by unfold tb; decide)
    have h31 := off 31 16 2147483647 hD rfl (by unfold tb; decide)
    simp only [a11, a15, h29, h31]
    rotate_left
    have h29 := off 29 17 536870911 hD rfl (by unfold tb; decide)
    have h31 := off 31 17 2147483647 hD rfl (by unfold tb; decide)
    simp only [h29, h31]
    rotate_left
    have a17 := ha 17 (by unfold tb; decide)
    have h29 := off 29 18 536870911 hD rfl (by unfold tb; decide)
    have h31 := off 31 18 2147483647 hD rfl (by unfold tb; decide)
    simp only [a17, h29, h31]
    rotate_left
    have a18 := ha 18 (by unfold tb; decide)
    have h29 := off 29 19 536870911 hD rfl (by unfold tb; decide)
    have h31 := off 31 19 2147483647 hD rfl (by unfold tb; decide)
    simp only [a18, h29, h31]
    rotate_left
    have a19 := ha 19 (by unfold tb; decide)
    have h29 := off 29 20 536870911 hD rfl (by unfold tb; decide)
    have h31 := off 31 20 2147483647 hD rfl (by unfold tb; decide)
    simp only [a19, h29, h31]
    rotate_left
    have a16 := ha 16 (by unfold tb; decide)
    have a20 := ha 20 (by unfold tb; decide)
    have h29 := off 29 21 536870911 hD rfl (by unfold tb; decide)
    have h31 := off 31 21 2147483647 hD rfl (by unfold tb; decide)
    simp only [a16, a20, h29, h31]
    rotate_left
    have a21 := ha 21 (by unfold tb; decide)
    have h29 := off 29 22 536870911 hD rfl (by unfold tb; decide)
    have h31 := off 31 22 2147483647 hD rfl (by unfold tb; decide)
    simp only [a21, h29, h31]
    rotate_left
    have h29 := off 29 23 536870911 hD rfl (by unfold tb; decide)
    have h31 := off 31 23 2147483647 hD rfl (by unfold tb; decide)
    simp only [h29, h31]
    rotate_left
    have a23 := ha 23 (by unfold tb; decide)
    have h29 := off 29 24 536870911 hD rfl (by unfold tb; decide)
    have h31 := off 31 24 2147483647 hD rfl (by unfold tb; decide)
    simp only [a23, h29, h31]
    rotate_left
    have a24 := ha 24 (by unfold tb; decide)
    have h29 := off 29 25 536870911 hD rfl (by unfold tb; decide)
    have h31 := off 31 25 2147483647 hD rfl (by unfold tb; decide)
    simp only [a24, h29, h31]
    rotate_left
    have a25 := ha 25 (by unfold tb; decide)
    have h29 := off 29 26 536870911 hD rfl (by unfold tb; decide)
    have h31 := off 31 26 2147483647 hD rfl (by unfold tb; decide)
    simp only [a25, h29, h31]
    rotate_left
    have a9 := ha 9 (by unfold tb; decide)
    have a10 := ha 10 (by unfold tb; decide)
    have a22 := ha 22 (by unfold tb; decide)
    have a26 := ha 26 (by unfold tb; decide)
    have h29 := off 29 27 536870911 hD rfl (by unfold tb; decide)
    have h31 := off 31 27 2147483647 hD rfl (by unfold tb; decide)
    simp only [a9, a10, a22, a26, h29, h31]
    rotate_left
    have a27 := ha 27 (by unfold tb; decide)
    have h29 := off 29 28 536870911 hD rfl (by unfold tb; decide)
    have h31 := off 31 28 2147483647 hD rfl (by unfold tb; decide)
    simp only [a27, h29, h31]
    simp (maxSteps := 400000) (disch := omega) only [push_cast, ↓reduceIte, reduceCtorEq, Nat.reduceAdd, Nat.reduceSub, Nat.reduceEqDiff, Nat.reduceLeDiff, Nat.reduceLT, Nat.reduceBEq, Nat.reduceDiv, Nat.reduceMod, Nat.reducePow, Nat.reduceMul, Int.reduceToNat, Int.reduceLT, Int.reduceLE, sl1_t, sl1_f, fW, fC, e1, e2, e3, em, hD]
    refine ⟨rfl, trivial, Wrk, dW, cW, [wkF RA.length b], rfl, by omega, fun x _ => ⟨rfl, rfl⟩, rfl, ?_⟩
    simp (maxSteps := 400000) (disch := omega) only [push_cast, ↓reduceIte, reduceCtorEq, Nat.reduceAdd, Nat.reduceSub, Nat.reduceEqDiff, Nat.reduceLeDiff, Nat.reduceLT, Nat.reduceBEq, Nat.reduceDiv, Nat.reduceMod, Nat.reducePow, Nat.reduceMul, Int.reduceToNat, Int.reduceLT, Int.reduceLE, sl1_t, sl1_f, fW, fC, e1, e2, e3, em, hD]
    refine le_two (le_frzR 144 [1, 4, 5, 9, 10, 11, 116, 117, 118, 119, 120, 121, 122, 123, 124, 125, 126, 127, 128, 129, 130, 131, 132, 133, 134, 135, 136, 137, 138, 139, 140, 141, 142, 143, 145, 146] [6, 5, 0, 2, 34] 91 90 0 50 4 dW cW [wkF RA.length b] rfl rfl rfl (nOK (by repeat (first | exact rfl | refine okc rfl ?_ | refine okc (oB rfl) ?_)) rfl rfl)) ?_
    first | exact le_stk kS46 90 (L false false) (by rfl) | exact ⟨by decide, le_stk kS46 90 (L false false) (by rfl)⟩ | exact ⟨by omega, le_stk kS46 90 (L false false) (by rfl)⟩
    have a1 := ha 1 (by unfold tb; decide)
    have a28 := ha 28 (by unfold tb; decide)
    have h31 := off 31 29 2147483647 hD rfl (by unfold tb; decide)
    simp only [a1, a28, h31]
    simp (maxSteps := 400000) (disch := omega) only [push_cast, ↓reduceIte, reduceCtorEq, Nat.reduceAdd, Nat.reduceSub, Nat.reduceEqDiff, Nat.reduceLeDiff, Nat.reduceLT, Nat.reduceBEq, Nat.reduceDiv, Nat.reduceMod, Nat.reducePow, Nat.reduceMul, Int.reduceToNat, Int.reduceLT, Int.reduceLE, sl1_t, sl1_f, fW, fC, e1, e2, e3, em, hD]
    refine ⟨rfl, ⟨Nat.le_of_ble_eq_true rfl, rfl⟩, trivial, [wkF RA.length b], rfl, by first | omega | (simp; omega), by first | omega | (simp; omega), ?_⟩
    (refine sy1 ?_; try exact True.intro)
    exact le_stk kS46 90 (L true false) (by rfl)
    have a29 := ha 29 (by unfold tb; decide)
    have h31 := off 31 30 2147483647 hD rfl (by unfold tb; decide)
    simp only [a29, h31]
    rotate_left
    have a29 := ha 29 (by unfold tb; decide)
    have a30 := ha 30 (by unfold tb; decide)
    simp only [a29, a30]
    rotate_left
    all_goals simp (maxSteps := 400000) (disch := omega) only [push_cast, ↓reduceIte, reduceCtorEq, Nat.reduceAdd, Nat.reduceSub, Nat.reduceEqDiff, Nat.reduceLeDiff, Nat.reduceLT, Nat.reduceBEq, Nat.reduceDiv, Nat.reduceMod, Nat.reducePow, Nat.reduceMul, Int.reduceToNat, Int.reduceLT, Int.reduceLE, sl1_t, sl1_f, fW, fC, e1, e2, e3, em, hD]
    iterate 29 first | exact le_stk kS46 90 (L false false) (by rfl) | exact ⟨by decide, le_stk kS46 90 (L false false) (by rfl)⟩ | exact ⟨by omega, le_stk kS46 90 (L false false) (by rfl)⟩ | exact le_stk kS46 90 (L true false) (by rfl) | exact ⟨by decide, le_stk kS46 90 (L true false) (by rfl)⟩ | exact le_stk kS46 90 (L true true) (by rfl) | exact ⟨by decide, le_stk kS46 90 (L true true) (by rfl)⟩
  · have d29 := hD 29 (by decide)
    have d31 := hD 31 (by decide)
    refine ⟨_, le.refl _, ?_⟩
    unfold fS
    rw [d29, d31]
    exact hQ
end Go.Proofs.YtcfomfajpmlleaaGreat.R

namespace Go.Proofs.YtcfomfajpmlleaaGreat.R
open Go Sy
set_option maxRecDepth 100000
set_option maxHeartbeats 8000000
set_option linter.unusedVariables false
set_option linter.unusedSimpArgs false
theorem fn8 (l : List Tr) (fs : List Fx) (hl : l.length ≤ 140737488355328) (hf : fs.length ≤ 140737488355328) (h1 : ∀ t ∈ l, OTr t) (h2 : ∀ x ∈ fs, OFx x) : Sy.Fn Tryz.prog 8 [aTr l, aFx fs] (aM (atl l fs)) := by
  refine Fn_of_W mixed Xt8 rfl ?_
  (refine go0 ?_; try exact True.intro)
  refine W_le (le_adoptC 2 1 48 12 dR cR (by omega) _ rfl rfl (by simp)) ?_
  (refine sy1 ?_; try exact True.intro)
  refine W_le (le_adoptC 2 2 50 4 dW cW (by omega) _ rfl rfl (by simp)) ?_
  (refine sy1 ?_; try exact True.intro)
  refine W_loopU (fun i : Nat => [(6, iv i)]) (fun i => [(2, .cells [iv 5, .row 5 i, .row 6 0]), (5, .row i 48 12 dR cR ((l.take i).map rdT))]) (fun i => i ≤ 12 ∧ i ≤ l.length) (fun i => 12 - i) 0 ⟨by omega, by omega⟩ (by rfl) (by rfl) (fun i hi => ?_)
  obtain ⟨h12, hi⟩ := hi
  (refine sy1 ?_; try exact True.intro)
  (refine go0 ?_; try exact True.intro)
  refine W_cond (by rfl) (fun h5 => ?_) (fun h5 => ?_)
  · rw [Bool.and_eq_true, decide_eq_true_eq, decide_eq_true_eq] at h5
    have hlt : i < l.length := by omega
    have hb := h1 _ (getD_mem' dTr l i hlt)
    have ht : l.take (i + 1) = l.take i ++ [l.getD i dTr] := by
      rw [List.take_succ_eq_append_getElem hlt]
      simp [List.getD, hlt]
    generalize hq : l.getD i dTr = b at *
    obtain ⟨b1, b2, b3, b4, b5, b6, b7, b8⟩ := hb
    have e1 : b.f.tmod 5 = b.f % 5 := Int.tmod_eq_emod_of_nonneg b1.1
    have e2 : b.t.tmod 4 = b.t % 4 := Int.tmod_eq_emod_of_nonneg b2.1
    have e3 : b.c.tmod 50 = b.c % 50 := Int.tmod_eq_emod_of_nonneg b3.1
    have e4 : (b.f % 5 + 1 + b.t % 4).tmod 5 = (b.f % 5 + 1 + b.t % 4) % 5 := Int.tmod_eq_emod_of_nonneg (by omega)
    (refine gof (ad5 hq e1 e2 e3 e4) ?_; try exact True.intro)
    refine ⟨rfl, trivial, Rd, dR, cR, [rdT b], rfl, by omega, fun x _ => ⟨rfl, rfl⟩, rfl, ?_⟩
    (refine sy1 ?_; try exact True.intro)
    refine ⟨rfl, ⟨Nat.le_of_ble_eq_true rfl, rfl⟩, trivial, [rdT b], rfl, by first | omega | (simp; omega), by first | omega | (simp; omega), ?_⟩
    (refine sy1 ?_; try exact True.intro)
    (refine go0 ?_; try exact True.intro)
    refine ⟨i + 1, ⟨by omega, by omega⟩, by omega, by rfl, ?_⟩
    rw [ht, List.map_append]
    (refine syE ?_; try exact True.intro)
  · rw [Bool.and_eq_false_iff, decide_eq_false_iff_not, decide_eq_false_iff_not] at h5
    have e : (l.take i).map rdT = rdA l := by
      unfold rdA
      rcases (show i = 12 ∨ i = l.length by omega) with rfl | rfl
      · rfl
      · rw [List.take_length, List.take_of_length_le (by omega)]
    have en : (rdA l).length = i := by rw [← e]; simp; omega
    rw [e, ← en]
    have hR : (rdA l).length ≤ 12 := by omega
    have eA : aM (atl l fs) = .agg [iv 5, aR (rdA l), aW (wkA (rdA l).length fs)] := rfl
    rw [eA]
    clear eA
    generalize rdA l = RA at *
    (refine go0 ?_; try exact True.intro)
    refine W_loopU (fun i : Nat => [(9, iv i)]) (fun i => [(2, .cells [iv 5, .row 5 RA.length, .row 6 i]), (6, .row i 50 4 dW cW ((fs.take i).map (wkF RA.length)))]) (fun i => i ≤ 4 ∧ i ≤ fs.length ∧ (RA.length = 0 → i = 0)) (fun i => 4 - i) 0 ⟨by omega, by omega, fun _ => rfl⟩ (by rfl) (by rfl) (fun i hi => ?_)
    obtain ⟨h4, hi, hn0⟩ := hi
    (refine sy1 ?_; try exact True.intro)
    (refine go0 ?_; try exact True.intro)
    refine W_cond (by rfl) (fun h5 => ?_) (fun h5 => ?_)
    · rw [Bool.and_eq_true, Bool.and_eq_true, decide_eq_true_eq, decide_eq_true_eq, decide_eq_true_eq] at h5
      have hlt : i < fs.length := by omega
      have hb := h2 _ (getD_mem' dFx fs i hlt)
      have ht : fs.take (i + 1) = fs.take i ++ [fs.getD i dFx] := by
        rw [List.take_succ_eq_append_getElem hlt]
        simp [List.getD, hlt]
      generalize hq : fs.getD i dFx = b at *
      obtain ⟨b1, b2, b3, b4⟩ := hb
      have e1 : b.k.tmod 3 = b.k % 3 := Int.tmod_eq_emod_of_nonneg b2.1
      (refine gof (ad2 hq e1) ?_; try exact True.intro)
      have ek := nth_kd b2.1
      simp only [ek]
      refine ⟨trivial, ?_⟩
      have hwl : ((fs.take i).map (wkF RA.length)).length = i := by simp; omega
      refine t46 fs RA _ i b ⟨b1, b2, b3, b4⟩ ⟨by omega, hR⟩ hwl (by omega) ?_
      unfold fM fW fC
      (refine sy1 ?_; try exact True.intro)
      (refine go0 ?_; try exact True.intro)
      refine ⟨i + 1, ⟨by omega, by omega, fun z => by omega⟩, by omega, by rfl, ?_⟩
      rw [ht, List.map_append]
      (refine syE ?_; try exact True.intro)
    · rw [Bool.and_eq_false_iff, Bool.and_eq_false_iff, decide_eq_false_iff_not, decide_eq_false_iff_not, decide_eq_false_iff_not] at h5
      have e2 : (fs.take i).map (wkF RA.length) = wkA RA.length fs := by
        unfold wkA
        by_cases q : RA.length = 0
        · rw [if_pos q, hn0 q]; rfl
        · rw [if_neg q]
          rcases (show i = 4 ∨ i = fs.length by omega) with rfl | rfl
          · rfl
          · rw [List.take_length, List.take_of_length_le (by omega)]
      rw [e2]
      (refine go0 ?_; try exact True.intro)
      refine W_ret ⟨[_], ⟨⟨by simp, rfl⟩, rfl⟩, ?_⟩
      (refine syP ?_; try exact True.intro)
end Go.Proofs.YtcfomfajpmlleaaGreat.R

