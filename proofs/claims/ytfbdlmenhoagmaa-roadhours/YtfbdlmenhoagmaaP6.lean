/- RoadHours: for every input the law returns true; each argument reads behind the call as it read before. -/
import Derived.Test.YtfbdlmenhoagmaaP5
import Derived.Test.YtfbdlmenhoagmaaChecked
import Derived.WalkKit
import Derived.Deep.RegionLaw
import Derived.Lib.Walk
import Derived.Lib.SliceRun
import Derived.OwnWalk
import Derived.Test.YtfbdlmenhoagmaaRows
import Derived.ShutString
namespace Go.Proofs.Ytfbdlmenhoagmaa
open Go Sy
set_option linter.unusedVariables false
section
variable {es : List TEd} {n : Nat}
theorem TW.pre {s : Nat} {t0 : Int} {e : TEd} (he : e ∈ es) (hx : e.x = s) {y : Nat} {d : Int} (h : TW es e.y (e.g t0) y d) : TW es s t0 y d := by
  induction h with
  | nil => rw [← hx]; exact .snoc .nil he
  | snoc _ h2 ih => exact .snoc ih h2
theorem TW.first {s : Nat} {t0 : Int} {y : Nat} {d : Int} (h : TW es s t0 y d) : (y = s ∧ d = t0) ∨ ∃ e ∈ es, e.x = s ∧ TW es e.y (e.g t0) y d := by
  induction h with
  | nil => exact .inl ⟨rfl, rfl⟩
  | snoc h1 h2 ih =>
    rename_i e d' 
    rcases ih with ⟨q1, q2⟩ | ⟨e1, q1, q2, q3⟩
    · rw [q2]
      exact .inr ⟨_, h2, q1, .nil⟩
    · exact .inr ⟨e1, q1, q2, .snoc q3 h2⟩
theorem TW.nob (he : ∀ e ∈ es, TOk n e) {s : Nat} {t0 : Int} (h0 : 0 ≤ t0) {fs : List TEd} (hf : ∀ e ∈ es, e.y ≠ s → e ∈ fs) {y : Nat} {d : Int} (h : TW es s t0 y d) : ∃ d', d' ≤ d ∧ 0 ≤ d' ∧ TW fs s t0 y d' := by
  induction h with
  | nil => exact ⟨t0, Int.le_refl _, h0, .nil⟩
  | snoc h1 h2 ih =>
    rename_i e d1 
    have ok := he _ h2
    have hge := Int.le_trans h0 (h1.ge he h0)
    by_cases q : e.y = s
    · rw [q]
      exact ⟨t0, Int.le_trans (h1.ge he h0) (by have := ok.gt _ hge; omega), h0, .nil⟩
    · obtain ⟨d', g1, g2, g3⟩ := ih
      exact ⟨e.g d', ok.up _ _ g2 g1, by have := ok.gt _ g2; omega, .snoc g3 (hf _ h2 q)⟩
theorem TW.more {fs : List TEd} (h : ∀ e ∈ fs, e ∈ es) {s : Nat} {t0 : Int} {y : Nat} {d : Int} (hw : TW fs s t0 y d) : TW es s t0 y d := by
  induction hw with
  | nil => exact .nil
  | snoc _ h2 ih => exact .snoc ih (h _ h2)
end
def noP : Int → Bool := fun _ => false
theorem labT_congr {m : Mp} {f : Nat → Int} {s : List Int} {sk sk' : Int → Bool} (h : ∀ i, i < m.rs.length → sk (gr m i).t = sk' (gr m i).t) (fr t : Int) : labT m f s sk fr t = labT m f s sk' fr t := by
  unfold labT
  congr 1
  unfold tes
  congr 1
  refine List.filter_congr fun i hi => ?_
  unfold goB
  rw [h i (List.mem_range.1 hi)]
theorem labT_back {m : Mp} (h : OkM m) {f : Nat → Int} {s : List Int} {sk sk' : Int → Bool} {a t : Int} (ha : 0 ≤ a ∧ a < m.n) (ht : 0 ≤ t) (hs : ∀ x, sk' x = (sk x || x == a)) : labT m f s sk' a t = labT m f s sk a t := by
  obtain ⟨h1, h2⟩ := labT_ok h f s sk ha ht
  obtain ⟨h3, h4⟩ := labT_ok h f s sk' ha ht
  have o1 := tes_ok h (goB m f s sk)
  have o2 := tes_ok h (goB m f s sk')
  have hsub : ∀ e ∈ tes m (goB m f s sk') m.rs.length, e ∈ tes m (goB m f s sk) m.rs.length := fun e he => by
    obtain ⟨i, hi, hp, rfl⟩ := tes_mem.1 he
    refine tes_mem.2 ⟨i, hi, ?_, rfl⟩
    unfold goB at hp ⊢
    rw [hs] at hp
    simp only [Bool.and_eq_true, Bool.not_eq_true', Bool.or_eq_false_iff] at hp ⊢
    exact ⟨hp.1, hp.2.1⟩
  have hsup : ∀ e ∈ tes m (goB m f s sk) m.rs.length, e.y ≠ a.toNat → e ∈ tes m (goB m f s sk') m.rs.length := fun e he hy => by
    obtain ⟨i, hi, hp, rfl⟩ := tes_mem.1 he
    refine tes_mem.2 ⟨i, hi, ?_, rfl⟩
    have hy : (gr m i).t.toNat ≠ a.toNat := hy
    unfold goB at hp ⊢
    rw [hs, show ((gr m i).t == a) = false by rw [beq_eq_false_iff_ne]; intro z; exact hy (by rw [z])]
    simpa using hp
  apply List.ext_getElem (by rw [h3.len, h1.len])
  intro i g1 g2
  have hi : i < m.n.toNat := by rw [h1.len] at g2; exact g2
  have e1 : gi (labT m f s sk' a t) i = (labT m f s sk' a t)[i] := by simp [gi, List.getD, g1]
  have e2 : gi (labT m f s sk a t) i = (labT m f s sk a t)[i] := by simp [gi, List.getD, g2]
  rw [← e1, ← e2]
  rcases h1.nn o1 ht hi with q | ⟨q, q2⟩ <;> rcases h3.nn o2 ht hi with r | ⟨r, r2⟩
  · omega
  · have := tfix_le o1 ht h1 h2 (r2.more hsub); omega
  · obtain ⟨d', z1, z2, z3⟩ := q2.nob o1 ht hsup
    have := tfix_le o2 ht h3 h4 z3; omega
  · have := tfix_le o1 ht h1 h2 (r2.more hsub)
    obtain ⟨d', z1, z2, z3⟩ := q2.nob o1 ht hsup
    have := tfix_le o2 ht h3 h4 z3
    omega
theorem labT_next {m : Mp} (h : OkM m) {f : Nat → Int} {s : List Int} {sk : Int → Bool} {a to t : Int} (ha : 0 ≤ a ∧ a < m.n) (hto : 0 ≤ to ∧ to < m.n) (ht : 0 ≤ t) (hne : a ≠ to) (hd : 0 ≤ gi (labT m f s sk a t) to.toNat) :
    ∃ i, i < m.rs.length ∧ (gr m i).f = a ∧ goB m f s sk i = true ∧ gi (labT m f s sk (gr m i).t (lvT (gr m i) t)) to.toNat = gi (labT m f s sk a t) to.toNat := by
  obtain ⟨h1, h2⟩ := labT_ok h f s sk ha ht
  have o1 := tes_ok h (goB m f s sk)
  rcases h1.ach to.toNat (by omega) with q | q
  · omega
  rcases q.first with ⟨q1, _⟩ | ⟨e, he, q1, q2⟩
  · omega
  · obtain ⟨i, hi, hp, rfl⟩ := tes_mem.1 he
    have ok := roadB_ok (h.r i hi)
    have hf := ok.f; have htt := ok.t
    have hlv := lvT_rng ok t ht
    have q1 : (gr m i).f.toNat = a.toNat := q1
    have q2 : TW (tes m (goB m f s sk) m.rs.length) (gr m i).t.toNat (lvT (gr m i) t) to.toNat (gi (labT m f s sk a t) to.toNat) := q2
    obtain ⟨h3, h4⟩ := labT_ok h f s sk htt (t := lvT (gr m i) t) (by omega)
    have g1 := tfix_le o1 (by omega) h3 h4 q2
    refine ⟨i, hi, by omega, hp, ?_⟩
    rcases h3.ach to.toNat (by omega) with r | r
    · omega
    · have r2 : TW (tes m (goB m f s sk) m.rs.length) a.toNat t to.toNat _ := TW.pre (e := tEd m i) he q1 r
      have g2 := tfix_le o1 ht h1 h2 r2
      omega
def inS (S : List Int) (x : Int) : Bool := decide (x ∈ S)
def soH (m : Mp) (f : Nat → Int) (s : List Int) (to e : Int) (S : List Int) (a t : Int) (i : Nat) : Bool := (gr m i).f == a && !inS S (gr m i).t && usB m f s i && gi (labT m f s (inS S) (gr m i).t (lvT (gr m i) t)) to.toNat == e
def soI (m : Mp) (f : Nat → Int) (s : List Int) (to e : Int) (S : List Int) (a t : Int) : Nat := fstN (soH m f s to e S a t) m.rs.length 0
def soW (m : Mp) (f : Nat → Int) (s : List Int) (to e : Int) : Nat → List Int → Int → Int → List Int
  | 0, _, _, _ => []
  | k + 1, S, a, t => if a = to then [] else (soI m f s to e S a t : Int) :: soW m f s to e k (S ++ [(gr m (soI m f s to e S a t)).t]) (gr m (soI m f s to e S a t)).t (lvT (gr m (soI m f s to e S a t)) t)
def unS (n : Nat) (S : List Int) : Nat := (List.range n).countP fun y : Nat => !inS S y
theorem unS_lt {n : Nat} {S : List Int} {x : Int} (hx : 0 ≤ x ∧ x < n) (h : inS S x = false) : unS n (S ++ [x]) < unS n S :=
  countP_lt (fun z hz q => by
    unfold inS at q ⊢
    simp only [Bool.not_eq_true', decide_eq_false_iff_not, List.mem_append, not_or] at q ⊢
    exact q.1) ⟨x.toNat, List.mem_range.2 (by omega), by rw [show ((x.toNat : Nat) : Int) = x by omega, h]; rfl, by
      unfold inS
      rw [show ((x.toNat : Nat) : Int) = x by omega, decide_eq_true (by simp)]; rfl⟩
structure SoI (m : Mp) (f : Nat → Int) (s : List Int) (to e t0 : Int) (S : List Int) (a t : Int) : Prop where
  ra : 0 ≤ a ∧ a < m.n
  rt : 0 ≤ t ∧ t + 4320 * unS m.n.toNat S ≤ t0 + 4320 * m.n
  ri : inS S a = true
  re : gi (labT m f s (inS S) a t) to.toNat = e
theorem so_next {m : Mp} (h : OkM m) {f : Nat → Int} {s : List Int} {to e t0 : Int} {S : List Int} {a t : Int} (hto : 0 ≤ to ∧ to < m.n) (he : 0 ≤ e) (hI : SoI m f s to e t0 S a t) (hne : a ≠ to) :
    soI m f s to e S a t < m.rs.length ∧ soH m f s to e S a t (soI m f s to e S a t) = true ∧ (∀ j, j < soI m f s to e S a t → soH m f s to e S a t j = false) ∧
    unS m.n.toNat (S ++ [(gr m (soI m f s to e S a t)).t]) < unS m.n.toNat S ∧ SoI m f s to e t0 (S ++ [(gr m (soI m f s to e S a t)).t]) (gr m (soI m f s to e S a t)).t (lvT (gr m (soI m f s to e S a t)) t) := by
  obtain ⟨i, hi, h1, h2, h3⟩ := labT_next h hI.ra hto hI.rt.1 hne (by rw [hI.re]; exact he)
  have hh : soH m f s to e S a t i = true := by
    unfold soH
    unfold goB at h2
    rw [Bool.and_eq_true] at h2
    rw [h1, h3, hI.re, h2.1, h2.2]; simp
  obtain ⟨d, d1, d2, d3, d4⟩ := fst_ex (p := soH m f s to e S a t) m.rs.length 0 i (by omega) (by omega) hh
  have ed : soI m f s to e S a t = d := fst_eq m.rs.length 0 d (by omega) (by omega) d3 d4
  rw [ed]
  have hd3 := d3
  unfold soH at hd3
  simp only [Bool.and_eq_true, beq_iff_eq, Bool.not_eq_true'] at hd3
  obtain ⟨⟨⟨g1, g2⟩, g3⟩, g4⟩ := hd3
  have ok := roadB_ok (h.r d (by omega))
  have htt := ok.t
  have hlv := lvT_rng ok t hI.rt.1
  have hun := unS_lt (n := m.n.toNat) (S := S) (x := (gr m d).t) (by omega) g2
  have h5 := hI.rt
  refine ⟨by omega, d3, fun j hj => d4 j (by omega) hj, hun, ⟨htt, by omega, by unfold inS; exact decide_eq_true (by simp), ?_⟩⟩
  rw [labT_back h (sk := inS S) htt (by omega) (fun x => by
    unfold inS
    by_cases c : x = (gr m d).t
    · rw [decide_eq_true (by simp [c]), c]; simp
    · have : (x ∈ S ++ [(gr m d).t]) ↔ x ∈ S := (fun (y : Int) (hy : ¬ x = y) => (by simp [hy] : x ∈ S ++ [y] ↔ x ∈ S)) _ c
      rw [show (x == (gr m d).t) = false by rw [beq_eq_false_iff_ne]; exact c, Bool.or_false]
      simp only [this])]
  exact g4
theorem so_first {m : Mp} (h : OkM m) {f : Nat → Int} {s : List Int} {fr to t : Int} (hf : 0 ≤ fr ∧ fr < m.n) (ht : 0 ≤ t) : SoI m f s to (gi (labT m f s noP fr t) to.toNat) t [fr] fr t := by
  refine ⟨hf, ?_, by unfold inS; exact decide_eq_true (by simp), ?_⟩
  · have : unS m.n.toNat [fr] ≤ m.n.toNat := by
      have := List.countP_le_length (p := fun y : Nat => !inS [fr] y) (l := List.range m.n.toNat)
      rwa [List.length_range] at this
    omega
  · rw [labT_back h (sk := noP) hf ht (fun x => by unfold inS noP; by_cases c : x = fr <;> simp [c])]
end Go.Proofs.Ytfbdlmenhoagmaa

namespace Go.Proofs.Ytfbdlmenhoagmaa
open Go Sy
set_option maxRecDepth 100000
set_option maxHeartbeats 4000000
set_option linter.unusedVariables false
set_option linter.unusedSimpArgs false
def lbV (m : Mp) (f : Nat → Int) (s : List Int) (fr t : Int) : List Int := if dpE m f s fr fr t = 0 then labT m f s noP fr t else []
def lgB (x : Int) : Bool := inR x (-1) 2199023255552
def lrB (m : Mp) (f : Nat → Int) (s : List Int) (l : List Int) (i : Nat) : Bool := decide (gi l (gr m i).f.toNat < 0) || !usB m f s i || !(decide (gi l (gr m i).t.toNat < 0) || decide (lvT (gr m i) (gi l (gr m i).f.toNat) < gi l (gr m i).t.toNat))
def clE (m : Mp) (f : Nat → Int) (s : List Int) (fr t : Int) (l : List Int) : Int :=
  if dpE m f s fr fr t = 0 then (if (l.length : Int) = m.n then (if l.all lgB = true then (if inR (gi l fr.toNat) 0 t = true then (if (List.range m.rs.length).all (lrB m f s l) = true then 0 else 16) else 16) else 3) else 17) else dpE m f s fr fr t
theorem all_lg {l : List Int} (h : l.all lgB = true) (i : Nat) : -1 ≤ gi l i ∧ gi l i ≤ 2199023255552 := by
  rcases Nat.lt_or_ge i l.length with q | q
  · rw [List.all_eq_true] at h
    exact inR_iff.1 (h _ (getD_mem 0 l i q))
  · have : gi l i = 0 := by simp [gi, List.getD, q]
    omega
theorem fn112 (x : Int) : Sy.Fn Try.prog 112 [iv x] (bv (!lgB x)) := by
  refine Fn_of_W mixed Xt112 rfl ?_
  have c85 := fn85 x (-1) 2199023255552
  have hlg : lgB x = inR x (-1) 2199023255552 := rfl
  rw [hlg]
  repeat' (first | refine w1g ?_ | refine w1l ?_ | refine w1q ?_ | refine w1b ?_ | refine w1p ?_ | ((first | refine w1r ?_ | refine w1k ?_ | refine w1e ?_ | refine CallC.now (c85) ?_); (refine sy1 ?_; try exact True.intro)) | refine an2 ?_ | fail)
  exact W_ret ⟨[_], ⟨rfl, rfl⟩, rfl⟩
theorem fn49 (m : Mp) (f : Nat → Int) (s : List Int) (fr t : Int) (l : List Int) (hm : Gm m) (hl : s.length ≤ 1000000) (hll : l.length ≤ 1000000) : Sy.Fn Try.prog 49 [aM m, .agg (c6 f), aI s, iv fr, iv t, aI l] (iv (clE m f s fr t l)) := by
  refine Fn_of_W mixed Xt49 rfl ?_
  have c108 := fn108 m f s fr fr t hm hl
  have hv : opV m f = cAt m f ∨ opV m f = zAt := by
    unfold opV
    split
    · exact .inl rfl
    · exact .inr rfl
  by_cases h0 : dpE m f s fr fr t = 0
  rotate_left
  · have e1 : clE m f s fr t l = dpE m f s fr fr t := by unfold clE; rw [if_neg h0]
    rw [e1]
    generalize dpE m f s fr fr t = e at *
    rcases hv with hv | hv
    all_goals
      rw [hv] at c108
      try unfold zAt at c108
      repeat' (first | refine w1g ?_ | refine w1l ?_ | refine w1q ?_ | refine w1b ?_ | refine w1p ?_ | ((first | refine w1r ?_ | refine w1k ?_ | refine w1e ?_ | refine CallC.now (c108) ?_); (refine sy1 ?_; try exact True.intro)) | refine an2 ?_ | fail)
      refine W_cond (by rfl) (fun h => ?_) (fun h => absurd (by simpa using h) h0)
      repeat' (first | refine w1g ?_ | refine w1l ?_ | refine w1q ?_ | refine w1b ?_ | refine w1p ?_ | ((first | refine w1r ?_ | refine w1k ?_ | refine w1e ?_); (refine sy1 ?_; try exact True.intro)) | refine an2 ?_ | fail)
      exact W_ret ⟨[_], ⟨rfl, rfl⟩, rfl⟩
  have D := dep_of h0
  have hok := chkM_ok D.hc
  have hn := hok.n
  have hnr := hok.nr
  have hfr := D.hf
  have hta := D.ha
  have hvo : opV m f = cAt m f := by unfold opV; rw [if_pos D.hc]
  rw [h0, hvo] at c108
  have E1 : clE m f s fr t l = if (l.length : Int) = m.n then (if l.all lgB = true then (if inR (gi l fr.toNat) 0 t = true then (if (List.range m.rs.length).all (lrB m f s l) = true then 0 else 16) else 16) else 3) else 17 := by unfold clE; rw [if_pos h0]
  repeat' (first | refine w1g ?_ | refine w1l ?_ | refine w1q ?_ | refine w1b ?_ | refine w1p ?_ | ((first | refine w1r ?_ | refine w1k ?_ | refine w1e ?_ | refine CallC.now (c108) ?_); (refine sy1 ?_; try exact True.intro)) | refine an2 ?_ | fail)
  refine W_cond (by rfl) (fun h => by cases h) (fun _ => ?_)
  repeat' (first | refine w1g ?_ | refine w1l ?_ | refine w1q ?_ | refine w1b ?_ | refine w1p ?_ | ((first | refine w1r ?_ | refine w1k ?_ | refine w1e ?_); (refine sy1 ?_; try exact True.intro)) | refine an2 ?_ | fail)
  refine W_cond (by rfl) (fun hz => ?_) (fun hz => ?_)
  · rw [bne_iff_ne] at hz
    rw [if_neg hz] at E1
    rw [E1]
    repeat' (first | refine w1g ?_ | refine w1l ?_ | refine w1q ?_ | refine w1b ?_ | refine w1p ?_ | ((first | refine w1r ?_ | refine w1k ?_ | refine w1e ?_); (refine sy1 ?_; try exact True.intro)) | refine an2 ?_ | fail)
    exact W_ret ⟨[_], ⟨rfl, rfl⟩, rfl⟩
  rw [bne_eq_false_iff_eq] at hz
  rw [if_pos hz] at E1
  have c88 := fn88 l hll 112 [] [] (fun x => !lgB x) (fun x _ => fn112 x)
  have hall : l.all lgB = !(l.any fun x => !lgB x) := by
    rw [List.all_eq_not_any_not]
  generalize l.any (fun x => !lgB x) = A at *
  repeat' (first | refine w1g ?_ | refine w1l ?_ | refine w1q ?_ | refine w1b ?_ | refine w1p ?_ | ((first | refine w1r ?_ | refine w1k ?_ | refine w1e ?_ | refine CallC.now (c88) ?_); (refine sy1 ?_; try exact True.intro)) | refine an2 ?_ | fail)
  refine W_cond (by rfl) (fun hb => ?_) (fun hb => ?_)
  · rw [hall, hb, if_neg (by simp)] at E1
    rw [E1]
    repeat' (first | refine w1g ?_ | refine w1l ?_ | refine w1q ?_ | refine w1b ?_ | refine w1p ?_ | ((first | refine w1r ?_ | refine w1k ?_ | refine w1e ?_); (refine sy1 ?_; try exact True.intro)) | refine an2 ?_ | fail)
    exact W_ret ⟨[_], ⟨rfl, rfl⟩, rfl⟩
  have hall2 : l.all lgB = true := by rw [hall, hb]; rfl
  rw [if_pos hall2] at E1
  have hrg := all_lg hall2
  clear hall
  have gI : ∀ (l : List Int) i, l.getD i 0 = gi l i := fun _ _ => rfl
  have c85 := fn85 (gi l fr.toNat) 0 t
  repeat' (first | refine w1g ?_ | refine w1l ?_ | refine w1q ?_ | refine w1b ?_ | refine w1p ?_ | ((first | refine w1r ?_ | refine w1k ?_ | refine w1e ?_ | refine CallC.now (c85) ?_); simp (maxSteps := 400000) (disch := omega) only [push_cast, ↓reduceIte, reduceCtorEq, Nat.reduceAdd, Nat.reduceSub, Nat.reduceEqDiff, Nat.reduceLeDiff, Nat.reduceLT, Nat.reduceBEq, Nat.reduceDiv, Nat.reduceMod, Nat.reducePow, Nat.reduceMul, Int.reduceToNat, Int.reduceLT, Int.reduceLE, gI]) | refine an2 ?_ | fail)
  refine W_cond (by rfl) (fun hb => ?_) (fun hb => ?_)
  · have hb : inR (gi l fr.toNat) 0 t = false := by simpa using hb
    rw [hb, if_neg (by simp)] at E1
    rw [E1]
    repeat' (first | refine w1g ?_ | refine w1l ?_ | refine w1q ?_ | refine w1b ?_ | refine w1p ?_ | ((first | refine w1r ?_ | refine w1k ?_ | refine w1e ?_); (refine sy1 ?_; try exact True.intro)) | refine an2 ?_ | fail)
    exact W_ret ⟨[_], ⟨rfl, rfl⟩, rfl⟩
  have hb : inR (gi l fr.toNat) 0 t = true := by simpa using hb
  rw [if_pos hb] at E1
  have c76 := fn76 s m.ws.length hok.nw D.hs
  repeat' (first | refine w1g ?_ | refine w1l ?_ | refine w1q ?_ | refine w1b ?_ | refine w1p ?_ | ((first | refine w1r ?_ | refine w1k ?_ | refine w1e ?_); (refine sy1 ?_; try exact True.intro)) | refine an2 ?_ | fail)
  refine W_loopU (fun i : Nat => [(48, iv i)]) (fun i => []) (fun i => i ≤ m.rs.length ∧ ∀ j, j < i → lrB m f s l j = true) (fun i => m.rs.length - i) 0 ⟨by omega, fun j hj => by omega⟩ (by rfl) (by rfl) (fun i hi => ?_)
  obtain ⟨hi, hall⟩ := hi
  (refine sy1 ?_; try exact True.intro)
  repeat' (first | refine w1g ?_ | refine w1l ?_ | refine w1q ?_ | refine w1b ?_ | refine w1p ?_ | ((first | refine w1r ?_ | refine w1k ?_ | refine w1e ?_); (refine sy1 ?_; try exact True.intro)) | refine an2 ?_ | fail)
  refine W_condD (by rfl) (fun h5 => ?_) (fun h5 => ?_)
  rotate_left
  · have : (List.range m.rs.length).all (lrB m f s l) = true := by
      rw [List.all_eq_true]
      intro j hj
      exact hall j (by have := List.mem_range.1 hj; omega)
    rw [if_pos this] at E1
    rw [E1]
    repeat' (first | refine w1g ?_ | refine w1l ?_ | refine w1q ?_ | refine w1b ?_ | refine w1p ?_ | ((first | refine w1r ?_ | refine w1k ?_ | refine w1e ?_); (refine sy1 ?_; try exact True.intro)) | refine an2 ?_ | fail)
    exact W_ret ⟨[_], ⟨rfl, rfl⟩, rfl⟩
  have hlt : i < m.rs.length := by omega
  have ok := roadB_ok (hok.r i hlt)
  have ofr := ok.f; have otr := ok.t
  have hgr : m.rs.getD i dR = gr m i := rfl
  have hlr : lrB m f s l i = (decide (gi l (gr m i).f.toNat < 0) || !usB m f s i || !(decide (gi l (gr m i).t.toNat < 0) || decide (lvT (gr m i) (gi l (gr m i).f.toNat) < gi l (gr m i).t.toNat))) := rfl
  have c64 := fn64 m f s (msk s) i hok (setW_msk D.hs) hlt
  have r1 := hrg (gr m i).f.toNat
  have no : lrB m f s l i = false → clE m f s fr t l = 16 := fun q => by
    have : ¬ (List.range m.rs.length).all (lrB m f s l) = true := by
      rw [List.all_eq_true]
      intro z
      rw [z i (List.mem_range.2 hlt)] at q
      cases q
    rw [E1, if_neg this]
  obtain ⟨B, hBe⟩ : ∃ B, B = lrB m f s l i := ⟨_, rfl⟩
  rw [← hBe] at hlr no
  generalize msk s = ME at *
  generalize usB m f s i = U at *
  have c93 : 0 ≤ gi l (gr m i).f.toNat → Sy.Fn Try.prog 93 [.agg (cR (gr m i)), iv (gi l (gr m i).f.toNat)] (iv (lvT (gr m i) (gi l (gr m i).f.toNat))) := fun q => fn93 m.n (gr m i) _ ok (by omega)
  generalize hX : gi l (gr m i).f.toNat = X at *
  generalize hY : gi l (gr m i).t.toNat = Y at *
  have hX2 : l.getD (gr m i).f.toNat 0 = X := hX
  have hY2 : l.getD (gr m i).t.toNat 0 = Y := hY
  repeat' (first | refine w1g ?_ | refine w1l ?_ | refine w1q ?_ | refine w1b ?_ | refine w1p ?_ | ((first | refine w1r ?_ | refine w1k ?_ | refine w1e ?_ | refine CallC.go _ (fun _ => ⟨trivial, c76⟩) rfl ?_ | refine CallC.go _ (fun _ => ⟨trivial, c64⟩) rfl ?_); simp (maxSteps := 400000) (disch := omega) only [push_cast, ↓reduceIte, reduceCtorEq, Nat.reduceAdd, Nat.reduceSub, Nat.reduceEqDiff, Nat.reduceLeDiff, Nat.reduceLT, Nat.reduceBEq, Nat.reduceDiv, Nat.reduceMod, Nat.reducePow, Nat.reduceMul, Int.reduceToNat, Int.reduceLT, Int.reduceLE, hgr, hX2]) | refine an2 ?_ | fail)
  refine W_cond (by rfl) (fun hb => ?_) (fun hb => ?_)
  · have hB : B = true := by rw [hlr, hb]; rfl
    repeat' (first | refine w1g ?_ | refine w1l ?_ | refine w1q ?_ | refine w1b ?_ | refine w1p ?_ | ((first | refine w1r ?_ | refine w1k ?_ | refine w1e ?_); (refine sy1 ?_; try exact True.intro)) | refine an2 ?_ | fail)
    refine ⟨i + 1, ⟨by omega, fun j hj => ?_⟩, by omega, by rfl, ?_⟩
    · rcases Nat.lt_or_ge j i with q | q
      · exact hall j q
      · rw [show j = i by omega, ← hBe, hB]
    · (refine syE ?_; try exact True.intro)
  · have hb2 := hb
    simp only [Bool.or_eq_false_iff, decide_eq_false_iff_not, Bool.not_eq_false'] at hb2
    have c93 := c93 (by omega)
    generalize lvT (gr m i) X = V at *
    repeat' (first | refine w1g ?_ | refine w1l ?_ | refine w1q ?_ | refine w1b ?_ | refine w1p ?_ | ((first | refine w1r ?_ | refine w1k ?_ | refine w1e ?_ | refine CallC.go _ (fun _ => ⟨trivial, c93⟩) rfl ?_); simp (maxSteps := 400000) (disch := omega) only [push_cast, ↓reduceIte, reduceCtorEq, Nat.reduceAdd, Nat.reduceSub, Nat.reduceEqDiff, Nat.reduceLeDiff, Nat.reduceLT, Nat.reduceBEq, Nat.reduceDiv, Nat.reduceMod, Nat.reducePow, Nat.reduceMul, Int.reduceToNat, Int.reduceLT, Int.reduceLE, hgr, hX2, hY2]) | refine an2 ?_ | fail)
    refine W_cond (by rfl) (fun hc => ?_) (fun hc => ?_)
    · have hB : B = false := by rw [hlr, hb, hc]; rfl
      rw [no hB]
      repeat' (first | refine w1g ?_ | refine w1l ?_ | refine w1q ?_ | refine w1b ?_ | refine w1p ?_ | ((first | refine w1r ?_ | refine w1k ?_ | refine w1e ?_); (refine sy1 ?_; try exact True.intro)) | refine an2 ?_ | fail)
      exact W_ret ⟨[_], ⟨rfl, rfl⟩, rfl⟩
    · have hB : B = true := by rw [hlr, hb, hc]; rfl
      repeat' (first | refine w1g ?_ | refine w1l ?_ | refine w1q ?_ | refine w1b ?_ | refine w1p ?_ | ((first | refine w1r ?_ | refine w1k ?_ | refine w1e ?_); (refine sy1 ?_; try exact True.intro)) | refine an2 ?_ | fail)
      refine ⟨i + 1, ⟨by omega, fun j hj => ?_⟩, by omega, by rfl, ?_⟩
      · rcases Nat.lt_or_ge j i with q | q
        · exact hall j q
        · rw [show j = i by omega, ← hBe, hB]
      · (refine syE ?_; try exact True.intro)
end Go.Proofs.Ytfbdlmenhoagmaa

namespace Go.Proofs.Ytfbdlmenhoagmaa
open Go Sy Go.RowKit
theorem infoV : (Try.prog.info? 182).map (fun i => (i.zero, i.size, i.bytes)) = some (some (.agg #[.int .i64 0, .int .i64 0]), 2, 16) := by kernel_rfl
theorem set_some (b : Nat) : ∀ (vs : List Value) (o : Nat) (w : World) (a : Addr), (w.cell? a).isSome = true → ((w.setCells b o vs).cell? a).isSome = true
  | [], o, w, a, h => h
  | v :: vs, o, w, a, h => by
    rw [World.setCells]
    refine set_some b vs _ _ a ?_
    by_cases e : (⟨b, o, none⟩ : Addr) = a
    · subst e
      rw [World.cell?_setCell_same' w _ v h]; rfl
    · rw [World.cell?_setCell_other _ _ _ _ e]; exact h
set_option maxHeartbeats 4000000 in
set_option maxRecDepth 1000000 in
theorem del_walk (b cap i n : Nat) (news : List Value) (w : World) (hn : i < n) (hnc : n ≤ cap) (hm : cap ≤ 9223372036854775807) (hlen : news.length = (n - (i + 1)) * 2)
    (hnews : ∀ j u, news[j]? = some u → w.drew.cell? ⟨b, (i + 1) * 2 + j, none⟩ = some u) (h1c : ∀ u ∈ news, u.oneCell' = true) (hall : ∀ j, j < cap * 2 → (w.cell? ⟨b, j, none⟩).isSome = true ∧ w.frozen? ⟨b, j, none⟩ = false) :
    Calls Try.prog 142 #[.slice (some ⟨b, 0, none⟩) n cap, .int .i64 i, .int .i64 ((i : Int) + 1)] w fun e w' => e = .returned (.slice (some ⟨b, 0, none⟩) (i + (n - (i + 1))) cap) ∧
      w' = (w.drew.setCells b (i * 2) news).setCells b ((i + (n - (i + 1))) * 2) [.int .i64 0, .int .i64 0] := by
  obtain ⟨i0, hi0, hz0, hz1, hz2⟩ := info_parts infoV
  obtain ⟨A, hA, hsrc⟩ : ∃ A : Addr, (if cap = i + 1 then some (⟨b, 0, none⟩ : Addr) else some ⟨b, (i + 1) * 2, none⟩) = some A ∧ Hid (∀ j u, news[j]? = some u → w.drew.cell? (A.add j) = some u) := by
    by_cases h : cap = i + 1
    · refine ⟨⟨b, 0, none⟩, by simp [h], fun j u hu => ?_⟩
      have h0 : news.length = 0 := by rw [hlen]; omega
      rw [List.length_eq_zero_iff.1 h0] at hu
      simp at hu
    · refine ⟨⟨b, (i + 1) * 2, none⟩, by simp [h], fun j u hu => ?_⟩
      rw [Addr.add_lit]
      exact hnews j u hu
  have s1 : Hid (news.length = (n - (i + 1)) * 2) := hlen
  have s2 : Hid (∀ u ∈ news, u.oneCell' = true) := h1c
  have s3 : Hid (∀ j, j < news.length → (w.drew.cell? ⟨b, 0 + i * 2 + j, none⟩).isSome = true ∧ w.drew.frozen? ⟨b, 0 + i * 2 + j, none⟩ = false) := by
    intro j hj
    rw [hlen] at hj
    exact hall (0 + i * 2 + j) (by omega)
  have hic : i ≤ cap := by omega
  have hwr : IntKind.i64.wrap ((i : Int) + 1) = (i : Int) + 1 := by rw [IntKind.wrap_i64]; omega
  have hp0 : (0 : Int) ≤ (i : Int) + 1 := by omega
  have hp1 : (i : Int) + 1 ≤ (n : Int) := by omega
  have hp2 : ((i : Int) + 1).toNat = i + 1 := by omega
  obtain ⟨W1, hW1⟩ : ∃ W1, W1 = w.drew.setCells b (0 + i * 2) news := ⟨_, rfl⟩
  have hall1 : ∀ j, j < cap * 2 → (W1.cell? ⟨b, j, none⟩).isSome = true ∧ W1.frozen? ⟨b, j, none⟩ = false := fun j hj => by
    rw [hW1]
    exact ⟨set_some _ _ _ _ _ (hall j hj).1, by rw [World.frozen?_setCells]; exact (hall j hj).2⟩
  have hcl : ∀ ty, (Builtin.clear_ #[176] ty #[.slice (some ⟨b, (i + (n - (i + 1))) * 2, none⟩) (n - (i + (n - (i + 1)))) (cap - (i + (n - (i + 1))))]).run Try.prog W1 = .ok (.tuple #[]) (W1.setCells b ((i + (n - (i + 1))) * 2) [.int .i64 0, .int .i64 0]) := fun ty => by
    have e1 : n - (i + (n - (i + 1))) = 0 + 1 := by omega
    have hst := run_storeCells_cells (P := Try.prog) b ((i + (n - (i + 1))) * 2) [.int .i64 0, .int .i64 0] 0 W1 (fun j hj => (hall1 _ (by simp at hj; omega)).1) (fun j hj => (hall1 _ (by simp at hj; omega)).2) (by intro v hv; simp at hv; rw [hv]; rfl)
    simp only [Nat.add_zero] at hst
    have hz : (zeroValue 182).run Try.prog W1 = .ok (Value.agg #[Value.int IntKind.i64 0, Value.int IntKind.i64 0]) W1 := Sy.run_zeroValue hi0 hz0
    rw [e1]
    have e3 : (Builtin.zeroCells (Value.agg #[Value.int IntKind.i64 0, Value.int IntKind.i64 0]).cells 1).toList = [.int .i64 0, .int .i64 0] := by
      simp [Builtin.zeroCells, Value.cells]
      rfl
    simp [Builtin.clear_, run_underlying Try.underlying176, hz]
    rw [e3, hst]
    rfl
  have hW : Hid (W1 = w.drew.setCells b (0 + i * 2) news) := hW1
  have X : Hid (W1 = w.drew.setCells b (0 + i * 2) news) := hW1
  clear hnews hlen h1c hW1 hall hall1
  go_enter Try.func142, Try.ntmps142
  go_wp2_with fail
  go_region_law (refine step_append_room rfl (.tmp 22) (.tmp 25) 176 rfl 182 i0 2 Try.underlying176 hi0 hz1 b 0 i cap (by simp [Act.eval, Act.put]) A (n - (i + 1)) (cap - (i + 1)) news (by simp [Act.eval, Act.put]) s1.out hsrc.out s2.out (by omega) s3.out ?_; rw [← hW.out])
  go_wp2
  go_ret
  refine ⟨rfl, ?_⟩
  rw [X.out, Nat.zero_add]
theorem setCells_at (b : Nat) (e : TypeId) : ∀ (vs : List Value) (o : Nat) (w : World) (cur : Array Value), w.heap[b]? = some (.cells cur e (0, 0)) → o + vs.length ≤ cur.size →
    ∃ cur', (w.setCells b o vs).heap[b]? = some (.cells cur' e (0, 0)) ∧ cur'.size = cur.size ∧ ∀ j, cur'.toList[j]? = if o ≤ j ∧ j < o + vs.length then vs[j - o]? else cur.toList[j]?
  | [], o, w, cur, h, _ => ⟨cur, h, rfl, fun j => by rw [if_neg (by simp only [List.length_nil]; omega)]⟩
  | v :: vs, o, w, cur, h, hl => by
    have h1 : (w.setCell ⟨b, o, none⟩ v).heap[b]? = some (.cells (cur.setIfInBounds o v) e (0, 0)) := by
      have hlt : b < w.heap.size := (Array.getElem?_eq_some_iff.1 h).1
      simp [World.setCell, Array.getElem?_modify, h]
    simp only [List.length_cons] at hl
    obtain ⟨cur', g1, g2, g3⟩ := setCells_at b e vs (o + 1) _ _ h1 (by simp; omega)
    refine ⟨cur', by rw [World.setCells]; exact g1, by rw [g2]; simp, fun j => ?_⟩
    rw [g3]
    simp only [List.length_cons]
    by_cases c1 : o + 1 ≤ j ∧ j < o + 1 + vs.length
    · rw [if_pos c1, if_pos (by omega)]
      obtain ⟨k, rfl⟩ : ∃ k, j = o + 1 + k := ⟨j - (o + 1), by omega⟩
      rw [show o + 1 + k - (o + 1) = k by omega, show o + 1 + k - o = k + 1 by omega, List.getElem?_cons_succ]
    · rw [if_neg c1]
      by_cases c2 : j = o
      · subst c2
        rw [if_pos (by omega), Nat.sub_self]
        simp [show j < cur.size by omega]
      · rw [if_neg (by omega)]
        simp [Array.getElem?_setIfInBounds, show ¬ o = j by omega]
theorem grown_set {w w' : World} {g o : Nat} {vs : List Value} (h : w.grownBy w' (some g)) : w.grownBy (w'.setCells g o vs) (some g) := by
  induction vs generalizing o w' with
  | nil => exact h
  | cons v vs ih =>
    refine ih ⟨h.os, h.tape, h.output, by rw [World.size_setCell]; exact h.size, fun k hk hne => ?_⟩
    refine Eq.trans ?_ (h.block k hk hne)
    have : g ≠ k := fun e => hne (by rw [e])
    simp [World.setCell, Array.getElem?_modify, this]
theorem Inl_del {s : S} {k st i : Nat} {α : Type} {d : α} {F : α → List AV} {l : List α} (hk : lm s.mem k = some (.row st 182 2 d F l)) (hi : i < l.length) {K : AV → S → Prop}
    (hK : K (.row k (st + 1)) ⟨s.tm, setm s.mem k (.row (st + 1) 182 2 d F (l.eraseIdx i)), s.nx⟩) : Inl Try.prog 142 [.row k st, iv i, iv ((i : Int) + 1)] s K := by
  refine Inl_grow (P := Try.prog) (f := 142) (by kernel_rfl) hk (by omega) (ys := [.int .i64 i, .int .i64 ((i : Int) + 1)]) (fun B Fz w hh xs hown hrow => ?_) hK
  obtain ⟨hxl, hcase⟩ := hown
  rcases hcase with ⟨_, h0⟩ | ⟨g, cap, cur, e1, e2, e3, e4, e5, e6, e7⟩
  · omega
  rw [e1]
  have hcell : ∀ j, w.cell? ⟨g, j, none⟩ = cur.toList[j]? := fun j => by simp [World.cell?, e3]
  have hxs : ∀ j, j < l.length * 2 → xs[j]? = cur.toList[j]? := fun j hj => by rw [← e7, List.getElem?_take, if_pos hj]
  have h1c : ∀ u ∈ xs, u.oneCell' = true := fun u hu => by
    obtain ⟨j, hj, rfl⟩ := List.mem_iff_getElem.1 hu
    obtain ⟨x, hx⟩ : ∃ x, l[j / 2]? = some x := ⟨l[j / 2]'(by omega), List.getElem?_eq_getElem (by omega)⟩
    obtain ⟨q1, q2⟩ := hrow (j / 2) x hx
    have key : ∀ (cs : List AV) (vs : List Value), fsatL Fz w cs vs → ∀ v ∈ vs, v.oneCell' = true := fun cs => by
      induction cs with
      | nil => intro vs h v hv; simp only [fsatL] at h; subst h; cases hv
      | cons a cs ih =>
        intro vs h v hv
        simp only [fsatL] at h
        obtain ⟨y, ys, rfl, g1, _, g2⟩ := h
        rcases List.mem_cons.1 hv with rfl | hv
        · exact g1
        · exact ih ys g2 v hv
    refine key _ _ q2 _ ?_
    refine List.mem_iff_getElem?.2 ⟨j % 2, ?_⟩
    rw [List.getElem?_take, if_pos (by omega), List.getElem?_drop, show j / 2 * 2 + j % 2 = j by omega, List.getElem?_eq_getElem hj]
  refine (del_walk g cap i l.length (xs.drop ((i + 1) * 2)) w hi e4 e5 (by rw [List.length_drop, hxl]; omega) (fun j u hu => ?_) (fun u hu => h1c u (List.mem_of_mem_drop hu)) (fun j hj => ⟨?_, ?_⟩)).mono ?_
  · rw [List.getElem?_drop] at hu
    have hj : (i + 1) * 2 + j < xs.length := (List.getElem?_eq_some_iff.1 hu).1
    rw [hxs _ (by omega), ← hcell] at hu
    exact hu
  · rw [hcell, List.getElem?_eq_getElem (by simp; omega)]; rfl
  · simp [World.frozen?, e3]
  rintro e w' ⟨rfl, rfl⟩
  have hw1 : w.drew.heap[g]? = some (.cells cur 182 (0, 0)) := e3
  obtain ⟨c1, a1, a2, a3⟩ := setCells_at g 182 (xs.drop ((i + 1) * 2)) (i * 2) w.drew cur hw1 (by rw [List.length_drop, hxl]; omega)
  obtain ⟨c2, b1, b2, b3⟩ := setCells_at g 182 [.int .i64 0, .int .i64 0] ((i + (l.length - (i + 1))) * 2) _ c1 a1 (by simp; omega)
  have hle : (l.eraseIdx i).length = l.length - 1 := by rw [List.length_eraseIdx, if_pos hi]
  have hm1 : i + (l.length - (i + 1)) = l.length - 1 := by omega
  have hyl : (xs.take (i * 2) ++ xs.drop ((i + 1) * 2)).length = (l.length - 1) * 2 := by rw [List.length_append, List.length_take, List.length_drop, hxl]; omega
  have hgb : w.grownBy ((w.drew.setCells g (i * 2) (xs.drop ((i + 1) * 2))).setCells g ((i + (l.length - (i + 1))) * 2) [.int .i64 0, .int .i64 0]) (some g) :=
    grown_set (grown_set ⟨rfl, rfl, rfl, Nat.le_refl _, fun _ _ _ => rfl⟩)
  refine ⟨(some ⟨g, 0, none⟩, l.length - 1, cap), xs.take (i * 2) ++ xs.drop ((i + 1) * 2), by rw [hm1]; rfl, ⟨by rw [hyl, hle], .inr ⟨g, cap, c2, by rw [hle]; rfl, e2, b1, by rw [hle]; omega, e5, by rw [b2, a2, e6], ?_⟩⟩, hgb, fun j x hx => ?_, fun b hb => .inl hb⟩
  · rw [hle]
    apply List.ext_getElem?
    intro j
    rw [List.getElem?_take]
    by_cases hj : j < (l.length - 1) * 2
    · rw [if_pos hj, b3, if_neg (by simp; omega), a3]
      by_cases q : j < i * 2
      · rw [if_neg (by omega), List.getElem?_append_left (by rw [List.length_take, hxl]; omega), List.getElem?_take, if_pos q, hxs j (by omega)]
      · rw [if_pos (by rw [List.length_drop, hxl]; omega), List.getElem?_append_right (by rw [List.length_take, hxl]; omega)]
        congr 1
        rw [List.length_take, hxl]; omega
    · rw [if_neg hj, List.getElem?_eq_none (by omega)]
  · rw [List.getElem?_eraseIdx] at hx
    by_cases q : j < i
    · rw [if_pos q] at hx
      obtain ⟨q1, q2⟩ := hrow j x hx
      refine ⟨q1, ?_⟩
      rw [List.drop_append_of_le_length (by rw [List.length_take, hxl]; omega), List.take_append_of_le_length (by rw [List.length_drop, List.length_take, hxl]; omega), List.drop_take, List.take_take, show min 2 (i * 2 - j * 2) = 2 by omega]
      exact q2
    · rw [if_neg q] at hx
      obtain ⟨q1, q2⟩ := hrow (j + 1) x hx
      refine ⟨q1, ?_⟩
      rw [List.drop_append, List.drop_of_length_le (by rw [List.length_take, hxl]; omega), List.nil_append, List.drop_drop, List.length_take, hxl, show (i + 1) * 2 + (j * 2 - min (i * 2) (l.length * 2)) = (j + 1) * 2 by omega]
      exact q2
end Go.Proofs.Ytfbdlmenhoagmaa

namespace Go.Proofs.Ytfbdlmenhoagmaa
open Go Sy
set_option maxRecDepth 100000
set_option maxHeartbeats 4000000
set_option linter.unusedVariables false
set_option linter.unusedSimpArgs false
def ixV (l : List Vis) (v : Vis) : Nat := fstN (fun i => eqV1 v (gv l i)) l.length 0
theorem ixV_ok {l : List Vis} {v : Vis} {j : Nat} (hj : j < l.length) (h : v = gv l j) : ixV l v < l.length ∧ gv l (ixV l v) = v ∧ ∀ x, x < ixV l v → eqV1 v (gv l x) = false := by
  obtain ⟨d, h1, h2, h3, h4⟩ := fst_ex (p := fun i => eqV1 v (gv l i)) l.length 0 j (by omega) (by omega) (eqV1_iff.2 h)
  have e : ixV l v = d := fst_eq l.length 0 d (by omega) (by omega) h3 h4
  rw [e]
  exact ⟨by omega, (eqV1_iff.1 h3).symm, fun x hx => h4 x (by omega) hx⟩
theorem fn140 (a b : Vis) (ha : 0 ≤ a.t ∧ a.t ≤ 4398046511104) (hb : 0 ≤ b.t ∧ b.t ≤ 4398046511104) : Sy.Fn Try.prog 140 [.agg (cV a), .agg (cV b)] (iv (a.t - b.t)) := by
  refine Fn_of_W mixed Xt140 rfl ?_
  unfold cV
  repeat' (first | refine w1g ?_ | refine w1l ?_ | refine w1q ?_ | refine w1b ?_ | refine w1p ?_ | ((first | refine w1r ?_ | refine w1k ?_ | refine w1e ?_); (refine sy1 ?_; try exact True.intro)) | refine an2 ?_ | fail)
  exact W_ret ⟨[_], ⟨rfl, rfl⟩, rfl⟩
theorem mv_ok {l : List Vis} (h : OkV l) : ∀ i, 0 ≤ (mv l i).t ∧ (mv l i).t ≤ 4398046511104
  | 0 => h 0
  | i + 1 => by
    simp only [mv]
    split
    · exact h i
    · exact mv_ok h i
theorem fn139 (l : List Vis) (h : OkV l) (h0 : 0 < l.length) (hl : l.length ≤ 1000000) : Sy.Fn Try.prog 139 [aV l, .clo 140 [] []] (.agg (cV (mv l l.length))) := by
  refine Fn_of_W mixed Xt139 rfl ?_
  have hg0 : l.getD 0 dV = gv l 0 := rfl
  repeat' (first | refine w1g ?_ | refine w1l ?_ | refine w1q ?_ | refine w1b ?_ | refine w1p ?_ | ((first | refine w1r ?_ | refine w1k ?_ | refine w1e ?_); simp (maxSteps := 400000) (disch := omega) only [push_cast, ↓reduceIte, reduceCtorEq, Nat.reduceAdd, Nat.reduceSub, Nat.reduceEqDiff, Nat.reduceLeDiff, Nat.reduceLT, Nat.reduceBEq, Nat.reduceDiv, Nat.reduceMod, Nat.reducePow, Nat.reduceMul, Int.reduceToNat, Int.reduceLT, Int.reduceLE, hg0]) | refine an2 ?_ | fail)
  refine W_condD (by rfl) (fun q => by omega) (fun _ => ?_)
  repeat' (first | refine w1g ?_ | refine w1l ?_ | refine w1q ?_ | refine w1b ?_ | refine w1p ?_ | ((first | refine w1r ?_ | refine w1k ?_ | refine w1e ?_); simp (maxSteps := 400000) (disch := omega) only [push_cast, ↓reduceIte, reduceCtorEq, Nat.reduceAdd, Nat.reduceSub, Nat.reduceEqDiff, Nat.reduceLeDiff, Nat.reduceLT, Nat.reduceBEq, Nat.reduceDiv, Nat.reduceMod, Nat.reducePow, Nat.reduceMul, Int.reduceToNat, Int.reduceLT, Int.reduceLE, hg0]) | refine an2 ?_ | fail)
  refine W_loopU (fun i : Nat => [(6, iv i)]) (fun i => [(7, .cells (cV (mv l i)))]) (fun i => 1 ≤ i ∧ i ≤ l.length) (fun i => l.length - i) 1 ⟨by omega, by omega⟩ (by rfl) (by rw [mv_one]; rfl) (fun i hi => ?_)
  (refine sy1 ?_; try exact True.intro)
  repeat' (first | refine w1g ?_ | refine w1l ?_ | refine w1q ?_ | refine w1b ?_ | refine w1p ?_ | ((first | refine w1r ?_ | refine w1k ?_ | refine w1e ?_); (refine sy1 ?_; try exact True.intro)) | refine an2 ?_ | fail)
  refine W_condD (by rfl) (fun h5 => ?_) (fun h5 => ?_)
  · have hlt : i < l.length := by omega
    have hgi : l.getD i dV = gv l i := rfl
    have hs : mv l (i + 1) = if (gv l i).t < (mv l i).t then gv l i else mv l i := rfl
    have a1 := h i
    have a2 := mv_ok h i
    have c140 := fn140 (gv l i) (mv l i) a1 a2
    generalize gv l i = A at *
    generalize mv l i = B at *
    repeat' (first | refine w1g ?_ | refine w1l ?_ | refine w1q ?_ | refine w1b ?_ | refine w1p ?_ | ((first | refine w1r ?_ | refine w1k ?_ | refine w1e ?_ | refine CallC.now (c140) ?_); simp (maxSteps := 400000) (disch := omega) only [push_cast, ↓reduceIte, reduceCtorEq, Nat.reduceAdd, Nat.reduceSub, Nat.reduceEqDiff, Nat.reduceLeDiff, Nat.reduceLT, Nat.reduceBEq, Nat.reduceDiv, Nat.reduceMod, Nat.reducePow, Nat.reduceMul, Int.reduceToNat, Int.reduceLT, Int.reduceLE, hgi]) | refine an2 ?_ | fail)
    refine W_condD (by rfl) (fun h6 => ?_) (fun h6 => ?_)
    · rw [if_pos (by omega)] at hs
      repeat' (first | refine w1g ?_ | refine w1l ?_ | refine w1q ?_ | refine w1b ?_ | refine w1p ?_ | ((first | refine w1r ?_ | refine w1k ?_ | refine w1e ?_); simp (maxSteps := 400000) (disch := omega) only [push_cast, ↓reduceIte, reduceCtorEq, Nat.reduceAdd, Nat.reduceSub, Nat.reduceEqDiff, Nat.reduceLeDiff, Nat.reduceLT, Nat.reduceBEq, Nat.reduceDiv, Nat.reduceMod, Nat.reducePow, Nat.reduceMul, Int.reduceToNat, Int.reduceLT, Int.reduceLE, hgi]) | refine an2 ?_ | fail)
      refine ⟨i + 1, ⟨by omega, by omega⟩, by omega, by rfl, ?_⟩
      rw [hs]
      (refine syE ?_; try exact True.intro)
    · rw [if_neg (by omega)] at hs
      repeat' (first | refine w1g ?_ | refine w1l ?_ | refine w1q ?_ | refine w1b ?_ | refine w1p ?_ | ((first | refine w1r ?_ | refine w1k ?_ | refine w1e ?_); (refine sy1 ?_; try exact True.intro)) | refine an2 ?_ | fail)
      refine ⟨i + 1, ⟨by omega, by omega⟩, by omega, by rfl, ?_⟩
      rw [hs]
      (refine syE ?_; try exact True.intro)
  · rw [show i = l.length by omega]
    repeat' (first | refine w1g ?_ | refine w1l ?_ | refine w1q ?_ | refine w1b ?_ | refine w1p ?_ | ((first | refine w1r ?_ | refine w1k ?_ | refine w1e ?_); (refine sy1 ?_; try exact True.intro)) | refine an2 ?_ | fail)
    refine W_ret ⟨[_], ⟨⟨⟨trivial, Nat.le_of_eq rfl⟩, rfl⟩, rfl⟩, ?_⟩
    simp (maxSteps := 400000) (disch := omega) only [push_cast, ↓reduceIte, reduceCtorEq, Nat.reduceAdd, Nat.reduceSub, Nat.reduceEqDiff, Nat.reduceLeDiff, Nat.reduceLT, Nat.reduceBEq, Nat.reduceDiv, Nat.reduceMod, Nat.reducePow, Nat.reduceMul, Int.reduceToNat, Int.reduceLT, Int.reduceLE, pack]
    try rfl
theorem fn141 (l : List Vis) (v : Vis) (j : Nat) (hj : j < l.length) (hv : v = gv l j) (hl : l.length ≤ 1000000) : Sy.Fn Try.prog 141 [aV l, .agg (cV v)] (iv (ixV l v)) := by
  refine Fn_of_W mixed Xt141 rfl ?_
  obtain ⟨i1, i2, i3⟩ := ixV_ok hj hv
  repeat' (first | refine w1g ?_ | refine w1l ?_ | refine w1q ?_ | refine w1b ?_ | refine w1p ?_ | ((first | refine w1r ?_ | refine w1k ?_ | refine w1e ?_); (refine sy1 ?_; try exact True.intro)) | refine an2 ?_ | fail)
  refine W_loopU (fun i : Nat => [(8, iv i)]) (fun i => []) (fun i => i ≤ ixV l v) (fun i => l.length - i) 0 (by omega) (by rfl) (by rfl) (fun i hi => ?_)
  (refine sy1 ?_; try exact True.intro)
  repeat' (first | refine w1g ?_ | refine w1l ?_ | refine w1q ?_ | refine w1b ?_ | refine w1p ?_ | ((first | refine w1r ?_ | refine w1k ?_ | refine w1e ?_); (refine sy1 ?_; try exact True.intro)) | refine an2 ?_ | fail)
  refine W_condD (by rfl) (fun h5 => ?_) (fun h5 => by omega)
  have hlt : i < l.length := by omega
  have hgi : l.getD i dV = gv l i := rfl
  have hno : i < ixV l v → eqV1 v (gv l i) = false := i3 i
  have hye : i = ixV l v → eqV1 v (gv l i) = true := fun e => by rw [e]; exact eqV1_iff.2 i2.symm
  have heq : eqV1 v (gv l i) = (v.p == (gv l i).p && v.t == (gv l i).t) := rfl
  generalize eqV1 v (gv l i) = Q at *
  obtain ⟨v1, v2⟩ := v
  obtain ⟨⟨a1, a2⟩, hX⟩ : ∃ X, gv l i = X := ⟨_, rfl⟩
  rw [hX] at heq
  repeat' (first | refine w1g ?_ | refine w1l ?_ | refine w1q ?_ | refine w1b ?_ | refine w1p ?_ | ((first | refine w1r ?_ | refine w1k ?_ | refine w1e ?_); simp (maxSteps := 400000) (disch := omega) only [push_cast, ↓reduceIte, reduceCtorEq, Nat.reduceAdd, Nat.reduceSub, Nat.reduceEqDiff, Nat.reduceLeDiff, Nat.reduceLT, Nat.reduceBEq, Nat.reduceDiv, Nat.reduceMod, Nat.reducePow, Nat.reduceMul, Int.reduceToNat, Int.reduceLT, Int.reduceLE, hgi, hX, cV, eqV, eqA, eqL]) | refine an2 ?_ | fail)
  refine W_cond (by rfl) (fun hb => ?_) (fun hb => ?_)
  · have e : i = ixV l ⟨v1, v2⟩ := by
      rcases Nat.lt_or_ge i (ixV l ⟨v1, v2⟩) with q | q
      · have := hno q; rw [heq] at this
        have h2 : (v1 == a1 && v2 == a2) = false := this
        rw [h2] at hb; cases hb
      · omega
    rw [← e]
    repeat' (first | refine w1g ?_ | refine w1l ?_ | refine w1q ?_ | refine w1b ?_ | refine w1p ?_ | ((first | refine w1r ?_ | refine w1k ?_ | refine w1e ?_); (refine sy1 ?_; try exact True.intro)) | refine an2 ?_ | fail)
    exact W_ret ⟨[_], ⟨rfl, rfl⟩, rfl⟩
  · have e : i < ixV l ⟨v1, v2⟩ := by
      rcases Nat.lt_or_ge i (ixV l ⟨v1, v2⟩) with q | q
      · exact q
      · have := hye (by omega); rw [heq] at this
        have h2 : (v1 == a1 && v2 == a2) = true := this
        rw [h2] at hb; cases hb
    repeat' (first | refine w1g ?_ | refine w1l ?_ | refine w1q ?_ | refine w1b ?_ | refine w1p ?_ | ((first | refine w1r ?_ | refine w1k ?_ | refine w1e ?_); (refine sy1 ?_; try exact True.intro)) | refine an2 ?_ | fail)
    refine ⟨i + 1, by omega, by omega, by rfl, ?_⟩
    (refine syE ?_; try exact True.intro)
end Go.Proofs.Ytfbdlmenhoagmaa

namespace Go.Proofs.Ytfbdlmenhoagmaa
open Go Sy
set_option maxRecDepth 100000
set_option maxHeartbeats 4000000
set_option linter.unusedVariables false
set_option linter.unusedSimpArgs false
def Xm109_1 : C := regL [1, 2, 3, 4, 5] none [⟨some 5, .box true 89 (.tmp 0), none⟩, ⟨some 10, .mv (.const (.slice none 0 0)), none⟩]
def Xm109_4 : C := regL [1, 2, 3, 4, 5, 11] none [⟨some 20, .fa 0 (.tmp 5), none⟩, ⟨some 21, .fa 0 (.tmp 20), none⟩, ⟨some 22, .ld 3 1 false (.tmp 21), none⟩, ⟨some 23, .mks 2 1 8 (.int .i64 0) (.tmp 22) (.tmp 22), none⟩, ⟨some 11, .mv (.tmp 23), none⟩]
def Xm109_7 : C := regL [1, 2, 3, 4, 5, 11, 25, 26] none [⟨some 24, .mv (.tmp 11), none⟩, ⟨some 25, .len (.tmp 24), none⟩, ⟨some 26, .mv (.const (.int .i64 0)), none⟩]
def Xm109_11 : C := regL [1, 2, 3, 4, 5, 11, 25, 26, 27] none [⟨some 27, .bin 3 .lss (.tmp 26) (.tmp 25), none⟩]
def Xm109_13 : C := .cond (.tmp 27) .skip (.exit 0)
def Xm109_19 : C := regL [1, 2, 3, 4, 5, 11, 12, 25, 26] none [⟨some 28, .mv (.tmp 26), none⟩, ⟨some 12, .mv (.tmp 28), none⟩]
def Xm109_20 : C := regL [1, 2, 3, 4, 5, 11, 25, 26] none [⟨some 29, .mv (.tmp 11), none⟩, ⟨some 30, .mv (.tmp 12), none⟩, ⟨some 31, .ia 1 (.tmp 29) (.tmp 30), none⟩, ⟨none, .st 2 1 (.tmp 31) (.const (.int .i64 (-1))), none⟩]
def Xm109_18 : C := .seq Xm109_19 Xm109_20
def Xm109_17 : C := .block 1 Xm109_18
def Xm109_21 : C := regL [1, 2, 3, 4, 5, 11, 25, 26] none [⟨some 32, .bin 3 .add (.tmp 26) (.const (.int .i64 1)), none⟩, ⟨some 26, .mv (.tmp 32), none⟩]
def Xm109_16 : C := seqL [1, 2, 3, 4, 5, 11, 25, 26] Xm109_17 Xm109_21
def Xm109_12 : C := seqL [1, 2, 3, 4, 5, 11, 25, 26] Xm109_13 Xm109_16
def Xm109_10 : C := .seq Xm109_11 Xm109_12
def Xm109_9 : C := loopL [1, 2, 3, 4, 5, 11, 25, 26] Xm109_10
def Xm109_8 : C := .block 0 Xm109_9
def Xm109_6 : C := .seq Xm109_7 Xm109_8
def Xm109_23 : C := regL [1, 2, 3, 4, 5, 11, 13] none [⟨some 33, .bld (.agg #[.slice none 0 0]) [], none⟩, ⟨some 34, .box false 178 (.tmp 33), none⟩, ⟨some 13, .mv (.tmp 34), none⟩]
def Xm109_25 : C := regL [1, 2, 3, 4, 5, 11, 14, 15] none [⟨some 35, .mv (.tmp 13), none⟩, ⟨some 36, .mkf 136 [.tmp 35] [], none⟩, ⟨some 37, .mv (.tmp 13), none⟩, ⟨some 38, .mkf 137 [.tmp 37] [], none⟩, ⟨some 14, .mv (.tmp 36), none⟩, ⟨some 15, .mv (.tmp 38), none⟩]
def Xm109_27 : C := regL [1, 4, 5, 11, 14, 15] none [⟨some 39, .mv (.tmp 14), none⟩, ⟨some 40, .mv (.tmp 2), none⟩, ⟨some 41, .mv (.tmp 3), none⟩, ⟨some 42, .bld (.agg #[.int .i64 0, .int .i64 0]) [(0, 1, .tmp 40), (1, 1, .tmp 41)], none⟩, ⟨some 43, .callv (.tmp 39) [.tmp 42], none⟩]
def Xm109_32 : C := regL [1, 4, 5, 11, 14, 15, 16, 17] none [⟨some 45, .mv (.tmp 15), none⟩, ⟨some 46, .callv (.tmp 45) [], none⟩, ⟨some 44, .mv (.tmp 46), none⟩, ⟨some 47, .ext 0 (.tmp 44), none⟩, ⟨some 48, .ext 1 (.tmp 44), none⟩, ⟨some 16, .alc 182 (.agg #[.int .i64 0, .int .i64 0]), none⟩, ⟨none, .st 182 2 (.tmp 16) (.tmp 47), none⟩, ⟨some 17, .mv (.tmp 48), none⟩]
def Xm109_37 : C := regL [1, 4, 5, 11, 14, 15, 16, 49] none [⟨some 49, .mv (.tmp 17), none⟩]
def Xm109_38 : C := .cond (.tmp 49) .skip (.exit 2)
def Xm109_36 : C := .seq Xm109_37 Xm109_38
def Xm109_45 : C := regL [1, 4, 5, 11, 14, 15, 16, 60] none [⟨some 55, .mv (.tmp 11), none⟩, ⟨some 56, .fa 0 (.tmp 16), none⟩, ⟨some 57, .ld 3 1 false (.tmp 56), none⟩, ⟨some 58, .ia 1 (.tmp 55) (.tmp 57), none⟩, ⟨some 59, .ld 2 1 false (.tmp 58), none⟩, ⟨some 60, .bin 2 .geq (.tmp 59) (.const (.int .i64 0)), none⟩]
def Xm109_46 : C := .cond (.tmp 60) (.exit 3) .skip
def Xm109_44 : C := .seq Xm109_45 Xm109_46
def Xm109_50 : C := regL [1, 4, 5, 11, 14, 15, 16] none [⟨some 61, .mv (.tmp 11), none⟩, ⟨some 62, .fa 0 (.tmp 16), none⟩, ⟨some 63, .ld 3 1 false (.tmp 62), none⟩, ⟨some 64, .fa 1 (.tmp 16), none⟩, ⟨some 65, .ld 2 1 false (.tmp 64), none⟩, ⟨some 66, .ia 1 (.tmp 61) (.tmp 63), none⟩, ⟨none, .st 2 1 (.tmp 66) (.tmp 65), none⟩]
def Xm109_52 : C := regL [1, 4, 5, 11, 14, 15, 16, 69, 70, 71] none [⟨some 67, .fa 0 (.tmp 5), none⟩, ⟨some 68, .fa 1 (.tmp 67), none⟩, ⟨some 69, .ld 22 1 false (.tmp 68), none⟩, ⟨some 70, .len (.tmp 69), none⟩, ⟨some 71, .mv (.const (.int .i64 0)), none⟩]
def Xm109_56 : C := regL [1, 4, 5, 11, 14, 15, 16, 69, 70, 71, 72] none [⟨some 72, .bin 3 .lss (.tmp 71) (.tmp 70), none⟩]
def Xm109_58 : C := .cond (.tmp 72) .skip (.exit 4)
def Xm109_64 : C := regL [1, 4, 5, 11, 14, 15, 16, 18, 19, 69, 70, 71] none [⟨some 73, .mv (.tmp 71), none⟩, ⟨some 74, .ia 12 (.tmp 69) (.tmp 71), none⟩, ⟨some 75, .ld 67 12 true (.tmp 74), none⟩, ⟨some 19, .alc 67 (.agg #[.int .i64 0, .int .i64 0, .int .i64 0, .int .i64 0, .int .i64 0, .int .i64 0, .int .i64 0, .int .i64 0, .int .i64 0, .int .i64 0, .int .i64 0, .int .i64 0]), none⟩, ⟨some 18, .mv (.tmp 73), none⟩, ⟨none, .st 67 12 (.tmp 19) (.tmp 75), none⟩]
def Xm109_66 : C := regL [1, 4, 5, 11, 14, 15, 16, 19, 69, 70, 71, 102] none [⟨some 76, .fa 0 (.tmp 19), none⟩, ⟨some 77, .ld 3 1 false (.tmp 76), none⟩, ⟨some 78, .fa 0 (.tmp 16), none⟩, ⟨some 79, .ld 3 1 false (.tmp 78), none⟩, ⟨some 80, .bin 3 .eql (.tmp 77) (.tmp 79), none⟩, ⟨some 81, .mv (.tmp 80), none⟩, ⟨some 82, .mv (.tmp 11), some (81, true)⟩, ⟨some 83, .fa 1 (.tmp 19), some (81, true)⟩, ⟨some 84, .ld 3 1 false (.tmp 83), some (81, true)⟩, ⟨some 85, .ia 1 (.tmp 82) (.tmp 84), some (81, true)⟩, ⟨some 86, .ld 2 1 false (.tmp 85), some (81, true)⟩, ⟨some 87, .bin 2 .lss (.tmp 86) (.const (.int .i64 0)), some (81, true)⟩, ⟨some 88, .pick 81 (.tmp 87) (.const (.bool false)), none⟩, ⟨some 89, .mv (.tmp 88), none⟩, ⟨some 90, .mv (.tmp 4), some (89, true)⟩, ⟨some 91, .fa 1 (.tmp 19), some (89, true)⟩, ⟨some 92, .ld 3 1 false (.tmp 91), some (89, true)⟩, ⟨some 93, .ia 1 (.tmp 90) (.tmp 92), some (89, true)⟩, ⟨some 94, .ld 4 1 false (.tmp 93), some (89, true)⟩, ⟨some 95, .un .not (.tmp 94), some (89, true)⟩, ⟨some 96, .pick 89 (.tmp 95) (.const (.bool false)), none⟩, ⟨some 97, .mv (.tmp 96), none⟩, ⟨some 98, .ld 89 9 true (.tmp 5), some (97, true)⟩, ⟨some 99, .mv (.tmp 1), some (97, true)⟩, ⟨some 100, .mv (.tmp 18), some (97, true)⟩, ⟨some 101, .call 64 [.tmp 98, .tmp 99, .tmp 100], some (97, true)⟩, ⟨some 102, .pick 97 (.tmp 101) (.const (.bool false)), none⟩]
def Xm109_68 : C := regL [1, 4, 5, 11, 14, 15, 16, 69, 70, 71] (some [0, 0, 2, 0, 0, 16, 56, 126, 255]) [⟨some 103, .mv (.tmp 14), none⟩, ⟨some 104, .fa 1 (.tmp 19), none⟩, ⟨some 105, .ld 3 1 false (.tmp 104), none⟩, ⟨some 106, .ld 67 12 true (.tmp 19), none⟩, ⟨some 107, .fa 1 (.tmp 16), none⟩, ⟨some 108, .ld 2 1 false (.tmp 107), none⟩, ⟨some 109, .call 93 [.tmp 106, .tmp 108], none⟩, ⟨some 110, .bld (.agg #[.int .i64 0, .int .i64 0]) [(0, 1, .tmp 105), (1, 1, .tmp 109)], none⟩, ⟨some 111, .callv (.tmp 103) [.tmp 110], none⟩]
def Xm109_67 : C := .cond (.tmp 102) Xm109_68 .skip
def Xm109_65 : C := .seq Xm109_66 Xm109_67
def Xm109_63 : C := .seq Xm109_64 Xm109_65
def Xm109_62 : C := .block 5 Xm109_63
def Xm109_70 : C := regL [1, 4, 5, 11, 14, 15, 16, 69, 70, 71] none [⟨some 112, .bin 3 .add (.tmp 71) (.const (.int .i64 1)), none⟩, ⟨some 71, .mv (.tmp 112), none⟩]
def Xm109_61 : C := seqL [1, 4, 5, 11, 14, 15, 16, 69, 70, 71] Xm109_62 Xm109_70
def Xm109_57 : C := seqL [1, 4, 5, 11, 14, 15, 16, 69, 70, 71] Xm109_58 Xm109_61
def Xm109_55 : C := .seq Xm109_56 Xm109_57
def Xm109_54 : C := loopL [1, 4, 5, 11, 14, 15, 16, 69, 70, 71] Xm109_55
def Xm109_53 : C := .block 4 Xm109_54
def Xm109_51 : C := .seq Xm109_52 Xm109_53
def Xm109_49 : C := .seq Xm109_50 Xm109_51
def Xm109_43 : C := seqL [1, 4, 5, 11, 14, 15, 16] Xm109_44 Xm109_49
def Xm109_42 : C := .block 3 Xm109_43
def Xm109_73 : C := regL [1, 4, 5, 11, 14, 15, 113] none [⟨some 113, .ld 182 2 true (.tmp 16), none⟩]
def Xm109_74 : C := regL [1, 4, 5, 11, 14, 15, 16] none [⟨some 16, .alc 182 (.agg #[.int .i64 0, .int .i64 0]), none⟩, ⟨none, .st 182 2 (.tmp 16) (.tmp 113), none⟩]
def Xm109_72 : C := .seq Xm109_73 Xm109_74
def Xm109_75 : C := regL [1, 4, 5, 11, 14, 15, 16, 17] none [⟨some 51, .mv (.tmp 15), none⟩, ⟨some 52, .callv (.tmp 51) [], none⟩, ⟨some 50, .mv (.tmp 52), none⟩, ⟨some 53, .ext 0 (.tmp 50), none⟩, ⟨some 54, .ext 1 (.tmp 50), none⟩, ⟨none, .st 182 2 (.tmp 16) (.tmp 53), none⟩, ⟨some 17, .mv (.tmp 54), none⟩]
def Xm109_71 : C := seqL [1, 4, 5, 11, 14, 15, 16] Xm109_72 Xm109_75
def Xm109_41 : C := seqL [1, 4, 5, 11, 14, 15, 16] Xm109_42 Xm109_71
def Xm109_35 : C := seqL [1, 4, 5, 11, 14, 15, 16] Xm109_36 Xm109_41
def Xm109_34 : C := loopL [1, 4, 5, 11, 14, 15, 16, 17] Xm109_35
def Xm109_33 : C := .block 2 Xm109_34
def Xm109_31 : C := .seq Xm109_32 Xm109_33
def Xm109_77 : C := regL [10] none [⟨some 114, .mv (.tmp 11), none⟩, ⟨some 10, .mv (.tmp 114), none⟩]
def Xm109_76 : C := .seq Xm109_77 .ret
def Xm109_30 : C := seqL [11] Xm109_31 Xm109_76
def Xm109_28 : C := seqL [1, 4, 5, 11, 14, 15] .skip Xm109_30
def Xm109_26 : C := .seq Xm109_27 Xm109_28
def Xm109_24 : C := .seq Xm109_25 Xm109_26
def Xm109_22 : C := .seq Xm109_23 Xm109_24
def Xm109_5 : C := seqL [1, 2, 3, 4, 5, 11] Xm109_6 Xm109_22
def Xm109_3 : C := .seq Xm109_4 Xm109_5
def Xm109_2 : C := .scp Xm109_3
def Xm109_0 : C := .seq Xm109_1 Xm109_2
theorem Xs109 : Text Try.prog 109 Xm109_0 115 5 [.t 10] := ⟨⟨Try.f109, [5], Try.func109, by kernel_rfl, by kernel_rfl, by kernel_rfl, by kernel_rfl⟩⟩
structure LI where
  o : List Int
  l : List Vis
  v : Vis
  ok : Bool
  st : Nat
theorem w109 (m : Mp) (f : Nat → Int) (s : List Int) (fr t : Int) (sn : List Bool) (h : OkM m) (hs : Srt m.ws.length 0 s) (hf : 0 ≤ fr ∧ fr < m.n) (ht : 0 ≤ t ∧ t ≤ 2199023255552) (hl : (sn.length : Int) = m.n) : W Try.prog 115 Xm109_0 (init [aAt m f, uv (msk s), iv fr, iv t, .sl 1 false cB sn]) (FinO [.t 10] 2 1 0 cI (labT m f s (fun x => sn.getD x.toNat false) fr t)) := by
  have hn := h.n
  have hnr := h.nr
  obtain ⟨n, hnn⟩ : ∃ n : Nat, m.n = n := ⟨m.n.toNat, by omega⟩
  have hok := tes_ok h (goB m f s (fun x => sn.getD x.toNat false))
  have hgo : ∀ i, goB m f s (fun x => sn.getD x.toNat false) i = (usB m f s i && !sn.getD (gr m i).t.toNat false) := fun _ => rfl
  have hun : ∀ o, Tms (tes m (goB m f s (fun x => sn.getD x.toNat false)) m.rs.length) fr.toNat m.n.toNat t o → TFix (tes m (goB m f s (fun x => sn.getD x.toNat false)) m.rs.length) o → o = labT m f s (fun x => sn.getD x.toNat false) fr t := fun o h1 h2 => by
    obtain ⟨h3, h4⟩ := labT_ok h f s (fun x => sn.getD x.toNat false) hf ht.1
    exact tms_eq hok ht.1 h1 h2 h3 h4
  generalize labT m f s (fun x => sn.getD x.toNat false) fr t = LB at *
  generalize goB m f s (fun x => sn.getD x.toNat false) = p at *
  rw [hnn, Int.toNat_natCast] at hok hun
  repeat' (first | refine w1g ?_ | refine w1l ?_ | refine w1q ?_ | refine w1b ?_ | refine w1p ?_ | ((first | refine w1r ?_ | refine w1k ?_ | refine w1e ?_); simp (maxSteps := 400000) (disch := omega) only [push_cast, ↓reduceIte, reduceCtorEq, Nat.reduceAdd, Nat.reduceSub, Nat.reduceEqDiff, Nat.reduceLeDiff, Nat.reduceLT, Nat.reduceBEq, Nat.reduceDiv, Nat.reduceMod, Nat.reducePow, Nat.reduceMul, Int.reduceToNat, Int.reduceLT, Int.reduceLE, hnn]) | refine an2 ?_ | fail)
  refine ⟨rfl, ⟨by omega, by omega, by omega⟩, Int, 0, cI, 0, rfl, rfl, by omega, rfl, ?_⟩
  simp (maxSteps := 400000) (disch := omega) only [push_cast, ↓reduceIte, reduceCtorEq, Nat.reduceAdd, Nat.reduceSub, Nat.reduceEqDiff, Nat.reduceLeDiff, Nat.reduceLT, Nat.reduceBEq, Nat.reduceDiv, Nat.reduceMod, Nat.reducePow, Nat.reduceMul, Int.reduceToNat, Int.reduceLT, Int.reduceLE, Int.toNat_natCast]
  repeat' (first | refine w1g ?_ | refine w1l ?_ | refine w1q ?_ | refine w1b ?_ | refine w1p ?_ | ((first | refine w1r ?_ | refine w1k ?_ | refine w1e ?_); simp (maxSteps := 400000) (disch := omega) only [push_cast, ↓reduceIte, reduceCtorEq, Nat.reduceAdd, Nat.reduceSub, Nat.reduceEqDiff, Nat.reduceLeDiff, Nat.reduceLT, Nat.reduceBEq, Nat.reduceDiv, Nat.reduceMod, Nat.reducePow, Nat.reduceMul, Int.reduceToNat, Int.reduceLT, Int.reduceLE, List.length_replicate]) | refine an2 ?_ | fail)
  refine W_loopU (fun j : Nat => [(26, iv j)]) (fun j => [(5, .row 0 2 1 0 cI (tbl n (upT (fun _ => -1) j)))]) (fun j => j ≤ n) (fun j => n - j) 0 (by omega) (by rfl) (by rw [upT_zero]; rfl) (fun j hj => ?_)
  have tl := tbl_len n (upT (fun _ => -1) j)
  (refine sy1 ?_; try exact True.intro)
  repeat' (first | refine w1g ?_ | refine w1l ?_ | refine w1q ?_ | refine w1b ?_ | refine w1p ?_ | ((first | refine w1r ?_ | refine w1k ?_ | refine w1e ?_); simp (maxSteps := 400000) (disch := omega) only [push_cast, ↓reduceIte, reduceCtorEq, Nat.reduceAdd, Nat.reduceSub, Nat.reduceEqDiff, Nat.reduceLeDiff, Nat.reduceLT, Nat.reduceBEq, Nat.reduceDiv, Nat.reduceMod, Nat.reducePow, Nat.reduceMul, Int.reduceToNat, Int.reduceLT, Int.reduceLE, hnn]) | refine an2 ?_ | fail)
  refine W_condD (by rfl) (fun h5 => ?_) (fun h5 => ?_)
  · have e3 := upT_set (fun _ => -1) (j := j) (n := n)
    repeat' (first | refine w1g ?_ | refine w1l ?_ | refine w1q ?_ | refine w1b ?_ | refine w1p ?_ | ((first | refine w1r ?_ | refine w1k ?_ | refine w1e ?_); simp (maxSteps := 400000) (disch := omega) only [push_cast, ↓reduceIte, reduceCtorEq, Nat.reduceAdd, Nat.reduceSub, Nat.reduceEqDiff, Nat.reduceLeDiff, Nat.reduceLT, Nat.reduceBEq, Nat.reduceDiv, Nat.reduceMod, Nat.reducePow, Nat.reduceMul, Int.reduceToNat, Int.reduceLT, Int.reduceLE, tl]) | refine an2 ?_ | fail)
    refine ⟨rfl, ⟨Nat.le_of_ble_eq_true rfl, rfl⟩, by omega, -1, rfl, rfl, ?_⟩
    rw [e3]
    (refine sy1 ?_; try exact True.intro)
    repeat' (first | refine w1g ?_ | refine w1l ?_ | refine w1q ?_ | refine w1b ?_ | refine w1p ?_ | ((first | refine w1r ?_ | refine w1k ?_ | refine w1e ?_); (refine sy1 ?_; try exact True.intro)) | refine an2 ?_ | fail)
    refine ⟨j + 1, by omega, by omega, by rfl, ?_⟩
    (refine syE ?_; try exact True.intro)
  have ei : tbl n (upT (fun _ => -1) j) = List.replicate n (-1) := by rw [show j = n by omega, upT_all, tbl_rep]
  rw [ei]
  clear tl ei h5 hj
  refine W_exit ?_
  (refine sy1 ?_; try exact True.intro)
  repeat (first | refine WK_go ?_ | refine W_seqL ?_ | refine W_seq ?_ | refine W_block ?_ | refine W_scp ?_)
  refine W_regL ?_
  (refine sy1 ?_; try exact True.intro)
  repeat (first | refine WK_go ?_ | refine W_seqL ?_ | refine W_seq ?_ | refine W_block ?_ | refine W_scp ?_)
  refine W_regL ?_
  (refine sy1 ?_; try exact True.intro)
  refine W_le (le_adoptC 12 0 182 2 dV cV (by omega) _ rfl rfl (by simp)) ?_
  (refine sy1 ?_; try exact True.intro)
  repeat (first | refine WK_go ?_ | refine W_seqL ?_ | refine W_seq ?_ | refine W_block ?_ | refine W_scp ?_)
  refine W_regL ?_
  (refine sy1 ?_; try exact True.intro)
  refine CallC.inl (Inl_of_W mixed Xt136 rfl (fun vs => ?_))
  (refine sy1 ?_; try exact True.intro)
  repeat' (first | refine w1g ?_ | refine w1l ?_ | refine w1q ?_ | refine w1b ?_ | refine w1p ?_ | ((first | refine w1r ?_ | refine w1k ?_ | refine w1e ?_); (refine sy1 ?_; try exact True.intro)) | refine an2 ?_ | fail)
  refine ⟨rfl, trivial, Vis, dV, cV, [⟨fr, t⟩], rfl, by omega, fun x _ => ⟨rfl, rfl⟩, rfl, ?_⟩
  (refine sy1 ?_; try exact True.intro)
  refine ⟨rfl, ⟨Nat.le_of_ble_eq_true rfl, rfl⟩, trivial, [(⟨fr, t⟩ : Vis)], rfl, by simp, by simp, ?_⟩
  (refine sy1 ?_; try exact True.intro)
  refine ⟨_, _, rfl, rfl, ?_⟩
  (refine sy1 ?_; try exact True.intro)
  have hq0 : gv [(⟨fr, t⟩ : Vis)] 0 = ⟨fr, t⟩ := rfl
  have hOk0 : OkV [(⟨fr, t⟩ : Vis)] := fun i => by
    rcases i with _ | i
    · show 0 ≤ t ∧ t ≤ _; omega
    · show (0 : Int) ≤ 0 ∧ (0 : Int) ≤ _; omega
  have c139 := fn139 [⟨fr, t⟩] hOk0 (by simp) (by simp)
  have hm0 : mv [(⟨fr, t⟩ : Vis)] [(⟨fr, t⟩ : Vis)].length = ⟨fr, t⟩ := mv_one _
  rw [hm0] at c139
  have c141 := fn141 [⟨fr, t⟩] ⟨fr, t⟩ 0 (by simp) rfl (by simp)
  have hi0 : ixV [(⟨fr, t⟩ : Vis)] ⟨fr, t⟩ = 0 := by
    have := (ixV_ok (l := [(⟨fr, t⟩ : Vis)]) (v := ⟨fr, t⟩) (j := 0) (by simp) rfl).1
    simp at this; exact this
  rw [hi0] at c141
  repeat' (first | refine w1g ?_ | refine w1l ?_ | refine w1q ?_ | refine w1b ?_ | refine w1p ?_ | ((first | refine w1r ?_ | refine w1k ?_ | refine w1e ?_); (refine sy1 ?_; try exact True.intro)) | refine an2 ?_ | fail)
  refine CallC.inl (Inl_of_W mixed Xt137 rfl (fun vs2 => ?_))
  (refine sy1 ?_; try exact True.intro)
  repeat' (first | refine w1g ?_ | refine w1l ?_ | refine w1q ?_ | refine w1b ?_ | refine w1p ?_ | ((first | refine w1r ?_ | refine w1k ?_ | refine w1e ?_); (refine sy1 ?_; try exact True.intro)) | refine an2 ?_ | fail)
  refine W_cond (by rfl) (fun h => by cases h) (fun _ => ?_)
  repeat' (first | refine w1g ?_ | refine w1l ?_ | refine w1q ?_ | refine w1b ?_ | refine w1p ?_ | ((first | refine w1r ?_ | refine w1k ?_ | refine w1e ?_ | refine CallC.go _ (fun _ => ⟨trivial, c139⟩) rfl ?_ | refine CallC.go _ (fun _ => ⟨trivial, c141⟩) rfl ?_); (refine sy1 ?_; try exact True.intro)) | refine an2 ?_ | fail)
  refine CallC.inl (Inl_del (i := 0) rfl (by simp) ?_)
  simp (maxSteps := 400000) (disch := omega) only [push_cast, ↓reduceIte, reduceCtorEq, Nat.reduceAdd, Nat.reduceSub, Nat.reduceEqDiff, Nat.reduceLeDiff, Nat.reduceLT, Nat.reduceBEq, Nat.reduceDiv, Nat.reduceMod, Nat.reducePow, Nat.reduceMul, Int.reduceToNat, Int.reduceLT, Int.reduceLE, List.eraseIdx_cons_zero]
  repeat' (first | refine w1g ?_ | refine w1l ?_ | refine w1q ?_ | refine w1b ?_ | refine w1p ?_ | ((first | refine w1r ?_ | refine w1k ?_ | refine w1e ?_); (refine sy1 ?_; try exact True.intro)) | refine an2 ?_ | fail)
  refine W_ret ?_
  refine ⟨[_, _], _, ⟨⟨⟨trivial, Nat.le_of_eq rfl⟩, rfl⟩, rfl, rfl⟩, rfl, ?_⟩
  simp (maxSteps := 400000) (disch := omega) only [push_cast, ↓reduceIte, reduceCtorEq, Nat.reduceAdd, Nat.reduceSub, Nat.reduceEqDiff, Nat.reduceLeDiff, Nat.reduceLT, Nat.reduceBEq, Nat.reduceDiv, Nat.reduceMod, Nat.reducePow, Nat.reduceMul, Int.reduceToNat, Int.reduceLT, Int.reduceLE, pack]
  have hsn : ∀ x : Int, sn.getD x.toNat false = sn.getD x.toNat false := fun _ => rfl
  have hfr : ((fr.toNat : Nat) : Int) = fr := by omega
  have hD0 : DJ (tes m p m.rs.length) fr.toNat n t (List.replicate n (-1)) [⟨fr, t⟩] := by
    have := dj_ini (es := tes m p m.rs.length) (s := fr.toNat) (n := n) (t0 := t) hok (by omega)
    rwa [hfr] at this
  have hun0 : uns n (List.replicate n (-1)) ≤ n := uns_le _ _
  have hQ0 : QB n t (List.replicate n (-1)) [⟨fr, t⟩] := ⟨by simp only [List.length_cons, List.length_nil]; omega, fun x hx => by rw [List.mem_singleton] at hx; subst hx; show 0 ≤ t ∧ t + _ ≤ _; omega⟩
  refine w1b ?_
  refine W_loopU (fun q : LI => [(17, bv q.ok)]) (fun q => [(5, .row 0 2 1 0 cI q.o), (20, .row q.st 182 2 dV cV q.l), (12, .cells [.row 20 q.st]), (82, .cells (cV q.v))])
    (fun q => (q.ok = true → ∃ l0 j, j < l0.length ∧ q.v = gv l0 j ∧ q.l = l0.eraseIdx j ∧ (∀ x ∈ l0, q.v.t ≤ x.t) ∧ DJ (tes m p m.rs.length) fr.toNat n t q.o l0 ∧ QB n t q.o l0) ∧ (q.ok = false → DJ (tes m p m.rs.length) fr.toNat n t q.o [] ∧ q.l = []))
    (fun q => 1000 * uns n q.o + 2 * q.l.length + (if q.ok = true then 1 else 0)) ⟨List.replicate n (-1), [], ⟨fr, t⟩, true, 2⟩
    ⟨fun _ => ⟨[⟨fr, t⟩], 0, by simp, rfl, rfl, fun x hx => by rw [List.mem_singleton] at hx; subst hx; exact Int.le_refl _, hD0, hQ0⟩, fun z => by cases z⟩ (by rfl) (by rfl) (fun q hq => ?_)
  obtain ⟨o, l, v, okb, st⟩ := q
  dsimp only at hq ⊢
  obtain ⟨hq1, hq2⟩ := hq
  (refine sy1 ?_; try exact True.intro)
  repeat' (first | refine w1g ?_ | refine w1l ?_ | refine w1q ?_ | refine w1b ?_ | refine w1p ?_ | ((first | refine w1r ?_ | refine w1k ?_ | refine w1e ?_); (refine sy1 ?_; try exact True.intro)) | refine an2 ?_ | fail)
  refine W_cond (by rfl) (fun hb => ?_) (fun hb => ?_)
  rotate_left
  · obtain ⟨hD, hl0⟩ := hq2 hb
    obtain ⟨e1, e2⟩ := dj_end hok hD
    have := hun o e1 e2
    subst this
    repeat' (first | refine w1g ?_ | refine w1l ?_ | refine w1q ?_ | refine w1b ?_ | refine w1p ?_ | ((first | refine w1r ?_ | refine w1k ?_ | refine w1e ?_); (refine sy1 ?_; try exact True.intro)) | refine an2 ?_ | fail)
    exact W_ret ⟨_, _, ⟨rfl, rfl⟩, rfl⟩
  subst hb
  obtain ⟨l0, j, hj, rfl, rfl, hmin, hD, hQ⟩ := hq1 rfl
  clear hq1 hq2
  refine W_skip ?_
  (refine sy1 ?_; try exact True.intro)
  refine WK_go ?_
  have hvm : gv l0 j ∈ l0 := by simp [gv, List.getD, hj]
  obtain ⟨v1, v2, v3⟩ := hD.q _ hvm
  have hge := v3.ge hok ht.1
  have hov := hQ.okV (by omega) ht.2 j
  have hlo := hD.len
  refine W_seqM (fun s2 => ∃ o1 l1 st1, (DJ (tes m p m.rs.length) fr.toNat n t o1 l1 ∧ QB n t o1 l1 ∧ 1000 * uns n o1 + 2 * l1.length < 1000 * uns n o + 2 * (l0.eraseIdx j).length + 1) ∧ s2 = ⟨[(1, uv (msk s)), (4, .sl 1 false cB sn), (5, .fp (cAt m f) 0), (11, .row 5 0), (14, .cq 136 [.own 12 0] []), (15, .cq 137 [.own 12 0] []), (16, .own 82 0)], [(20, .row st1 182 2 dV cV l1), (5, .row 0 2 1 0 cI o1), (12, .cells [.row 20 st1]), (33, .row 0 182 2 dV cV [⟨fr, t⟩]), (41, .cells (cV ⟨fr, t⟩)), (54, .cells (cV ⟨fr, t⟩)), (82, .cells (cV (gv l0 j)))], 85⟩) ?_ ?_
  · obtain ⟨⟨vp, vt⟩, hV⟩ : ∃ V, gv l0 j = V := ⟨_, rfl⟩
    have hset := dj_take hok ht.1 hD hj (fun x hx => hmin x hx) (nw := nwL m p (o.set (gv l0 j).p.toNat (gv l0 j).t) (gv l0 j) m.rs.length)
    have hskip := dj_skip hD hj
    have hQs := fun h1 => QB.settle (m := m) h hQ hvm hlo v2 h1 hj (p := p) (o2 := o.set (gv l0 j).p.toNat (gv l0 j).t) (Nat.le_refl m.rs.length)
    have hach := hD.ach (gv l0 j).p.toNat v2
    have hQe := hQ.erase hj
    have v1 := v1; have v2 := v2; have v3 := v3; have hge := hge; have hov := hov
    rw [hV] at v1 v2 v3 hge hov hset hskip hQs hach
    have v1 : 0 ≤ vp := v1
    have v2 : vp.toNat < n := v2
    have hge : t ≤ vt := hge
    have hov : 0 ≤ vt ∧ vt ≤ 4398046511104 := hov
    have hskip : 0 ≤ gi o vp.toNat → DJ (tes m p m.rs.length) fr.toNat n t o (l0.eraseIdx j) := hskip
    have hach : gi o vp.toNat = -1 ∨ TW (tes m p m.rs.length) fr.toNat t vp.toNat (gi o vp.toNat) := hach
    have hset : gi o vp.toNat = -1 → _ → _ → DJ (tes m p m.rs.length) fr.toNat n t (o.set vp.toNat vt) (l0.eraseIdx j ++ nwL m p (o.set vp.toNat vt) ⟨vp, vt⟩ m.rs.length) := hset
    have hQs : gi o vp.toNat = -1 → QB n t (o.set vp.toNat vt) (l0.eraseIdx j ++ nwL m p (o.set vp.toNat vt) ⟨vp, vt⟩ m.rs.length) := hQs
    rw [hV]
    have gI : ∀ (l : List Int) i, l.getD i 0 = gi l i := fun _ _ => rfl
    repeat' (first | refine w1g ?_ | refine w1l ?_ | refine w1q ?_ | refine w1b ?_ | refine w1p ?_ | ((first | refine w1r ?_ | refine w1k ?_ | refine w1e ?_); simp (maxSteps := 400000) (disch := omega) only [push_cast, ↓reduceIte, reduceCtorEq, Nat.reduceAdd, Nat.reduceSub, Nat.reduceEqDiff, Nat.reduceLeDiff, Nat.reduceLT, Nat.reduceBEq, Nat.reduceDiv, Nat.reduceMod, Nat.reducePow, Nat.reduceMul, Int.reduceToNat, Int.reduceLT, Int.reduceLE, gI, cV, hlo]) | refine an2 ?_ | fail)
    refine W_condD (by rfl) (fun h7 => ?_) (fun h7 => ?_)
    · refine w1e ?_
      (refine sy1 ?_; try exact True.intro)
      exact ⟨_, le_norm [1, 4, 5, 11, 14, 15, 16] [20, 5, 12, 33, 41, 54, 82] 85 (by rfl), o, _, st, ⟨hskip h7, hQe, by omega⟩, by rfl⟩
    have h8 : gi o vp.toNat = -1 := by
      rcases hach with z | z
      · exact z
      · exact absurd (Int.le_trans ht.1 (z.ge hok ht.1)) h7
    have hD2 := hset h8 (fun x hx => nw_one h (v := ⟨vp, vt⟩) v1 x hx) (fun e he h1 h2 => nw_two h (v := ⟨vp, vt⟩) v1 e he h1 h2)
    have hQ2 := hQs h8
    have hun2 := uns_set hlo v2 h8 (t := vt) (by omega)
    have hl2 := nwL_len m p (o.set vp.toNat vt) ⟨vp, vt⟩ m.rs.length
    have hlen0 := hQ.len
    have hle0 : (l0.eraseIdx j).length = l0.length - 1 := by rw [List.length_eraseIdx, if_pos hj]
    have hlo2 : (o.set vp.toNat vt).length = n := by rw [List.length_set]; exact hlo
    generalize l0.eraseIdx j = l1 at *
    repeat' (first | refine w1g ?_ | refine w1l ?_ | refine w1q ?_ | refine w1b ?_ | refine w1p ?_ | ((first | refine w1r ?_ | refine w1k ?_ | refine w1e ?_); simp (maxSteps := 400000) (disch := omega) only [push_cast, ↓reduceIte, reduceCtorEq, Nat.reduceAdd, Nat.reduceSub, Nat.reduceEqDiff, Nat.reduceLeDiff, Nat.reduceLT, Nat.reduceBEq, Nat.reduceDiv, Nat.reduceMod, Nat.reducePow, Nat.reduceMul, Int.reduceToNat, Int.reduceLT, Int.reduceLE, gI, hlo]) | refine an2 ?_ | fail)
    refine ⟨rfl, ⟨Nat.le_of_ble_eq_true rfl, rfl⟩, by omega, vt, rfl, rfl, ?_⟩
    generalize o.set vp.toNat vt = o2 at *
    (refine sy1 ?_; try exact True.intro)
    repeat' (first | refine w1g ?_ | refine w1l ?_ | refine w1q ?_ | refine w1b ?_ | refine w1p ?_ | ((first | refine w1r ?_ | refine w1k ?_ | refine w1e ?_); (refine sy1 ?_; try exact True.intro)) | refine an2 ?_ | fail)
    refine W_loopU (fun i : Nat => [(71, iv i)]) (fun i => [(20, .row (st + (nwL m p o2 ⟨vp, vt⟩ i).length) 182 2 dV cV (l1 ++ nwL m p o2 ⟨vp, vt⟩ i)), (12, .cells [.row 20 (st + (nwL m p o2 ⟨vp, vt⟩ i).length)])]) (fun i => i ≤ m.rs.length) (fun i => m.rs.length - i) 0 (by omega) (by rfl) (by simp only [nwL, List.range_zero, List.filter_nil, List.map_nil, List.append_nil]; rfl) (fun i hi => ?_)
    have hns := nwL_succ m p o2 ⟨vp, vt⟩ i
    have hnl := nwL_len m p o2 ⟨vp, vt⟩ i
    have hll : (l1 ++ nwL m p o2 ⟨vp, vt⟩ i).length ≤ 100000 := by rw [List.length_append]; omega
    (refine sy1 ?_; try exact True.intro)
    repeat' (first | refine w1g ?_ | refine w1l ?_ | refine w1q ?_ | refine w1b ?_ | refine w1p ?_ | ((first | refine w1r ?_ | refine w1k ?_ | refine w1e ?_); (refine sy1 ?_; try exact True.intro)) | refine an2 ?_ | fail)
    refine W_condD (by rfl) (fun h9 => ?_) (fun h9 => ?_)
    rotate_left
    · have hir : i = m.rs.length := by omega
      subst hir
      refine w1e ?_
      (refine sy1 ?_; try exact True.intro)
      exact ⟨_, le_norm [1, 4, 5, 11, 14, 15, 16] [20, 5, 12, 33, 41, 54, 82] 85 (by rfl), o2, _, _, ⟨hD2, hQ2, by rw [List.length_append]; omega⟩, by rfl⟩
    have hlt : i < m.rs.length := by omega
    have ok := roadB_ok (h.r i hlt)
    have ofr := ok.f; have otr := ok.t
    have hgr : m.rs.getD i dR = gr m i := rfl
    have c64 := fn64 m f s (msk s) i h (setW_msk hs) hlt
    have c93 := fn93 m.n (gr m i) vt ok (by omega)
    have hnb : nwB m p o2 ⟨vp, vt⟩ i = ((gr m i).f == vp && decide (gi o2 (gr m i).t.toNat < 0) && p i) := rfl
    have hpi := hgo i
    have hnv : nwV m ⟨vp, vt⟩ i = ⟨(gr m i).t, lvT (gr m i) vt⟩ := rfl
    have hys : l1 ++ nwL m p o2 ⟨vp, vt⟩ (i + 1) = if nwB m p o2 ⟨vp, vt⟩ i = true then (l1 ++ nwL m p o2 ⟨vp, vt⟩ i) ++ [nwV m ⟨vp, vt⟩ i] else l1 ++ nwL m p o2 ⟨vp, vt⟩ i := by
      rw [hns]; split
      · rw [List.append_assoc]
      · rfl
    have hyn : (nwL m p o2 ⟨vp, vt⟩ (i + 1)).length = if nwB m p o2 ⟨vp, vt⟩ i = true then (nwL m p o2 ⟨vp, vt⟩ i).length + 1 else (nwL m p o2 ⟨vp, vt⟩ i).length := by
      rw [hns]; split
      · rw [List.length_append]; rfl
      · rfl
    rw [hnv] at hys
    generalize l1 ++ nwL m p o2 ⟨vp, vt⟩ i = Z at *
    generalize (nwL m p o2 ⟨vp, vt⟩ i).length = KL at *
    generalize lvT (gr m i) vt = TV at *
    generalize usB m f s i = U at *
    generalize hO : gi o2 (gr m i).t.toNat = OT at *
    have hO2 : o2.getD (gr m i).t.toNat 0 = OT := hO
    generalize hS : sn.getD (gr m i).t.toNat false = ST at *
    repeat' (first | refine w1g ?_ | refine w1l ?_ | refine w1q ?_ | refine w1b ?_ | refine w1p ?_ | ((first | refine w1r ?_ | refine w1k ?_ | refine w1e ?_ | refine CallC.go _ (fun _ => ⟨trivial, c64⟩) rfl ?_); simp (maxSteps := 400000) (disch := omega) only [push_cast, ↓reduceIte, reduceCtorEq, Nat.reduceAdd, Nat.reduceSub, Nat.reduceEqDiff, Nat.reduceLeDiff, Nat.reduceLT, Nat.reduceBEq, Nat.reduceDiv, Nat.reduceMod, Nat.reducePow, Nat.reduceMul, Int.reduceToNat, Int.reduceLT, Int.reduceLE, hgr, hO2, hlo2, hS, hl]) | refine an2 ?_ | fail)
    have hnb2 : nwB m p o2 ⟨vp, vt⟩ i = ((gr m i).f == vp && decide (OT < 0) && !ST && U) := by
      rw [hnb, hpi]
      cases ((gr m i).f == vp) <;> cases decide (OT < 0) <;> cases ST <;> cases U <;> rfl
    refine W_cond (by rfl) (fun hc => ?_) (fun hc => ?_)
    · rw [hc] at hnb2
      rw [if_pos hnb2] at hys hyn
      repeat' (first | refine w1g ?_ | refine w1l ?_ | refine w1q ?_ | refine w1b ?_ | refine w1p ?_ | ((first | refine W_regS 8 (by decide) (by decide) ?_ | refine w1r ?_ | refine w1k ?_ | refine w1e ?_ | refine CallC.now (c93) ?_); simp (maxSteps := 400000) (disch := omega) only [push_cast, ↓reduceIte, reduceCtorEq, Nat.reduceAdd, Nat.reduceSub, Nat.reduceEqDiff, Nat.reduceLeDiff, Nat.reduceLT, Nat.reduceBEq, Nat.reduceDiv, Nat.reduceMod, Nat.reducePow, Nat.reduceMul, Int.reduceToNat, Int.reduceLT, Int.reduceLE, hgr]) | refine an2 ?_ | (refine CallC.inl (Inl_of_W mixed Xt136 rfl (fun vs3 => ?_)); simp (maxSteps := 400000) (disch := omega) only [push_cast, ↓reduceIte, reduceCtorEq, Nat.reduceAdd, Nat.reduceSub, Nat.reduceEqDiff, Nat.reduceLeDiff, Nat.reduceLT, Nat.reduceBEq, Nat.reduceDiv, Nat.reduceMod, Nat.reducePow, Nat.reduceMul, Int.reduceToNat, Int.reduceLT, Int.reduceLE, hgr]) | fail)
      refine ⟨rfl, trivial, Vis, dV, cV, [⟨(gr m i).t, TV⟩], rfl, by omega, fun x _ => ⟨rfl, rfl⟩, rfl, ?_⟩
      (refine sy1 ?_; try exact True.intro)
      refine ⟨rfl, ⟨Nat.le_of_ble_eq_true rfl, rfl⟩, trivial, [(⟨(gr m i).t, TV⟩ : Vis)], rfl, by first | omega | (simp; omega), by first | omega | (simp; omega), ?_⟩
      (refine sy1 ?_; try exact True.intro)
      refine ⟨_, _, rfl, rfl, ?_⟩
      (refine sy1 ?_; try exact True.intro)
      repeat' (first | refine w1g ?_ | refine w1l ?_ | refine w1q ?_ | refine w1b ?_ | refine w1p ?_ | ((first | refine w1r ?_ | refine w1k ?_ | refine w1e ?_); (refine sy1 ?_; try exact True.intro)) | refine an2 ?_ | fail)
      refine ⟨i + 1, by omega, by omega, by rfl, ?_⟩
      rw [hys, hyn]
      simp (maxSteps := 400000) (disch := omega) only [push_cast, ↓reduceIte, reduceCtorEq, Nat.reduceAdd, Nat.reduceSub, Nat.reduceEqDiff, Nat.reduceLeDiff, Nat.reduceLT, Nat.reduceBEq, Nat.reduceDiv, Nat.reduceMod, Nat.reducePow, Nat.reduceMul, Int.reduceToNat, Int.reduceLT, Int.reduceLE, S.mk.injEq, List.cons.injEq, Prod.mk.injEq, AV.v.injEq, Value.int.injEq, Value.bool.injEq, Blk.cells.injEq, Nat.add_assoc]
    · rw [hc] at hnb2
      rw [if_neg (by rw [hnb2]; simp)] at hys hyn
      repeat' (first | refine w1g ?_ | refine w1l ?_ | refine w1q ?_ | refine w1b ?_ | refine w1p ?_ | ((first | refine w1r ?_ | refine w1k ?_ | refine w1e ?_); (refine sy1 ?_; try exact True.intro)) | refine an2 ?_ | fail)
      refine ⟨i + 1, by omega, by omega, by rfl, ?_⟩
      rw [hys, hyn]
      (refine syE ?_; try exact True.intro)
  · rintro s2 ⟨o1, l1, st1, ⟨hD1, hQ1, hmu⟩, rfl⟩
    repeat (first | refine WK_go ?_ | refine W_seqL ?_ | refine W_seq ?_ | refine W_block ?_ | refine W_scp ?_)
    refine W_regL ?_
    (refine sy1 ?_; try exact True.intro)
    repeat (first | refine WK_go ?_ | refine W_seqL ?_ | refine W_seq ?_ | refine W_block ?_ | refine W_scp ?_)
    refine W_regL ?_
    (refine sy1 ?_; try exact True.intro)
    refine WK_go ?_
    refine W_le (le_moveE 16 82 86 [1, 4, 5, 11, 14, 15] [20, 5, 12, 33, 41, 54] 83 (cV (gv l0 j)) (by rfl) (by rfl) (by rfl) (by rfl) (by rfl) (by rfl) (by rfl) (by rfl) (by omega)) ?_
    simp (maxSteps := 400000) (disch := omega) only [push_cast, ↓reduceIte, reduceCtorEq, Nat.reduceAdd, Nat.reduceSub, Nat.reduceEqDiff, Nat.reduceLeDiff, Nat.reduceLT, Nat.reduceBEq, Nat.reduceDiv, Nat.reduceMod, Nat.reducePow, Nat.reduceMul, Int.reduceToNat, Int.reduceLT, Int.reduceLE, keepM, List.cons_append, List.nil_append]
    rcases Nat.eq_zero_or_pos l1.length with hl1 | hl1
    · have hle : l1 = [] := List.length_eq_zero_iff.1 hl1
      subst hle
      repeat' (first | refine w1g ?_ | refine w1l ?_ | refine w1q ?_ | refine w1b ?_ | refine w1p ?_ | ((first | refine w1r ?_ | refine w1k ?_ | refine w1e ?_); (refine sy1 ?_; try exact True.intro)) | refine an2 ?_ | (refine CallC.inl (Inl_of_W mixed Xt137 rfl (fun vs4 => ?_)); (refine sy1 ?_; try exact True.intro)) | fail)
      refine W_cond (by rfl) (fun _ => ?_) (fun h => by cases h)
      repeat' (first | refine w1g ?_ | refine w1l ?_ | refine w1q ?_ | refine w1b ?_ | refine w1p ?_ | ((first | refine w1r ?_ | refine w1k ?_ | refine w1e ?_); (refine sy1 ?_; try exact True.intro)) | refine an2 ?_ | fail)
      refine W_ret ?_
      refine ⟨[_, _], _, ⟨⟨⟨trivial, Nat.le_of_eq rfl⟩, rfl⟩, rfl, rfl⟩, rfl, ?_⟩
      simp (maxSteps := 400000) (disch := omega) only [push_cast, ↓reduceIte, reduceCtorEq, Nat.reduceAdd, Nat.reduceSub, Nat.reduceEqDiff, Nat.reduceLeDiff, Nat.reduceLT, Nat.reduceBEq, Nat.reduceDiv, Nat.reduceMod, Nat.reducePow, Nat.reduceMul, Int.reduceToNat, Int.reduceLT, Int.reduceLE, pack]
      refine ⟨⟨o1, [], dV, false, st1⟩, ⟨fun z => (by cases z), fun _ => ⟨hD1, rfl⟩⟩, ?_, by rfl, ?_⟩
      · dsimp only
        simp only [List.length_nil, if_true, Bool.false_eq_true, if_false] at hmu ⊢
        omega
      · dsimp only
        (refine syE ?_; try exact True.intro)
        rfl
    · have hOk := hQ1.okV (by omega) ht.2
      have hq1 := hQ1.len
      have hu1 := uns_le n o1
      have c139 := fn139 l1 hOk hl1 (by omega)
      obtain ⟨j1, hj1, hm1⟩ := mv_mem l1 l1.length (Nat.le_refl _) hl1
      have c141 := fn141 l1 (mv l1 l1.length) j1 hj1 hm1 (by omega)
      obtain ⟨x1, x2, _⟩ := ixV_ok hj1 hm1
      have hmn := fun x hx => mv_min (l := l1) x hx
      generalize ixV l1 (mv l1 l1.length) = IX at *
      generalize mv l1 l1.length = MV at *
      have hel : (l1.eraseIdx IX).length = l1.length - 1 := by rw [List.length_eraseIdx, if_pos x1]
      have hne0 : ((l1.length : Int) == 0) = false := by rw [beq_eq_false_iff_ne]; omega
      repeat' (first | refine w1g ?_ | refine w1l ?_ | refine w1q ?_ | refine w1b ?_ | refine w1p ?_ | ((first | refine w1r ?_ | refine w1k ?_ | refine w1e ?_); simp (maxSteps := 400000) (disch := omega) only [push_cast, ↓reduceIte, reduceCtorEq, Nat.reduceAdd, Nat.reduceSub, Nat.reduceEqDiff, Nat.reduceLeDiff, Nat.reduceLT, Nat.reduceBEq, Nat.reduceDiv, Nat.reduceMod, Nat.reducePow, Nat.reduceMul, Int.reduceToNat, Int.reduceLT, Int.reduceLE, hne0]) | refine an2 ?_ | (refine CallC.inl (Inl_of_W mixed Xt137 rfl (fun vs4 => ?_)); simp (maxSteps := 400000) (disch := omega) only [push_cast, ↓reduceIte, reduceCtorEq, Nat.reduceAdd, Nat.reduceSub, Nat.reduceEqDiff, Nat.reduceLeDiff, Nat.reduceLT, Nat.reduceBEq, Nat.reduceDiv, Nat.reduceMod, Nat.reducePow, Nat.reduceMul, Int.reduceToNat, Int.reduceLT, Int.reduceLE, hne0]) | fail)
      refine W_cond (by rfl) (fun h => by cases h) (fun _ => ?_)
      repeat' (first | refine w1g ?_ | refine w1l ?_ | refine w1q ?_ | refine w1b ?_ | refine w1p ?_ | ((first | refine w1r ?_ | refine w1k ?_ | refine w1e ?_ | refine CallC.go _ (fun _ => ⟨trivial, c139⟩) rfl ?_ | refine CallC.go _ (fun _ => ⟨trivial, c141⟩) rfl ?_); (refine sy1 ?_; try exact True.intro)) | refine an2 ?_ | fail)
      refine CallC.inl (Inl_del (i := IX) rfl x1 ?_)
      (refine sy1 ?_; try exact True.intro)
      repeat' (first | refine w1g ?_ | refine w1l ?_ | refine w1q ?_ | refine w1b ?_ | refine w1p ?_ | ((first | refine w1r ?_ | refine w1k ?_ | refine w1e ?_); (refine sy1 ?_; try exact True.intro)) | refine an2 ?_ | fail)
      refine W_ret ?_
      refine ⟨[_, _], _, ⟨⟨⟨trivial, Nat.le_of_eq rfl⟩, rfl⟩, rfl, rfl⟩, rfl, ?_⟩
      simp (maxSteps := 400000) (disch := omega) only [push_cast, ↓reduceIte, reduceCtorEq, Nat.reduceAdd, Nat.reduceSub, Nat.reduceEqDiff, Nat.reduceLeDiff, Nat.reduceLT, Nat.reduceBEq, Nat.reduceDiv, Nat.reduceMod, Nat.reducePow, Nat.reduceMul, Int.reduceToNat, Int.reduceLT, Int.reduceLE, pack]
      refine ⟨⟨o1, l1.eraseIdx IX, MV, true, st1 + 1⟩, ⟨fun _ => ⟨l1, IX, x1, x2.symm, rfl, hmn, hD1, hQ1⟩, fun z => (by cases z)⟩, ?_, by rfl, ?_⟩
      · dsimp only
        rw [hel]
        simp only [if_true] at hmu ⊢
        omega
      · dsimp only
        try (refine syE ?_; try exact True.intro)
end Go.Proofs.Ytfbdlmenhoagmaa

namespace Go.Proofs.Ytfbdlmenhoagmaa
open Go Sy
set_option maxRecDepth 100000
set_option maxHeartbeats 4000000
set_option linter.unusedVariables false
set_option linter.unusedSimpArgs false
theorem fw109 (m : Mp) (f : Nat → Int) (s : List Int) (fr t : Int) (sn : List Bool) (h : OkM m) (hs : Srt m.ws.length 0 s) (hf : 0 ≤ fr ∧ fr < m.n) (ht : 0 ≤ t ∧ t ≤ 2199023255552) (hl : (sn.length : Int) = m.n) : FnN Try.prog 109 [aAt m f, uv (msk s), iv fr, iv t, .sl 1 false cB sn] (aI (labT m f s (fun x => sn.getD x.toNat false) fr t)) :=
  FnN_of_W mixed Xs109 rfl (W_mono' (w109 m f s fr t sn h hs hf ht hl) (finN_of_finO fun x _ => rfl))
def snL (n : Nat) (S : List Int) : List Bool := (List.range n).map fun y : Nat => inS S y
theorem snL_len (n : Nat) (S : List Int) : (snL n S).length = n := by simp [snL]
theorem snL_nil (n : Nat) : List.replicate n false = snL n [] := by
  apply List.ext_getElem (by simp [snL])
  intro i h1 h2
  simp [snL, inS]
theorem snL_get {n : Nat} {S : List Int} {x : Int} (hx : 0 ≤ x ∧ x < n) : (snL n S).getD x.toNat false = inS S x := by
  have h : x.toNat < n := by omega
  have e : ((x.toNat : Nat) : Int) = x := by omega
  simp [snL, List.getD, h, e]
theorem snL_set {n : Nat} {S : List Int} {a : Int} (ha : 0 ≤ a ∧ a < n) : (snL n S).set a.toNat true = snL n (S ++ [a]) := by
  apply List.ext_getElem (by simp [snL])
  intro i h1 h2
  rw [List.getElem_set]
  split
  · rename_i q
    simp only [snL, List.getElem_map, List.getElem_range, inS]
    rw [decide_eq_true]
    rw [show ((i : Nat) : Int) = a by omega]; simp
  · rename_i q
    have : ¬ ((i : Nat) : Int) = a := by omega
    simp [snL, inS, this]
theorem labT_sn {m : Mp} (h : OkM m) (f : Nat → Int) (s : List Int) {n : Nat} (hn : m.n = n) (S : List Int) (fr t : Int) : labT m f s (fun x => (snL n S).getD x.toNat false) fr t = labT m f s (inS S) fr t :=
  labT_congr (fun i hi => snL_get (by have := (roadB_ok (h.r i hi)).t; omega)) fr t
theorem labT_nil (m : Mp) (f : Nat → Int) (s : List Int) (fr t : Int) : labT m f s (inS []) fr t = labT m f s noP fr t := labT_congr (fun i _ => by simp [inS, noP]) fr t
theorem fn47 (m : Mp) (f : Nat → Int) (s : List Int) (fr t : Int) (hm : Gm m) (hl : s.length ≤ 1000000) : Sy.Fn Try.prog 47 [aM m, .agg (c6 f), aI s, iv fr, iv t] (.tup [aI (lbV m f s fr t), iv (dpE m f s fr fr t)]) := by
  refine Fn_of_W mixed Xt47 rfl ?_
  have c108 := fn108 m f s fr fr t hm hl
  have hv : opV m f = cAt m f ∨ opV m f = zAt := by
    unfold opV
    split
    · exact .inl rfl
    · exact .inr rfl
  by_cases h0 : dpE m f s fr fr t = 0
  rotate_left
  · have e1 : lbV m f s fr t = [] := by unfold lbV; rw [if_neg h0]
    rw [e1]
    generalize dpE m f s fr fr t = e at *
    rcases hv with hv | hv
    all_goals
      rw [hv] at c108
      try unfold zAt at c108
      repeat' (first | refine w1g ?_ | refine w1l ?_ | refine w1q ?_ | refine w1b ?_ | refine w1p ?_ | ((first | refine w1r ?_ | refine w1k ?_ | refine w1e ?_ | refine CallC.now (c108) ?_); (refine sy1 ?_; try exact True.intro)) | refine an2 ?_ | fail)
      refine W_cond (by rfl) (fun h => ?_) (fun h => absurd (by simpa using h) h0)
      repeat' (first | refine w1g ?_ | refine w1l ?_ | refine w1q ?_ | refine w1b ?_ | refine w1p ?_ | ((first | refine w1r ?_ | refine w1k ?_ | refine w1e ?_); (refine sy1 ?_; try exact True.intro)) | refine an2 ?_ | fail)
      refine W_le (le_nil 10 1 0 cI rfl) ?_
      exact W_ret ⟨[_, _], ⟨rfl, rfl, rfl⟩, rfl⟩
  have D := dep_of h0
  have hok := chkM_ok D.hc
  have hn := hok.n
  have hnr := hok.nr
  obtain ⟨n, hnn⟩ : ∃ n : Nat, m.n = n := ⟨m.n.toNat, by omega⟩
  have hvo : opV m f = cAt m f := by unfold opV; rw [if_pos D.hc]
  have e1 : lbV m f s fr t = labT m f s noP fr t := by unfold lbV; rw [if_pos h0]
  have c76 := fn76 s m.ws.length hok.nw D.hs
  have c109 := fw109 m f s fr t (List.replicate n false) hok D.hs D.hf (by have := D.ha; omega) (by rw [List.length_replicate]; omega)
  rw [snL_nil, labT_sn hok f s hnn, labT_nil, ← snL_nil] at c109
  rw [h0, hvo] at c108
  rw [e1, h0]
  generalize labT m f s noP fr t = LB at *
  generalize msk s = ME at *
  repeat' (first | refine w1g ?_ | refine w1l ?_ | refine w1q ?_ | refine w1b ?_ | refine w1p ?_ | ((first | refine w1r ?_ | refine w1k ?_ | refine w1e ?_ | refine CallC.now (c108) ?_); (refine sy1 ?_; try exact True.intro)) | refine an2 ?_ | fail)
  refine W_cond (by rfl) (fun h => by cases h) (fun _ => ?_)
  repeat' (first | refine w1g ?_ | refine w1l ?_ | refine w1q ?_ | refine w1b ?_ | refine w1p ?_ | ((first | refine w1r ?_ | refine w1k ?_ | refine w1e ?_ | refine CallC.go _ (fun _ => ⟨trivial, c76⟩) rfl ?_); simp (maxSteps := 400000) (disch := omega) only [push_cast, ↓reduceIte, reduceCtorEq, Nat.reduceAdd, Nat.reduceSub, Nat.reduceEqDiff, Nat.reduceLeDiff, Nat.reduceLT, Nat.reduceBEq, Nat.reduceDiv, Nat.reduceMod, Nat.reducePow, Nat.reduceMul, Int.reduceToNat, Int.reduceLT, Int.reduceLE, hnn]) | refine an2 ?_ | fail)
  refine ⟨rfl, ⟨by omega, by omega, by omega⟩, Bool, false, cB, false, rfl, rfl, by omega, rfl, ?_⟩
  simp (maxSteps := 400000) (disch := omega) only [push_cast, ↓reduceIte, reduceCtorEq, Nat.reduceAdd, Nat.reduceSub, Nat.reduceEqDiff, Nat.reduceLeDiff, Nat.reduceLT, Nat.reduceBEq, Nat.reduceDiv, Nat.reduceMod, Nat.reducePow, Nat.reduceMul, Int.reduceToNat, Int.reduceLT, Int.reduceLE, Int.toNat_natCast]
  refine CallC.new _ (fun _ => ⟨trivial, c109⟩) ?_
  (refine sy1 ?_; try exact True.intro)
  repeat' (first | refine w1g ?_ | refine w1l ?_ | refine w1q ?_ | refine w1b ?_ | refine w1p ?_ | ((first | refine w1r ?_ | refine w1k ?_ | refine w1e ?_); (refine sy1 ?_; try exact True.intro)) | refine an2 ?_ | fail)
  exact W_ret ⟨[_, _], ⟨rfl, rfl, rfl⟩, rfl⟩
end Go.Proofs.Ytfbdlmenhoagmaa

namespace Go.Proofs.Ytfbdlmenhoagmaa
open Go Sy
set_option maxRecDepth 100000
set_option maxHeartbeats 4000000
set_option linter.unusedVariables false
set_option linter.unusedSimpArgs false
def soU (m : Mp) (f : Nat → Int) (s : List Int) (fr to t : Int) : Int := gi (labT m f s noP fr t) to.toNat
def soE (m : Mp) (f : Nat → Int) (s : List Int) (fr to t : Int) : Int := if dpE m f s fr to t = 0 then (if soU m f s fr to t < 0 then 15 else 0) else dpE m f s fr to t
def soR (m : Mp) (f : Nat → Int) (s : List Int) (fr to t : Int) : List Int := if soE m f s fr to t = 0 then soW m f s to (soU m f s fr to t) (m.n.toNat + 1) [fr] fr t else []
def soT (m : Mp) (f : Nat → Int) (s : List Int) (fr to t : Int) : Int := if soE m f s fr to t = 0 then soU m f s fr to t else 0
structure SQ where
  k : Nat
  S : List Int
  a : Int
  t : Int
  o : List Int
structure SQok (m : Mp) (f : Nat → Int) (s : List Int) (fr to t0 e : Int) (R : List Int) (q : SQ) : Prop where
  i : SoI m f s to e t0 q.S q.a q.t
  u : unS m.n.toNat q.S < q.k
  w : q.o ++ soW m f s to e q.k q.S q.a q.t = R
  l : q.S.length + q.k ≤ 66
  n : q.o.length + q.k ≤ 66
theorem sq_ini {m : Mp} (h : OkM m) {f : Nat → Int} {s : List Int} {fr to t : Int} (hf : 0 ≤ fr ∧ fr < m.n) (ht : 0 ≤ t) : SQok m f s fr to t (soU m f s fr to t) (soW m f s to (soU m f s fr to t) (m.n.toNat + 1) [fr] fr t) ⟨m.n.toNat + 1, [fr], fr, t, []⟩ := by
  have hn := h.n
  refine ⟨so_first h hf ht, ?_, List.nil_append _, ?_, ?_⟩
  · have := List.countP_le_length (p := fun y : Nat => !inS [fr] y) (l := List.range m.n.toNat)
    rw [List.length_range] at this
    exact Nat.lt_succ_of_le this
  · show 1 + (m.n.toNat + 1) ≤ 66; omega
  · show 0 + (m.n.toNat + 1) ≤ 66; omega
theorem sq_end {m : Mp} {f : Nat → Int} {s : List Int} {fr to t0 e : Int} {R : List Int} {q : SQ} (h : SQok m f s fr to t0 e R q) (hat : q.a = to) : q.o = R := by
  have h1 := h.w
  have h2 := h.u
  obtain ⟨k', hk⟩ : ∃ k', q.k = k' + 1 := ⟨q.k - 1, by omega⟩
  clear h h2
  obtain ⟨k, S, a, t, o⟩ := q
  dsimp only at hk h1 hat ⊢
  subst hk
  simp only [soW] at h1
  rw [if_pos hat, List.append_nil] at h1
  exact h1
theorem sq_next {m : Mp} (h : OkM m) {f : Nat → Int} {s : List Int} {fr to t0 e : Int} {R : List Int} {q : SQ} (hto : 0 ≤ to ∧ to < m.n) (he : 0 ≤ e) (hq : SQok m f s fr to t0 e R q) (hne : q.a ≠ to) :
    ∃ x, x < m.rs.length ∧ soH m f s to e q.S q.a q.t x = true ∧ (∀ j, j < x → soH m f s to e q.S q.a q.t j = false) ∧ SQok m f s fr to t0 e R ⟨q.k - 1, q.S ++ [(gr m x).t], (gr m x).t, lvT (gr m x) q.t, q.o ++ [(x : Int)]⟩ := by
  obtain ⟨h1, h2, h3, h4, h5⟩ := so_next h hto he hq.i hne
  refine ⟨_, h1, h2, h3, h5, ?_, ?_, ?_, ?_⟩
  · have := hq.u
    exact Nat.lt_of_lt_of_le h4 (Nat.le_sub_one_of_lt this)
  · have hw := hq.w
    have hu := hq.u
    obtain ⟨k', hk⟩ : ∃ k', q.k = k' + 1 := ⟨q.k - 1, by omega⟩
    clear hu hq h1 h2 h3 h4 h5
    obtain ⟨k, S, a, t, o⟩ := q
    dsimp only at hk hw hne ⊢
    subst hk
    simp only [soW] at hw
    rw [if_neg hne] at hw
    rw [List.append_assoc, ← hw]
    rfl
  · have := hq.l; have := hq.u
    show (q.S ++ [_]).length + (q.k - 1) ≤ 66
    rw [List.length_append]; simp only [List.length_singleton]; omega
  · have := hq.n; have := hq.u
    show (q.o ++ [_]).length + (q.k - 1) ≤ 66
    rw [List.length_append]; simp only [List.length_singleton]; omega
theorem fst_at {p : Nat → Bool} {i x : Nat} (h1 : p x = true) (h2 : ∀ j, j < x → p j = false) (h3 : p i = true) (h4 : ∀ j, j < i → p j = false) : i = x := by
  rcases Nat.lt_trichotomy i x with q | q | q
  · rw [h2 i q] at h3; cases h3
  · exact q
  · rw [h4 x q] at h1; cases h1
end Go.Proofs.Ytfbdlmenhoagmaa

namespace Go.Proofs.Ytfbdlmenhoagmaa
open Go Sy
set_option maxRecDepth 100000
set_option maxHeartbeats 4000000
set_option linter.unusedVariables false
set_option linter.unusedSimpArgs false
theorem fn45 (m : Mp) (f : Nat → Int) (s : List Int) (fr to t : Int) (hm : Gm m) (hl : s.length ≤ 1000000) : Sy.Fn Try.prog 45 [aM m, .agg (c6 f), aI s, iv fr, iv to, iv t] (.tup [aI (soR m f s fr to t), iv (soT m f s fr to t), iv (soE m f s fr to t)]) := by
  refine Fn_of_W mixed Xt45 rfl ?_
  have c108 := fn108 m f s fr to t hm hl
  have hv : opV m f = cAt m f ∨ opV m f = zAt := by
    unfold opV
    split
    · exact .inl rfl
    · exact .inr rfl
  by_cases h0 : dpE m f s fr to t = 0
  rotate_left
  · have e1 : soE m f s fr to t = dpE m f s fr to t := by unfold soE; rw [if_neg h0]
    have e2 : soR m f s fr to t = [] := by unfold soR; rw [e1, if_neg h0]
    have e3 : soT m f s fr to t = 0 := by unfold soT; rw [e1, if_neg h0]
    rw [e1, e2, e3]
    generalize dpE m f s fr to t = e at *
    rcases hv with hv | hv
    all_goals
      rw [hv] at c108
      try unfold zAt at c108
      repeat' (first | refine w1g ?_ | refine w1l ?_ | refine w1q ?_ | refine w1b ?_ | refine w1p ?_ | ((first | refine w1r ?_ | refine w1k ?_ | refine w1e ?_ | refine CallC.now (c108) ?_); (refine sy1 ?_; try exact True.intro)) | refine an2 ?_ | fail)
      refine W_cond (by rfl) (fun h => ?_) (fun h => absurd (by simpa using h) h0)
      repeat' (first | refine w1g ?_ | refine w1l ?_ | refine w1q ?_ | refine w1b ?_ | refine w1p ?_ | ((first | refine w1r ?_ | refine w1k ?_ | refine w1e ?_); (refine sy1 ?_; try exact True.intro)) | refine an2 ?_ | fail)
      refine W_le (le_nil 12 1 0 cI rfl) ?_
      exact W_ret ⟨[_, _, _], ⟨rfl, rfl, rfl, rfl⟩, rfl⟩
  have D := dep_of h0
  have hok := chkM_ok D.hc
  have hn := hok.n
  have hnr := hok.nr
  have hfr := D.hf
  have hto := D.ht
  have hta := D.ha
  have hss := D.hs
  obtain ⟨n, hnn⟩ : ∃ n : Nat, m.n = n := ⟨m.n.toNat, by omega⟩
  have hvo : opV m f = cAt m f := by unfold opV; rw [if_pos D.hc]
  have c76 := fn76 s m.ws.length hok.nw hss
  have c109 := fw109 m f s fr t (List.replicate n false) hok hss hfr (by omega) (by rw [List.length_replicate]; omega)
  rw [snL_nil, labT_sn hok f s hnn, labT_nil, ← snL_nil] at c109
  have hll : ∀ (sk : Int → Bool) (a t : Int), 0 ≤ a ∧ a < m.n → 0 ≤ t → (labT m f s sk a t).length = m.n.toNat := fun sk a t ha ht => (labT_ok hok f s sk ha ht).1.len
  have hl0 := hll noP fr t hfr hta.1
  have hU : (labT m f s noP fr t).getD to.toNat 0 = soU m f s fr to t := rfl
  rw [h0, hvo] at c108
  have E1 : soE m f s fr to t = if soU m f s fr to t < 0 then 15 else 0 := by unfold soE; rw [if_pos h0]
  have hI := sq_ini hok (f := f) (s := s) (to := to) hfr hta.1
  have E2 : soE m f s fr to t = 0 → soR m f s fr to t = soW m f s to (soU m f s fr to t) (m.n.toNat + 1) [fr] fr t ∧ soT m f s fr to t = soU m f s fr to t := fun q => ⟨by unfold soR; rw [if_pos q], by unfold soT; rw [if_pos q]⟩
  have E3 : soE m f s fr to t = 15 → soR m f s fr to t = [] ∧ soT m f s fr to t = 0 := fun q => ⟨by unfold soR; rw [if_neg (by rw [q]; decide)], by unfold soT; rw [if_neg (by rw [q]; decide)]⟩
  have c64 := fun i hi => fn64 m f s (msk s) i hok (setW_msk hss) hi
  have c109' := fun a t V ha ht => fw109 m f s a t (snL n V) hok hss ha ht (by rw [snL_len]; omega)
  generalize soW m f s to (soU m f s fr to t) (m.n.toNat + 1) [fr] fr t = R at *
  generalize soU m f s fr to t = U at *
  generalize soR m f s fr to t = SR at *
  generalize soT m f s fr to t = ST at *
  generalize soE m f s fr to t = SE at *
  generalize labT m f s noP fr t = LB at *
  generalize msk s = ME at *
  repeat' (first | refine w1g ?_ | refine w1l ?_ | refine w1q ?_ | refine w1b ?_ | refine w1p ?_ | ((first | refine w1r ?_ | refine w1k ?_ | refine w1e ?_ | refine CallC.now (c108) ?_); (refine sy1 ?_; try exact True.intro)) | refine an2 ?_ | fail)
  refine W_cond (by rfl) (fun h => by cases h) (fun _ => ?_)
  repeat' (first | refine w1g ?_ | refine w1l ?_ | refine w1q ?_ | refine w1b ?_ | refine w1p ?_ | ((first | refine w1r ?_ | refine w1k ?_ | refine w1e ?_ | refine CallC.now (c76) ?_); simp (maxSteps := 400000) (disch := omega) only [push_cast, ↓reduceIte, reduceCtorEq, Nat.reduceAdd, Nat.reduceSub, Nat.reduceEqDiff, Nat.reduceLeDiff, Nat.reduceLT, Nat.reduceBEq, Nat.reduceDiv, Nat.reduceMod, Nat.reducePow, Nat.reduceMul, Int.reduceToNat, Int.reduceLT, Int.reduceLE, hnn]) | refine an2 ?_ | fail)
  refine ⟨rfl, ⟨by omega, by omega, by omega⟩, Bool, false, cB, false, rfl, rfl, by omega, rfl, ?_⟩
  simp (maxSteps := 400000) (disch := omega) only [push_cast, ↓reduceIte, reduceCtorEq, Nat.reduceAdd, Nat.reduceSub, Nat.reduceEqDiff, Nat.reduceLeDiff, Nat.reduceLT, Nat.reduceBEq, Nat.reduceDiv, Nat.reduceMod, Nat.reducePow, Nat.reduceMul, Int.reduceToNat, Int.reduceLT, Int.reduceLE, Int.toNat_natCast]
  repeat' (first | refine w1g ?_ | refine w1l ?_ | refine w1q ?_ | refine w1b ?_ | refine w1p ?_ | ((first | refine w1r ?_ | refine w1k ?_ | refine w1e ?_); simp (maxSteps := 400000) (disch := omega) only [push_cast, ↓reduceIte, reduceCtorEq, Nat.reduceAdd, Nat.reduceSub, Nat.reduceEqDiff, Nat.reduceLeDiff, Nat.reduceLT, Nat.reduceBEq, Nat.reduceDiv, Nat.reduceMod, Nat.reducePow, Nat.reduceMul, Int.reduceToNat, Int.reduceLT, Int.reduceLE, hU, hl0]) | refine an2 ?_ | (refine CallC.new _ (fun _ => ⟨trivial, c109⟩) ?_; simp (maxSteps := 400000) (disch := omega) only [push_cast, ↓reduceIte, reduceCtorEq, Nat.reduceAdd, Nat.reduceSub, Nat.reduceEqDiff, Nat.reduceLeDiff, Nat.reduceLT, Nat.reduceBEq, Nat.reduceDiv, Nat.reduceMod, Nat.reducePow, Nat.reduceMul, Int.reduceToNat, Int.reduceLT, Int.reduceLE, hU, hl0]) | fail)
  refine W_condD (by rfl) (fun hz => ?_) (fun hz => ?_)
  · rw [if_pos hz] at E1
    obtain ⟨x1, x2⟩ := E3 E1
    rw [E1, x1, x2]
    repeat' (first | refine w1g ?_ | refine w1l ?_ | refine w1q ?_ | refine w1b ?_ | refine w1p ?_ | ((first | refine w1r ?_ | refine w1k ?_ | refine w1e ?_); (refine sy1 ?_; try exact True.intro)) | refine an2 ?_ | fail)
    refine W_le (le_nil 12 1 0 cI rfl) ?_
    exact W_ret ⟨[_, _, _], ⟨rfl, rfl, rfl, rfl⟩, rfl⟩
  rw [if_neg hz] at E1
  obtain ⟨x1, x2⟩ := E2 E1
  rw [E1, x1, x2]
  repeat' (first | refine w1g ?_ | refine w1l ?_ | refine w1q ?_ | refine w1b ?_ | refine w1p ?_ | ((first | refine w1r ?_ | refine w1k ?_ | refine w1e ?_); (refine sy1 ?_; try exact True.intro)) | refine an2 ?_ | fail)
  refine W_le (le_adopt 20 3 1 0 cI (by omega) rfl) ?_
  (refine sy1 ?_; try exact True.intro)
  rw [snL_nil]
  refine W_loopU (fun q : SQ => [(20, .row 40 q.o.length), (3, iv q.a), (5, iv q.t)]) (fun q => [(40, .row q.o.length 3 1 0 cI q.o), (25, .row 0 4 1 false cB (snL n q.S))]) (fun q => SQok m f s fr to t U R ⟨q.k, q.S ++ [q.a], q.a, q.t, q.o⟩) (fun q => q.k) ⟨m.n.toNat + 1, [], fr, t, []⟩ hI (by rfl) (by rfl) (fun q hq => ?_)
  have hend := sq_end hq
  have hnx := sq_next hok hto (by omega) hq
  have hqi := hq.i
  have hqu := hq.u
  have hql := hq.l
  have hqn := hq.n
  clear hq hI
  obtain ⟨k, V, a, u, O⟩ := q
  dsimp only at hend hnx hqi hqu hql hqn ⊢
  (refine sy1 ?_; try exact True.intro)
  repeat' (first | refine w1g ?_ | refine w1l ?_ | refine w1q ?_ | refine w1b ?_ | refine w1p ?_ | ((first | refine w1r ?_ | refine w1k ?_ | refine w1e ?_); (refine sy1 ?_; try exact True.intro)) | refine an2 ?_ | fail)
  refine W_cond (by rfl) (fun hb => ?_) (fun hb => ?_)
  rotate_left
  · have hat : a = to := by simpa using hb
    rw [← hend hat]
    repeat' (first | refine w1g ?_ | refine w1l ?_ | refine w1q ?_ | refine w1b ?_ | refine w1p ?_ | ((first | refine w1r ?_ | refine w1k ?_ | refine w1e ?_); (refine sy1 ?_; try exact True.intro)) | refine an2 ?_ | fail)
    refine W_ret ⟨[_, _, _], ⟨rfl, rfl, rfl, rfl⟩, ?_⟩
    simp (maxSteps := 400000) (disch := omega) only [push_cast, ↓reduceIte, reduceCtorEq, Nat.reduceAdd, Nat.reduceSub, Nat.reduceEqDiff, Nat.reduceLeDiff, Nat.reduceLT, Nat.reduceBEq, Nat.reduceDiv, Nat.reduceMod, Nat.reducePow, Nat.reduceMul, Int.reduceToNat, Int.reduceLT, Int.reduceLE, pack]
  have hne : a ≠ to := by rw [bne_iff_ne] at hb; exact hb
  obtain ⟨x, q1, q2, q3, q4⟩ := hnx hne
  clear hend hnx
  have hra := hqi.ra
  have hrt := hqi.rt
  have hst := snL_set (n := n) (S := V) (a := a) (by omega)
  have hvl := snL_len n V
  repeat' (first | refine w1g ?_ | refine w1l ?_ | refine w1q ?_ | refine w1b ?_ | refine w1p ?_ | ((first | refine w1r ?_ | refine w1k ?_ | refine w1e ?_); simp (maxSteps := 400000) (disch := omega) only [push_cast, ↓reduceIte, reduceCtorEq, Nat.reduceAdd, Nat.reduceSub, Nat.reduceEqDiff, Nat.reduceLeDiff, Nat.reduceLT, Nat.reduceBEq, Nat.reduceDiv, Nat.reduceMod, Nat.reducePow, Nat.reduceMul, Int.reduceToNat, Int.reduceLT, Int.reduceLE, hvl]) | refine an2 ?_ | fail)
  refine ⟨rfl, ⟨Nat.le_of_ble_eq_true rfl, rfl⟩, by omega, true, rfl, rfl, ?_⟩
  rw [hst]
  clear hst hvl
  generalize V ++ [a] = Z at *
  (refine sy1 ?_; try exact True.intro)
  repeat' (first | refine w1g ?_ | refine w1l ?_ | refine w1q ?_ | refine w1b ?_ | refine w1p ?_ | ((first | refine w1r ?_ | refine w1k ?_ | refine w1e ?_); (refine sy1 ?_; try exact True.intro)) | refine an2 ?_ | fail)
  refine W_loopU (fun i : Nat => [(62, iv i)]) (fun i => []) (fun i => i ≤ m.rs.length ∧ ∀ j, j < i → soH m f s to U Z a u j = false) (fun i => m.rs.length - i) 0 ⟨by omega, fun j hj => by omega⟩ (by rfl) (by rfl) (fun i hi => ?_)
  obtain ⟨w1, w3⟩ := hi
  (refine sy1 ?_; try exact True.intro)
  repeat' (first | refine w1g ?_ | refine w1l ?_ | refine w1q ?_ | refine w1b ?_ | refine w1p ?_ | ((first | refine w1r ?_ | refine w1k ?_ | refine w1e ?_); (refine sy1 ?_; try exact True.intro)) | refine an2 ?_ | fail)
  refine W_condD (by rfl) (fun h6 => ?_) (fun h6 => ?_)
  rotate_left
  · rw [w3 x (by omega)] at q2; cases q2
  have hil : i < m.rs.length := by omega
  have ok := roadB_ok (hok.r i hil)
  have ofr := ok.f; have otr := ok.t
  have hgr : m.rs.getD i dR = gr m i := rfl
  have hlv := lvT_rng ok u hrt.1
  have c64 := c64 i hil
  have c93 := fn93 m.n (gr m i) u ok (by omega)
  have c109 := c109' (gr m i).t (lvT (gr m i) u) Z otr (by omega)
  rw [labT_sn hok f s hnn] at c109
  have hl1 := hll (inS Z) (gr m i).t (lvT (gr m i) u) otr (by omega)
  have hzl := snL_len n Z
  have hzg := snL_get (n := n) (S := Z) (x := (gr m i).t) (by omega)
  have hhb : soH m f s to U Z a u i = ((gr m i).f == a && !inS Z (gr m i).t && usB m f s i && (labT m f s (inS Z) (gr m i).t (lvT (gr m i) u)).getD to.toNat 0 == U) := rfl
  have hno : soH m f s to U Z a u i = false → ∀ j, j < i + 1 → soH m f s to U Z a u j = false := fun h j hj => by
    rcases Nat.lt_or_ge j i with g | g
    · exact w3 j g
    · rw [show j = i by omega]; exact h
  obtain ⟨H, hH⟩ : ∃ H, H = soH m f s to U Z a u i := ⟨_, rfl⟩
  rw [← hH] at hhb hno
  generalize inS Z (gr m i).t = B1 at *
  generalize usB m f s i = B2 at *
  generalize labT m f s (inS Z) (gr m i).t (lvT (gr m i) u) = L1 at *
  repeat' (first | refine w1g ?_ | refine w1l ?_ | refine w1q ?_ | refine w1b ?_ | refine w1p ?_ | ((first | refine w1r ?_ | refine w1k ?_ | refine w1e ?_ | refine CallC.go _ (fun _ => ⟨trivial, c64⟩) rfl ?_); simp (maxSteps := 400000) (disch := omega) only [push_cast, ↓reduceIte, reduceCtorEq, Nat.reduceAdd, Nat.reduceSub, Nat.reduceEqDiff, Nat.reduceLeDiff, Nat.reduceLT, Nat.reduceBEq, Nat.reduceDiv, Nat.reduceMod, Nat.reducePow, Nat.reduceMul, Int.reduceToNat, Int.reduceLT, Int.reduceLE, hgr, hzl, hzg]) | refine an2 ?_ | fail)
  refine W_cond (by rfl) (fun hz => ?_) (fun hz => ?_)
  · have hh : H = false := by
      rw [hhb]
      simp only [Bool.or_eq_true, bne_iff_ne, Bool.not_eq_true'] at hz
      rcases hz with (z | z) | z
      · rw [show ((gr m i).f == a) = false by rw [beq_eq_false_iff_ne]; exact z]; rfl
      · rw [z]; simp
      · rw [z]; simp
    have hno := hno hh
    repeat' (first | refine w1g ?_ | refine w1l ?_ | refine w1q ?_ | refine w1b ?_ | refine w1p ?_ | ((first | refine w1r ?_ | refine w1k ?_ | refine w1e ?_); (refine sy1 ?_; try exact True.intro)) | refine an2 ?_ | fail)
    refine ⟨i + 1, ⟨by omega, hno⟩, by omega, by rfl, ?_⟩
    (refine syE ?_; try exact True.intro)
  simp only [Bool.or_eq_false_iff, bne_eq_false_iff_eq, Bool.not_eq_false'] at hz
  obtain ⟨⟨z1, z2⟩, z3⟩ := hz
  rw [z1, z2, z3, beq_self_eq_true, Bool.not_false, Bool.and_self, Bool.true_and, Bool.true_and] at hhb
  repeat' (first | refine w1g ?_ | refine w1l ?_ | refine w1q ?_ | refine w1b ?_ | refine w1p ?_ | ((first | refine w1r ?_ | refine w1k ?_ | refine w1e ?_ | refine CallC.now (c93) ?_); simp (maxSteps := 400000) (disch := omega) only [push_cast, ↓reduceIte, reduceCtorEq, Nat.reduceAdd, Nat.reduceSub, Nat.reduceEqDiff, Nat.reduceLeDiff, Nat.reduceLT, Nat.reduceBEq, Nat.reduceDiv, Nat.reduceMod, Nat.reducePow, Nat.reduceMul, Int.reduceToNat, Int.reduceLT, Int.reduceLE, hgr, hl1]) | refine an2 ?_ | fail)
  repeat' (first | refine w1g ?_ | refine w1l ?_ | refine w1q ?_ | refine w1b ?_ | refine w1p ?_ | ((first | refine w1r ?_ | refine w1k ?_ | refine w1e ?_); simp (maxSteps := 400000) (disch := omega) only [push_cast, ↓reduceIte, reduceCtorEq, Nat.reduceAdd, Nat.reduceSub, Nat.reduceEqDiff, Nat.reduceLeDiff, Nat.reduceLT, Nat.reduceBEq, Nat.reduceDiv, Nat.reduceMod, Nat.reducePow, Nat.reduceMul, Int.reduceToNat, Int.reduceLT, Int.reduceLE, hgr, hl1]) | refine an2 ?_ | (refine CallC.new _ (fun _ => ⟨trivial, c109⟩) ?_; simp (maxSteps := 400000) (disch := omega) only [push_cast, ↓reduceIte, reduceCtorEq, Nat.reduceAdd, Nat.reduceSub, Nat.reduceEqDiff, Nat.reduceLeDiff, Nat.reduceLT, Nat.reduceBEq, Nat.reduceDiv, Nat.reduceMod, Nat.reducePow, Nat.reduceMul, Int.reduceToNat, Int.reduceLT, Int.reduceLE, hgr, hl1]) | fail)
  refine W_cond (by rfl) (fun hc => ?_) (fun hc => ?_)
  rotate_left
  · rw [hc] at hhb
    have hno := hno hhb
    repeat' (first | refine w1g ?_ | refine w1l ?_ | refine w1q ?_ | refine w1b ?_ | refine w1p ?_ | ((first | refine w1r ?_ | refine w1k ?_ | refine w1e ?_); (refine sy1 ?_; try exact True.intro)) | refine an2 ?_ | fail)
    refine ⟨i + 1, ⟨by omega, hno⟩, by omega, by rfl, ?_⟩
    (refine syE ?_; try exact True.intro)
  rw [hc] at hhb
  have hix : i = x := fst_at q2 q3 (hH ▸ hhb) w3
  subst hix
  repeat' (first | refine w1g ?_ | refine w1l ?_ | refine w1q ?_ | refine w1b ?_ | refine w1p ?_ | ((first | refine w1r ?_ | refine w1k ?_ | refine w1e ?_); (refine sy1 ?_; try exact True.intro)) | refine an2 ?_ | fail)
  refine ⟨rfl, trivial, Int, 0, cI, [(i : Int)], rfl, by omega, fun x _ => ⟨rfl, rfl⟩, rfl, ?_⟩
  (refine sy1 ?_; try exact True.intro)
  refine ⟨rfl, ⟨Nat.le_of_ble_eq_true rfl, rfl⟩, trivial, [(i : Int)], rfl, by first | omega | (simp; omega), by first | omega | (simp; omega), ?_⟩
  (refine sy1 ?_; try exact True.intro)
  repeat' (first | refine w1g ?_ | refine w1l ?_ | refine w1q ?_ | refine w1b ?_ | refine w1p ?_ | ((first | refine w1r ?_ | refine w1k ?_ | refine w1e ?_); simp (maxSteps := 400000) (disch := omega) only [push_cast, ↓reduceIte, reduceCtorEq, Nat.reduceAdd, Nat.reduceSub, Nat.reduceEqDiff, Nat.reduceLeDiff, Nat.reduceLT, Nat.reduceBEq, Nat.reduceDiv, Nat.reduceMod, Nat.reducePow, Nat.reduceMul, Int.reduceToNat, Int.reduceLT, Int.reduceLE, hgr]) | refine an2 ?_ | fail)
  refine ⟨⟨k - 1, Z, (gr m i).t, lvT (gr m i) u, O ++ [(i : Int)]⟩, q4, by dsimp only; omega, by rfl, ?_⟩
  dsimp only
  rw [List.length_append]
  (refine syE ?_; try exact True.intro)
end Go.Proofs.Ytfbdlmenhoagmaa

namespace Go.Proofs.Ytfbdlmenhoagmaa
open Go Sy
set_option maxRecDepth 100000
set_option maxHeartbeats 4000000
set_option linter.unusedVariables false
set_option linter.unusedSimpArgs false
end Go.Proofs.Ytfbdlmenhoagmaa

namespace Go.Proofs.Ytfbdlmenhoagmaa
open Go Sy
set_option linter.unusedVariables false
theorem czK_nl {m : Mp} {f : Nat → Int} {s : List Int} {road : Nat} : czK m f s road 6 = [] ↔ usB m f s road = true := by
  unfold czK usB
  rw [List.flatMap_eq_nil_iff, List.all_eq_true]
  constructor
  · intro h k hk
    have := h k hk
    unfold cz1 at this
    split at this
    · cases this
    · exact decide_eq_true (by omega)
  · intro h k hk
    have := of_decide_eq_true (h k hk)
    unfold cz1
    rw [if_neg (by omega)]
theorem czR_nl {m : Mp} {f : Nat → Int} {s rs : List Int} : czR m f s rs = [] ↔ ∀ x ∈ rs, usB m f s x.toNat = true := by
  unfold czR
  rw [List.flatMap_eq_nil_iff]
  exact ⟨fun h x hx => czK_nl.1 (h x hx), fun h x hx => czK_nl.2 (h x hx)⟩
theorem gi_app {l : List Int} {x : Int} {i : Nat} (h : i < l.length) : gi (l ++ [x]) i = gi l i := by
  simp [gi, List.getD, List.getElem?_append_left h]
theorem gi_last (l : List Int) (x : Int) : gi (l ++ [x]) l.length = x := by
  simp [gi, List.getD]
theorem atP_app {m : Mp} {fr : Int} {l : List Int} {x : Int} {i : Nat} (h : i ≤ l.length) : atP m fr (l ++ [x]) i = atP m fr l i := by
  unfold atP
  split
  · rfl
  · rw [gi_app (by omega)]
theorem vis_app {m : Mp} {fr : Int} {l : List Int} {x : Int} {i : Nat} (h : i ≤ l.length) : vis m fr (l ++ [x]) i = vis m fr l i := by
  unfold vis
  rw [List.take_append_of_le_length h]
theorem Pt.at {m : Mp} {fr a : Int} {l : List Int} (h : Pt m fr l a) : atP m fr l l.length = a := by
  cases h with
  | nil => rfl
  | snoc h1 h2 h3 =>
    rw [List.length_append, List.length_singleton, atP_succ, gi_last]
    rfl
theorem Pt.cn {m : Mp} {fr a : Int} {l : List Int} (h : Pt m fr l a) : cnA m l = true := by
  induction h with
  | nil => rfl
  | snoc h1 h2 h3 ih =>
    rename_i l a i
    refine cnA_yes fun j hj => ?_
    rw [List.length_append, List.length_singleton] at hj
    unfold cnA at ih
    rw [List.all_eq_true] at ih
    unfold cnB
    by_cases q : j = 0
    · rw [decide_eq_true q]; rfl
    rw [decide_eq_false q, Bool.false_or, gi_app (i := j - 1) (by omega)]
    rcases Nat.lt_or_ge j l.length with g | g
    · have := ih j (List.mem_range.2 g)
      unfold cnB at this
      rw [decide_eq_false q, Bool.false_or] at this
      rw [gi_app g]; exact this
    · have e : j = l.length := by omega
      rw [e, gi_last]
      have := h1.at
      unfold atP at this
      rw [if_neg (by omega)] at this
      rw [this, Int.toNat_natCast, h3, beq_self_eq_true]
theorem Pt.rd {m : Mp} {fr a : Int} {l : List Int} (h : Pt m fr l a) (hl : l.length ≤ 256) : rdE m l = 0 := by
  have := h.rng
  unfold rdE
  rw [if_neg (by omega), if_neg]
  rw [List.any_eq_true]
  rintro ⟨y, hy, hq⟩
  have := this y hy
  rw [plB_of this] at hq; cases hq
theorem arT_up {m : Mp} (h : OkM m) : ∀ (l : List Int) (a b : Int), 0 ≤ a → a ≤ b → (∀ x ∈ l, 0 ≤ x ∧ x < m.rs.length) → arT m l a ≤ arT m l b
  | [], a, b, _, hab, _ => hab
  | x :: l, a, b, ha, hab, hx => by
    have h1 := hx x List.mem_cons_self
    have ok := roadB_ok (h.r x.toNat (by omega))
    have h2 := lvT_rng ok a ha
    exact arT_up h l (lvT (gr m x.toNat) a) (lvT (gr m x.toNat) b) (by omega) (lvT_up ok ha hab) (fun y hy => hx y (List.mem_cons_of_mem _ hy))
structure LbOk (m : Mp) (f : Nat → Int) (s : List Int) (fr t : Int) (l : List Int) : Prop where
  ln : (l.length : Int) = m.n
  lg : l.all lgB = true
  ls : 0 ≤ gi l fr.toNat ∧ gi l fr.toNat ≤ t
  lr : ∀ i, i < m.rs.length → lrB m f s l i = true
theorem cl_ok {m : Mp} {f : Nat → Int} {s : List Int} {fr t : Int} {l : List Int} (h0 : dpE m f s fr fr t = 0) (h : clE m f s fr t l = 0) : LbOk m f s fr t l := by
  unfold clE at h
  rw [if_pos h0] at h
  by_cases q1 : (l.length : Int) = m.n
  · rw [if_pos q1] at h
    by_cases q2 : l.all lgB = true
    · rw [if_pos q2] at h
      by_cases q3 : inR (gi l fr.toNat) 0 t = true
      · rw [if_pos q3] at h
        by_cases q4 : (List.range m.rs.length).all (lrB m f s l) = true
        · rw [List.all_eq_true] at q4
          exact ⟨q1, q2, inR_iff.1 q3, fun i hi => q4 i (List.mem_range.2 hi)⟩
        · rw [if_neg q4] at h; omega
      · rw [if_neg q3] at h; omega
    · rw [if_neg q2] at h; omega
  · rw [if_neg q1] at h; omega
theorem cl_yes {m : Mp} {f : Nat → Int} {s : List Int} {fr t : Int} {l : List Int} (h0 : dpE m f s fr fr t = 0) (h : LbOk m f s fr t l) : clE m f s fr t l = 0 := by
  unfold clE
  rw [if_pos h0, if_pos h.ln, if_pos h.lg, if_pos (inR_iff.2 h.ls), if_pos]
  rw [List.all_eq_true]
  exact fun i hi => h.lr i (List.mem_range.1 hi)
theorem lb_lab {m : Mp} (h : OkM m) {f : Nat → Int} {s : List Int} {fr t : Int} (hf : 0 ≤ fr ∧ fr < m.n) (ht : 0 ≤ t ∧ t ≤ 1099511627776) : LbOk m f s fr t (labT m f s noP fr t) := by
  obtain ⟨h1, h2⟩ := labT_ok h f s noP hf ht.1
  have hr := fun y hy => labT_rng h f s noP hf ht.1 (y := y) hy
  have hn := h.n
  have hl := h1.len
  have hs := h1.src
  generalize labT m f s noP fr t = L at *
  refine ⟨by omega, ?_, by omega, fun i hi => ?_⟩
  · rw [List.all_eq_true]
    intro x hx
    obtain ⟨j, hj, rfl⟩ := List.mem_iff_getElem.1 hx
    have e : gi L j = L[j] := by simp [gi, List.getD, hj]
    rw [← e]
    exact inR_iff.2 (by have := hr j (by omega); omega)
  · unfold lrB
    by_cases q : gi L (gr m i).f.toNat < 0
    · rw [decide_eq_true q]; rfl
    · cases hu : usB m f s i
      · simp
      · have hm : tEd m i ∈ tes m (goB m f s noP) m.rs.length := tes_mem.2 ⟨i, hi, by unfold goB noP; rw [hu]; rfl, rfl⟩
        have := h2 _ hm (by have e : (tEd m i).x = (gr m i).f.toNat := rfl; rw [e]; omega)
        have e1 : (tEd m i).x = (gr m i).f.toNat := rfl
        have e2 : (tEd m i).y = (gr m i).t.toNat := rfl
        have e3 : (tEd m i).g = lvT (gr m i) := rfl
        rw [e1, e2, e3] at this
        rw [decide_eq_false (by omega), decide_eq_false (by omega)]
        simp [Int.not_lt.2 this.1]
        try exact this.2
theorem lb_low {m : Mp} (h : OkM m) {f : Nat → Int} {s : List Int} {fr t : Int} {l : List Int} (hl : LbOk m f s fr t l) {x : List Int} {a : Int} (hp : Pt m fr x a) (hu : ∀ y ∈ x, usB m f s y.toNat = true) (ht : 0 ≤ t) : 0 ≤ gi l a.toNat ∧ gi l a.toNat ≤ arT m x t := by
  induction hp with
  | nil => exact hl.ls
  | snoc h1 h2 h3 ih =>
    rename_i x a i
    have g := ih fun y hy => hu y (List.mem_append_left _ hy)
    have hui : usB m f s i = true := hu (i : Int) (by simp)
    have hr := hl.lr i h2
    unfold lrB at hr
    rw [h3, hui, decide_eq_false (by omega)] at hr
    simp only [Bool.not_true, Bool.or_self, Bool.false_or, Bool.not_eq_true', Bool.or_eq_false_iff, decide_eq_false_iff_not] at hr
    have ok := roadB_ok (h.r i h2)
    have hup := lvT_up ok g.1 g.2
    rw [arT_snoc, Int.toNat_natCast]
    omega
structure SX (m : Mp) (f : Nat → Int) (s : List Int) (fr t0 : Int) (q : SQ) : Prop where
  p : Pt m fr q.o q.a
  u : ∀ y ∈ q.o, usB m f s y.toNat = true
  a : arT m q.o t0 = q.t
  v : q.S = fr :: q.o.map (fun x => (gr m x.toNat).t)
  r : ∀ i, i < q.o.length → rtK m fr q.o i = true
theorem sx_next {m : Mp} {f : Nat → Int} {s : List Int} {fr t0 to e : Int} {q : SQ} (h : SX m f s fr t0 q) {x k : Nat} (hx : x < m.rs.length) (hh : soH m f s to e q.S q.a q.t x = true) : SX m f s fr t0 ⟨k, q.S ++ [(gr m x).t], (gr m x).t, lvT (gr m x) q.t, q.o ++ [(x : Int)]⟩ := by
  unfold soH at hh
  simp only [Bool.and_eq_true, beq_iff_eq, Bool.not_eq_true'] at hh
  obtain ⟨⟨⟨g1, g2⟩, g3⟩, g4⟩ := hh
  obtain ⟨k0, S, a, t, o⟩ := q
  obtain ⟨h1, h2, h3, h4, h5⟩ := h
  dsimp only at *
  refine ⟨.snoc h1 hx g1, fun y hy => ?_, ?_, ?_, fun i hi => ?_⟩
  · rcases List.mem_append.1 hy with hy | hy
    · exact h2 y hy
    · rw [List.mem_singleton] at hy; rw [hy]; exact g3
  · dsimp only
    rw [arT_snoc, h3, Int.toNat_natCast]
  · dsimp only
    rw [h4, List.map_append]; rfl
  · dsimp only at hi ⊢
    rw [List.length_append, List.length_singleton] at hi
    unfold rtK
    rw [atP_app (by omega), vis_app (by omega)]
    rcases Nat.lt_or_ge i o.length with g | g
    · rw [gi_app g]; exact h5 i g
    · have e : i = o.length := by omega
      rw [e, gi_last, h1.at, Int.toNat_natCast, g1, beq_self_eq_true, Bool.true_and]
      have : vis m fr o o.length = S := by unfold vis; rw [List.take_length, h4]
      rw [this]
      unfold inS at g2
      rw [g2]; rfl
theorem sx_all {m : Mp} (hm : OkM m) {f : Nat → Int} {s : List Int} {fr t0 to e : Int} {R : List Int} (hto : 0 ≤ to ∧ to < m.n) (he : 0 ≤ e) : ∀ (k : Nat) (q : SQ), q.k ≤ k → SQok m f s fr to t0 e R q → SX m f s fr t0 q → ∃ q', q'.o = R ∧ q'.a = to ∧ SQok m f s fr to t0 e R q' ∧ SX m f s fr t0 q'
  | 0, q, hk, h1, h2 => by have := h1.u; omega
  | k + 1, q, hk, h1, h2 => by
    by_cases hat : q.a = to
    · exact ⟨q, sq_end h1 hat, hat, h1, h2⟩
    · obtain ⟨x, x1, x2, x3, x4⟩ := sq_next hm hto he h1 hat
      exact sx_all hm hto he k _ (by show q.k - 1 ≤ k; omega) x4 (sx_next h2 x1 x2)
structure SoRt (m : Mp) (f : Nat → Int) (s : List Int) (fr to t : Int) (l : List Int) : Prop where
  pp : Pt m fr l to
  ll : l.length ≤ 66
  uu : ∀ y ∈ l, usB m f s y.toNat = true
  aa : arT m l t = soU m f s fr to t
  rr : rtB m fr to l = true
theorem so_route {m : Mp} (h : OkM m) {f : Nat → Int} {s : List Int} {fr to t : Int} (hf : 0 ≤ fr ∧ fr < m.n) (hto : 0 ≤ to ∧ to < m.n) (ht : 0 ≤ t) (he : 0 ≤ soU m f s fr to t) : SoRt m f s fr to t (soW m f s to (soU m f s fr to t) (m.n.toNat + 1) [fr] fr t) := by
  obtain ⟨q, h1, h2, h3, h4⟩ := sx_all h hto he _ _ (Nat.le_refl _) (sq_ini h (f := f) (s := s) (to := to) hf ht) ⟨.nil, fun y hy => (by cases hy), rfl, rfl, fun i hi => (by simp at hi)⟩
  rw [← h1]
  have hp := h4.p
  have hn := h3.n
  have hi := h3.i
  rw [h2] at hp hi
  obtain ⟨g1, g2⟩ := labT_ok h f s (inS q.S) hto hi.rt.1
  have hsrc := g1.src
  refine ⟨hp, by omega, h4.u, ?_, ?_⟩
  · rw [h4.a, ← hsrc, hi.re]
  · unfold rtB
    rw [hp.at, beq_self_eq_true, Bool.and_true, List.all_eq_true]
    exact fun i hi => h4.r i (List.mem_range.1 hi)
end Go.Proofs.Ytfbdlmenhoagmaa

namespace Go.Proofs.Ytfbdlmenhoagmaa
open Go Sy
set_option maxRecDepth 100000
set_option maxHeartbeats 4000000
set_option linter.unusedVariables false
set_option linter.unusedSimpArgs false
theorem dpE_val {m : Mp} {f : Nat → Int} {fr to : Int} (hV : Val m f fr to) {t : Int} (ht : 0 ≤ t ∧ t ≤ 1099511562240) (st : List Int) : dpE m f st fr to t = (if setB st m.ws.length = true then 0 else 3) ∧ dpE m f st fr fr t = (if setB st m.ws.length = true then 0 else 3) := by
  have h1 := plB_of hV.f
  have h2 := plB_of hV.t
  have h3 : inR t 0 1099511627776 = true := inR_iff.2 (by omega)
  unfold dpE dpB
  rw [if_pos hV.op, if_pos hV.op, h1, h2, h3]
  simp only [Bool.and_true]
  exact ⟨trivial, trivial⟩
theorem fn12 (m : Mp) (f : Nat → Int) (st : List Int) (fr to t : Int) (lb : List Int) (v : Nat) (h : Big m) (hl : st.length ≤ 140737488355328) (hl2 : lb.length ≤ 140737488355328) (hvv : v < 65536) : Sy.Fn Try.prog 12 [aM m, .agg (c6 f), aI st, iv fr, iv to, iv t, aI lb, .v (.int .u16 v)] (bv true) := by
  refine Fn_of_W mixed Xt12 rfl ?_
  have c13 := fn13 m f fr to h
  by_cases hv : validB m f fr to = true ∧ st.length ≤ 100 ∧ lb.length ≤ 100 ∧ 0 ≤ t ∧ t ≤ 1099511562240
  rotate_left
  · generalize validB m f fr to = VB at *
    repeat' (first | refine w1g ?_ | refine w1l ?_ | refine w1q ?_ | refine w1b ?_ | refine w1p ?_ | ((first | refine w1r ?_ | refine w1k ?_ | refine w1e ?_ | refine CallC.now (c13) ?_); (refine sy1 ?_; try exact True.intro)) | refine an2 ?_ | fail)
    refine W_cond (by rfl) (fun _ => ?_) (fun hz => ?_)
    · repeat' (first | refine w1g ?_ | refine w1l ?_ | refine w1q ?_ | refine w1b ?_ | refine w1p ?_ | ((first | refine w1r ?_ | refine w1k ?_ | refine w1e ?_ | refine CallC.now (fn14) ?_); (refine sy1 ?_; try exact True.intro)) | refine an2 ?_ | fail)
      exact W_ret ⟨[_], ⟨rfl, rfl⟩, rfl⟩
    · simp only [Bool.or_eq_false_iff, decide_eq_false_iff_not, Bool.not_eq_false'] at hz
      exact absurd ⟨hz.1.1.1.1, by omega, by omega, by omega, by omega⟩ hv
  obtain ⟨hv, hs1, hs2, ht1, ht2⟩ := hv
  have hV := val_of hv
  rw [hv] at c13
  have d1 : decide ((100 : Int) < st.length) = false := decide_eq_false (by omega)
  have d2 : decide ((100 : Int) < lb.length) = false := decide_eq_false (by omega)
  have d3 : decide (t < 0) = false := decide_eq_false (by omega)
  have d4 : decide ((1099511562240 : Int) < t) = false := decide_eq_false (by omega)
  have hok := hV.ok
  have hm := hV.gm
  have hn := hok.n
  have hf := hV.f
  have hto := hV.t
  obtain ⟨D1, D2⟩ := dpE_val hV (t := t) ⟨ht1, ht2⟩ st
  have c45 := fn45 m f st fr to t hm (by omega)
  have c47 := fn47 m f st fr t hm (by omega)
  by_cases hsb : setB st m.ws.length = true
  rotate_left
  · rw [if_neg hsb] at D1 D2
    have e1 : soE m f st fr to t = 3 := by unfold soE; rw [D1, if_neg (by decide)]
    rw [e1] at c45
    rw [D2] at c47
    generalize soR m f st fr to t = SR0 at *
    generalize soT m f st fr to t = ST0 at *
    generalize lbV m f st fr t = LV at *
    repeat' (first | refine w1g ?_ | refine w1l ?_ | refine w1q ?_ | refine w1b ?_ | refine w1p ?_ | ((first | refine w1r ?_ | refine w1k ?_ | refine w1e ?_ | refine CallC.now (c13) ?_); simp (maxSteps := 400000) (disch := omega) only [push_cast, ↓reduceIte, reduceCtorEq, Nat.reduceAdd, Nat.reduceSub, Nat.reduceEqDiff, Nat.reduceLeDiff, Nat.reduceLT, Nat.reduceBEq, Nat.reduceDiv, Nat.reduceMod, Nat.reducePow, Nat.reduceMul, Int.reduceToNat, Int.reduceLT, Int.reduceLE, d1, d2, d3, d4]) | refine an2 ?_ | fail)
    refine W_cond (by rfl) (fun h => by simp at h) (fun _ => ?_)
    repeat' (first | refine w1g ?_ | refine w1l ?_ | refine w1q ?_ | refine w1b ?_ | refine w1p ?_ | ((first | refine w1r ?_ | refine w1k ?_ | refine w1e ?_ | refine CallC.now (c45) ?_); (refine sy1 ?_; try exact True.intro)) | refine an2 ?_ | fail)
    repeat' (first | refine w1g ?_ | refine w1l ?_ | refine w1q ?_ | refine w1b ?_ | refine w1p ?_ | ((first | refine w1r ?_ | refine w1k ?_ | refine w1e ?_ | refine CallC.now (c47) ?_); (refine sy1 ?_; try exact True.intro)) | refine an2 ?_ | fail)
    refine W_cond (by rfl) (fun _ => ?_) (fun h => by simp at h)
    repeat' (first | refine w1g ?_ | refine w1l ?_ | refine w1q ?_ | refine w1b ?_ | refine w1p ?_ | ((first | refine w1r ?_ | refine w1k ?_ | refine w1e ?_ | refine CallC.go _ (fun _ => ⟨trivial, fn14⟩) rfl ?_); (refine sy1 ?_; try exact True.intro)) | refine an2 ?_ | fail)
    exact W_ret ⟨[_], ⟨rfl, rfl⟩, rfl⟩
  rw [if_pos hsb] at D1 D2
  have hL : lbV m f st fr t = labT m f st noP fr t := by unfold lbV; rw [if_pos D2]
  have hLB := lb_lab hok (f := f) (s := st) hf (t := t) ⟨ht1, by omega⟩
  have hcl := cl_yes D2 hLB
  have hE : soE m f st fr to t = if soU m f st fr to t < 0 then 15 else 0 := by unfold soE; rw [if_pos D1]
  have hU : (labT m f st noP fr t).getD to.toNat 0 = soU m f st fr to t := rfl
  have c49a := fn49 m f st fr t (labT m f st noP fr t) hm (by omega) (by have := hLB.ln; omega)
  have c49b := fn49 m f st fr t lb hm (by omega) (by omega)
  rw [hcl] at c49a
  rw [hL, D2] at c47
  have hlen := hLB.ln
  obtain ⟨N, hN⟩ : ∃ N : Nat, m.n = N := ⟨m.n.toNat, by omega⟩
  have c36 := Fn_nil (pre := [aM m, iv to, iv ((40 : Nat) : Int)]) (fn36 m to hok N 40 [] fr (List.replicate N false) (by simp) (by simp [hN]) hf (by rw [List.getD_eq_getElem?_getD, List.getElem?_replicate]; split <;> rfl) (by simp; omega) (by omega) (by omega))
  obtain ⟨hO1, hO2⟩ := rts_all (m := m) (fr := fr) (to := to) N 40 [] fr (List.replicate N false) (by omega) .nil
  have hc40 : ((40 : Nat) : Int) = 40 := rfl
  rw [hc40] at c36
  simp only [List.cons_append, List.nil_append] at c36
  generalize rts m to N 40 [] fr (List.replicate N false) = O at *
  have hO3 : ∀ x ∈ O, x.length ≤ 64 := fun x hx => by have := (hO2 x hx).2; simp at this; omega
  have hcse : ∀ x : List Int, rdE m x = 0 → csE m f st x = 0 ∧ csV m f st x = czR m f st x := fun x hx => by
    have e : csE m f st x = 0 := by unfold csE; rw [if_pos hV.op, if_pos hsb]; exact hx
    exact ⟨e, by unfold csV; rw [if_pos e]⟩
  have hare : ∀ (x : List Int) (a u : Int), Pt m fr x a → x.length ≤ 256 → 0 ≤ u → u ≤ 1099511627776 → arE m x u = 0 ∧ arV m x u = arT m x u := fun x a u hp hx h1 h2 => by
    have e : arE m x u = 0 := by unfold arE; rw [if_pos hV.c, if_pos (hp.rd hx), if_pos (inR_iff.2 ⟨h1, h2⟩), if_pos hp.cn]
    exact ⟨e, by unfold arV; rw [if_pos e]⟩
  have main : ∀ x ∈ O, csE m f st x = 0 ∧ csV m f st x = czR m f st x ∧ arE m x t = 0 ∧ arV m x t = arT m x t ∧ arE m x (t + v) = 0 ∧ arV m x (t + v) = arT m x (t + v) ∧ arT m x t ≤ arT m x (t + v) ∧ 0 ≤ arT m x t ∧ (czR m f st x = [] → (∀ l, LbOk m f st fr t l → 0 ≤ gi l to.toNat ∧ gi l to.toNat ≤ arT m x t)) := fun x hx => by
    have q1 := (hO2 x hx).1
    have q2 := hO3 x hx
    obtain ⟨a1, a2⟩ := hcse x (q1.rd (by omega))
    obtain ⟨a3, a4⟩ := hare x to t q1 (by omega) ht1 (by omega)
    obtain ⟨a5, a6⟩ := hare x to (t + v) q1 (by omega) (by omega) (by omega)
    exact ⟨a1, a2, a3, a4, a5, a6, arT_up hok x t (t + v) ht1 (by omega) q1.rng, by have := (arT_rng hok x t ht1 q1.rng).1; omega, fun hc l hl => lb_low hok hl q1 (czR_nl.1 hc) ht1⟩
  have hown := fun x hx hc => (main x hx).2.2.2.2.2.2.2.2 hc _ hLB
  have hoth := fun x hx hc (hz : clE m f st fr t lb = 0) => (main x hx).2.2.2.2.2.2.2.2 hc _ (cl_ok D2 hz)
  have hlbn : clE m f st fr t lb = 0 → (lb.length : Int) = m.n := fun hz => (cl_ok D2 hz).ln
  have hgU : gi (labT m f st noP fr t) to.toNat = soU m f st fr to t := rfl
  rw [hgU] at hown
  have gLB : ∀ i, (labT m f st noP fr t).getD i 0 = gi (labT m f st noP fr t) i := fun _ => rfl
  have glb : ∀ i, lb.getD i 0 = gi lb i := fun _ => rfl
  have hlb2 : clE m f st fr t lb = 0 → to.toNat < lb.length := fun hz => by have := hlbn hz; omega
  have c20 := fun x (hx : x ∈ O) => fn20 m f st x hm (by omega) (by have := hO3 x hx; omega)
  have c34 := fun x (hx : x ∈ O) => fn34 m x t hm (by have := hO3 x hx; omega)
  have c34b := fun x (hx : x ∈ O) => fn34 m x (t + v) hm (by have := hO3 x hx; omega)
  have bne0 : ∀ x : Int, (x != x) = false := fun x => by simp
  by_cases hU0 : soU m f st fr to t < 0
  · rw [if_pos hU0] at hE
    have hR : soR m f st fr to t = [] := by unfold soR; rw [hE, if_neg (by decide)]
    have hT : soT m f st fr to t = 0 := by unfold soT; rw [hE, if_neg (by decide)]
    rw [hR, hT, hE] at c45
    have hge : decide (0 ≤ soU m f st fr to t) = false := decide_eq_false (by omega)
    generalize soU m f st fr to t = U at *
    generalize labT m f st noP fr t = LB at *
    generalize clE m f st fr t lb = CE at *
    repeat' (first | refine w1g ?_ | refine w1l ?_ | refine w1q ?_ | refine w1b ?_ | refine w1p ?_ | ((first | refine w1r ?_ | refine w1k ?_ | refine w1e ?_ | refine CallC.now (c13) ?_); simp (maxSteps := 400000) (disch := omega) only [push_cast, ↓reduceIte, reduceCtorEq, Nat.reduceAdd, Nat.reduceSub, Nat.reduceEqDiff, Nat.reduceLeDiff, Nat.reduceLT, Nat.reduceBEq, Nat.reduceDiv, Nat.reduceMod, Nat.reducePow, Nat.reduceMul, Int.reduceToNat, Int.reduceLT, Int.reduceLE, d1, d2, d3, d4]) | refine an2 ?_ | fail)
    refine W_cond (by rfl) (fun h => by simp at h) (fun _ => ?_)
    repeat' (first | refine w1g ?_ | refine w1l ?_ | refine w1q ?_ | refine w1b ?_ | refine w1p ?_ | ((first | refine w1r ?_ | refine w1k ?_ | refine w1e ?_ | refine CallC.now (c45) ?_); (refine sy1 ?_; try exact True.intro)) | refine an2 ?_ | fail)
    repeat' (first | refine w1g ?_ | refine w1l ?_ | refine w1q ?_ | refine w1b ?_ | refine w1p ?_ | ((first | refine w1r ?_ | refine w1k ?_ | refine w1e ?_ | refine CallC.now (c47) ?_); (refine sy1 ?_; try exact True.intro)) | refine an2 ?_ | fail)
    refine W_cond (by rfl) (fun h => by simp at h) (fun _ => ?_)
    repeat' (first | refine w1g ?_ | refine w1l ?_ | refine w1q ?_ | refine w1b ?_ | refine w1p ?_ | ((first | refine w1r ?_ | refine w1k ?_ | refine w1e ?_ | refine CallC.go _ (fun _ => ⟨trivial, c49a⟩) rfl ?_); simp (maxSteps := 400000) (disch := omega) only [push_cast, ↓reduceIte, reduceCtorEq, Nat.reduceAdd, Nat.reduceSub, Nat.reduceEqDiff, Nat.reduceLeDiff, Nat.reduceLT, Nat.reduceBEq, Nat.reduceDiv, Nat.reduceMod, Nat.reducePow, Nat.reduceMul, Int.reduceToNat, Int.reduceLT, Int.reduceLE, hlen, bne0, hU]) | refine an2 ?_ | fail)
    refine W_cond (by rfl) (fun h => by rw [hge] at h; cases h) (fun _ => ?_)
    repeat' (first | refine w1g ?_ | refine w1l ?_ | refine w1q ?_ | refine w1b ?_ | refine w1p ?_ | ((first | refine w1r ?_ | refine w1k ?_ | refine w1e ?_ | refine CallC.now (c49b) ?_); (refine sy1 ?_; try exact True.intro)) | refine an2 ?_ | fail)
    refine W_cond (by rfl) (fun hz => ?_) (fun _ => ?_)
    · simp only [Bool.and_eq_true, beq_iff_eq, bne_iff_ne] at hz
      exact absurd (hlbn hz.1) hz.2
    repeat' (first | refine w1g ?_ | refine w1l ?_ | refine w1q ?_ | refine w1b ?_ | refine w1p ?_ | ((first | refine w1r ?_ | refine w1k ?_ | refine w1e ?_); (refine sy1 ?_; try exact True.intro)) | refine an2 ?_ | fail)
    refine W_cond (by rfl) (fun hz => by cases hz) (fun _ => ?_)
    repeat' (first | refine w1g ?_ | refine w1l ?_ | refine w1q ?_ | refine w1b ?_ | refine w1p ?_ | ((first | refine w1r ?_ | refine w1k ?_ | refine w1e ?_); (refine sy1 ?_; try exact True.intro)) | refine an2 ?_ | fail)
    refine W_cond (by rfl) (fun hz => by cases hz) (fun _ => ?_)
    refine W_skip ?_
    (refine sy1 ?_; try exact True.intro)
    repeat (first | refine WK_go ?_ | refine W_seqL ?_ | refine W_seq ?_ | refine W_block ?_)
    refine W_regTP 6 2 0 (by decide) (by decide) (by decide) ?_
    simp (maxSteps := 400000) (disch := omega) only [push_cast, ↓reduceIte, reduceCtorEq, Nat.reduceAdd, Nat.reduceSub, Nat.reduceEqDiff, Nat.reduceLeDiff, Nat.reduceLT, Nat.reduceBEq, Nat.reduceDiv, Nat.reduceMod, Nat.reducePow, Nat.reduceMul, Int.reduceToNat, Int.reduceLT, Int.reduceLE, hN, List.take_succ_cons, List.take_zero, List.drop_succ_cons, List.drop_zero]
    refine ⟨rfl, ⟨by omega, by omega, by omega⟩, Bool, false, cB, false, rfl, rfl, by omega, rfl, ?_⟩
    simp (maxSteps := 400000) (disch := omega) only [push_cast, ↓reduceIte, reduceCtorEq, Nat.reduceAdd, Nat.reduceSub, Nat.reduceEqDiff, Nat.reduceLeDiff, Nat.reduceLT, Nat.reduceBEq, Nat.reduceDiv, Nat.reduceMod, Nat.reducePow, Nat.reduceMul, Int.reduceToNat, Int.reduceLT, Int.reduceLE, Int.toNat_natCast]
    refine ⟨_, le_frzR 204 [2, 3, 4, 5, 6, 7, 8, 9, 18, 19, 22, 199, 200, 201] [] 115 114 0 4 1 false cB (List.replicate N false) rfl rfl rfl rfl, ?_⟩
    simp (maxSteps := 400000) (disch := omega) only [push_cast, ↓reduceIte, reduceCtorEq, Nat.reduceAdd, Nat.reduceSub, Nat.reduceEqDiff, Nat.reduceLeDiff, Nat.reduceLT, Nat.reduceBEq, Nat.reduceDiv, Nat.reduceMod, Nat.reducePow, Nat.reduceMul, Int.reduceToNat, Int.reduceLT, Int.reduceLE, List.take_succ_cons, List.take_zero, List.drop_succ_cons, List.drop_zero]
    refine CallC.now c36 ?_
    (refine sy1 ?_; try exact True.intro)
    repeat' (first | refine w1g ?_ | refine w1l ?_ | refine w1q ?_ | refine w1b ?_ | refine w1p ?_ | ((first | refine w1r ?_ | refine w1k ?_ | refine w1e ?_); (refine sy1 ?_; try exact True.intro)) | refine an2 ?_ | fail)
    refine W_loopU (fun i : Nat => [(30, iv i)]) (fun i => []) (fun i => i ≤ O.length) (fun i => O.length - i) 0 (by omega) (by rfl) (by rfl) (fun i hi => ?_)
    (refine sy1 ?_; try exact True.intro)
    repeat' (first | refine w1g ?_ | refine w1l ?_ | refine w1q ?_ | refine w1b ?_ | refine w1p ?_ | ((first | refine w1r ?_ | refine w1k ?_ | refine w1e ?_); (refine sy1 ?_; try exact True.intro)) | refine an2 ?_ | fail)
    refine W_condD (by rfl) (fun h5 => ?_) (fun h5 => ?_)
    rotate_left
    · repeat' (first | refine w1g ?_ | refine w1l ?_ | refine w1q ?_ | refine w1b ?_ | refine w1p ?_ | ((first | refine w1r ?_ | refine w1k ?_ | refine w1e ?_ | refine CallC.now (fn14) ?_); (refine sy1 ?_; try exact True.intro)) | refine an2 ?_ | fail)
      exact W_ret ⟨[_], ⟨rfl, rfl⟩, rfl⟩
    have hlt : i < O.length := by omega
    obtain ⟨x, hx⟩ : ∃ x, O.getD i [] = x := ⟨_, rfl⟩
    have hxO : x ∈ O := by rw [← hx]; exact getD_memL hlt
    obtain ⟨a1, a2, a3, a4, a5, a6, a7, a8, _⟩ := main x hxO
    have k20 := c20 x hxO
    have k34 := c34 x hxO
    have k34b := c34b x hxO
    rw [a1, a2] at k20
    rw [a3, a4] at k34
    rw [a5, a6] at k34b
    have hw := hown x hxO
    generalize czR m f st x = CZ at *
    generalize arT m x t = AT at *
    generalize arT m x (t + v) = AV2 at *
    repeat' (first | refine w1g ?_ | refine w1l ?_ | refine w1q ?_ | refine w1b ?_ | refine w1p ?_ | ((first | refine w1r ?_ | refine w1k ?_ | refine w1e ?_ | refine CallC.now (k20) ?_); simp (maxSteps := 400000) (disch := omega) only [push_cast, ↓reduceIte, reduceCtorEq, Nat.reduceAdd, Nat.reduceSub, Nat.reduceEqDiff, Nat.reduceLeDiff, Nat.reduceLT, Nat.reduceBEq, Nat.reduceDiv, Nat.reduceMod, Nat.reducePow, Nat.reduceMul, Int.reduceToNat, Int.reduceLT, Int.reduceLE, hx]) | refine an2 ?_ | fail)
    refine CallC.now k34 ?_
    (refine sy1 ?_; try exact True.intro)
    repeat' (first | refine w1g ?_ | refine w1l ?_ | refine w1q ?_ | refine w1b ?_ | refine w1p ?_ | ((first | refine w1r ?_ | refine w1k ?_ | refine w1e ?_ | refine CallC.now (k34b) ?_); simp (maxSteps := 400000) (disch := omega) only [push_cast, ↓reduceIte, reduceCtorEq, Nat.reduceAdd, Nat.reduceSub, Nat.reduceEqDiff, Nat.reduceLeDiff, Nat.reduceLT, Nat.reduceBEq, Nat.reduceDiv, Nat.reduceMod, Nat.reducePow, Nat.reduceMul, Int.reduceToNat, Int.reduceLT, Int.reduceLE, hx]) | refine an2 ?_ | fail)
    refine W_cond (by rfl) (fun hz => ?_) (fun _ => ?_)
    · simp at hz
      omega
    rcases CZ with _ | ⟨C0, CZ⟩
    · have := (hw rfl).1
      omega
    have hc0 : ∀ z : Int, 0 ≤ z → (z + 1 == 0) = false := fun z hz => by rw [beq_eq_false_iff_ne]; omega
    repeat' (first | refine w1g ?_ | refine w1l ?_ | refine w1q ?_ | refine w1b ?_ | refine w1p ?_ | ((first | refine w1r ?_ | refine w1k ?_ | refine w1e ?_); simp (maxSteps := 400000) (disch := omega) only [push_cast, ↓reduceIte, reduceCtorEq, Nat.reduceAdd, Nat.reduceSub, Nat.reduceEqDiff, Nat.reduceLeDiff, Nat.reduceLT, Nat.reduceBEq, Nat.reduceDiv, Nat.reduceMod, Nat.reducePow, Nat.reduceMul, Int.reduceToNat, Int.reduceLT, Int.reduceLE, List.length_cons, hc0]) | refine an2 ?_ | fail)
    refine W_cond (by rfl) (fun hz => by cases hz) (fun _ => ?_)
    repeat' (first | refine w1g ?_ | refine w1l ?_ | refine w1q ?_ | refine w1b ?_ | refine w1p ?_ | ((first | refine w1r ?_ | refine w1k ?_ | refine w1e ?_); (refine sy1 ?_; try exact True.intro)) | refine an2 ?_ | fail)
    refine ⟨i + 1, by omega, by omega, by rfl, ?_⟩
    (refine syE ?_; try exact True.intro)
  · rw [if_neg hU0] at hE
    have hSO := so_route hok (f := f) (s := st) (to := to) hf hto ht1 (by omega)
    have hR : soR m f st fr to t = soW m f st to (soU m f st fr to t) (m.n.toNat + 1) [fr] fr t := by unfold soR; rw [if_pos hE]
    have hT : soT m f st fr to t = soU m f st fr to t := by unfold soT; rw [if_pos hE]
    rw [← hR] at hSO
    rw [hT, hE] at c45
    have hge : decide (0 ≤ soU m f st fr to t) = true := decide_eq_true (by omega)
    have r1 := hSO.pp.rd (by have := hSO.ll; omega)
    obtain ⟨r2, r3⟩ := hcse _ r1
    obtain ⟨r4, r5⟩ := hare _ to t hSO.pp (by have := hSO.ll; omega) ht1 (by omega)
    have r6 : irE m fr to (soR m f st fr to t) = 0 := by unfold irE; rw [if_pos hV.c, if_pos ⟨plB_of hf, plB_of hto⟩, r1]
    have r7 : irV m fr to (soR m f st fr to t) = true := by unfold irV; rw [r6, hSO.rr]; rfl
    have c20a := fn20 m f st (soR m f st fr to t) hm (by omega) (by have := hSO.ll; omega)
    have c30a := fn30 m fr to (soR m f st fr to t) hm (by have := hSO.ll; omega)
    have c34a := fn34 m (soR m f st fr to t) t hm (by have := hSO.ll; omega)
    rw [r2, r3, czR_nl.2 hSO.uu] at c20a
    rw [r6, r7] at c30a
    rw [r4, r5, hSO.aa] at c34a
    generalize soR m f st fr to t = RT at *
    generalize soU m f st fr to t = U at *
    generalize labT m f st noP fr t = LB at *
    generalize clE m f st fr t lb = CE at *
    repeat' (first | refine w1g ?_ | refine w1l ?_ | refine w1q ?_ | refine w1b ?_ | refine w1p ?_ | ((first | refine w1r ?_ | refine w1k ?_ | refine w1e ?_ | refine CallC.now (c13) ?_); simp (maxSteps := 400000) (disch := omega) only [push_cast, ↓reduceIte, reduceCtorEq, Nat.reduceAdd, Nat.reduceSub, Nat.reduceEqDiff, Nat.reduceLeDiff, Nat.reduceLT, Nat.reduceBEq, Nat.reduceDiv, Nat.reduceMod, Nat.reducePow, Nat.reduceMul, Int.reduceToNat, Int.reduceLT, Int.reduceLE, d1, d2, d3, d4]) | refine an2 ?_ | fail)
    refine W_cond (by rfl) (fun h => by simp at h) (fun _ => ?_)
    repeat' (first | refine w1g ?_ | refine w1l ?_ | refine w1q ?_ | refine w1b ?_ | refine w1p ?_ | ((first | refine w1r ?_ | refine w1k ?_ | refine w1e ?_ | refine CallC.now (c45) ?_); (refine sy1 ?_; try exact True.intro)) | refine an2 ?_ | fail)
    repeat' (first | refine w1g ?_ | refine w1l ?_ | refine w1q ?_ | refine w1b ?_ | refine w1p ?_ | ((first | refine w1r ?_ | refine w1k ?_ | refine w1e ?_ | refine CallC.now (c47) ?_); (refine sy1 ?_; try exact True.intro)) | refine an2 ?_ | fail)
    refine W_cond (by rfl) (fun h => by simp at h) (fun _ => ?_)
    repeat' (first | refine w1g ?_ | refine w1l ?_ | refine w1q ?_ | refine w1b ?_ | refine w1p ?_ | ((first | refine w1r ?_ | refine w1k ?_ | refine w1e ?_ | refine CallC.go _ (fun _ => ⟨trivial, c49a⟩) rfl ?_); simp (maxSteps := 400000) (disch := omega) only [push_cast, ↓reduceIte, reduceCtorEq, Nat.reduceAdd, Nat.reduceSub, Nat.reduceEqDiff, Nat.reduceLeDiff, Nat.reduceLT, Nat.reduceBEq, Nat.reduceDiv, Nat.reduceMod, Nat.reducePow, Nat.reduceMul, Int.reduceToNat, Int.reduceLT, Int.reduceLE, hlen, bne0, hU]) | refine an2 ?_ | fail)
    refine W_cond (by rfl) (fun h => by rw [hge] at h; cases h) (fun _ => ?_)
    repeat' (first | refine w1g ?_ | refine w1l ?_ | refine w1q ?_ | refine w1b ?_ | refine w1p ?_ | ((first | refine w1r ?_ | refine w1k ?_ | refine w1e ?_ | refine CallC.now (c49b) ?_); (refine sy1 ?_; try exact True.intro)) | refine an2 ?_ | fail)
    refine W_cond (by rfl) (fun hz => ?_) (fun _ => ?_)
    · simp only [Bool.and_eq_true, beq_iff_eq, bne_iff_ne] at hz
      exact absurd (hlbn hz.1) hz.2
    repeat' (first | refine w1g ?_ | refine w1l ?_ | refine w1q ?_ | refine w1b ?_ | refine w1p ?_ | ((first | refine w1r ?_ | refine w1k ?_ | refine w1e ?_); (refine sy1 ?_; try exact True.intro)) | refine an2 ?_ | fail)
    refine W_cond (by rfl) (fun _ => ?_) (fun hz => by cases hz)
    repeat' (first | refine w1g ?_ | refine w1l ?_ | refine w1q ?_ | refine w1b ?_ | refine w1p ?_ | ((first | refine w1r ?_ | refine w1k ?_ | refine w1e ?_ | refine CallC.now (c34a) ?_); (refine sy1 ?_; try exact True.intro)) | refine an2 ?_ | fail)
    repeat' (first | refine w1g ?_ | refine w1l ?_ | refine w1q ?_ | refine w1b ?_ | refine w1p ?_ | ((first | refine w1r ?_ | refine w1k ?_ | refine w1e ?_ | refine CallC.now (c30a) ?_); (refine sy1 ?_; try exact True.intro)) | refine an2 ?_ | fail)
    repeat' (first | refine w1g ?_ | refine w1l ?_ | refine w1q ?_ | refine w1b ?_ | refine w1p ?_ | ((first | refine w1r ?_ | refine w1k ?_ | refine w1e ?_ | refine CallC.now (c20a) ?_); simp (maxSteps := 400000) (disch := omega) only [push_cast, ↓reduceIte, reduceCtorEq, Nat.reduceAdd, Nat.reduceSub, Nat.reduceEqDiff, Nat.reduceLeDiff, Nat.reduceLT, Nat.reduceBEq, Nat.reduceDiv, Nat.reduceMod, Nat.reducePow, Nat.reduceMul, Int.reduceToNat, Int.reduceLT, Int.reduceLE, hlen, bne0, hU]) | refine an2 ?_ | fail)
    refine W_cond (by rfl) (fun hz => by cases hz) (fun _ => ?_)
    refine W_skip ?_
    (refine sy1 ?_; try exact True.intro)
    repeat (first | refine WK_go ?_ | refine W_seqL ?_ | refine W_seq ?_ | refine W_block ?_)
    refine W_regTP 6 2 0 (by decide) (by decide) (by decide) ?_
    simp (maxSteps := 400000) (disch := omega) only [push_cast, ↓reduceIte, reduceCtorEq, Nat.reduceAdd, Nat.reduceSub, Nat.reduceEqDiff, Nat.reduceLeDiff, Nat.reduceLT, Nat.reduceBEq, Nat.reduceDiv, Nat.reduceMod, Nat.reducePow, Nat.reduceMul, Int.reduceToNat, Int.reduceLT, Int.reduceLE, hN, List.take_succ_cons, List.take_zero, List.drop_succ_cons, List.drop_zero]
    refine ⟨rfl, ⟨by omega, by omega, by omega⟩, Bool, false, cB, false, rfl, rfl, by omega, rfl, ?_⟩
    simp (maxSteps := 400000) (disch := omega) only [push_cast, ↓reduceIte, reduceCtorEq, Nat.reduceAdd, Nat.reduceSub, Nat.reduceEqDiff, Nat.reduceLeDiff, Nat.reduceLT, Nat.reduceBEq, Nat.reduceDiv, Nat.reduceMod, Nat.reducePow, Nat.reduceMul, Int.reduceToNat, Int.reduceLT, Int.reduceLE, Int.toNat_natCast]
    refine ⟨_, le_frzR 204 [2, 3, 4, 5, 6, 7, 8, 9, 18, 19, 22, 199, 200, 201] [] 169 168 0 4 1 false cB (List.replicate N false) rfl rfl rfl rfl, ?_⟩
    simp (maxSteps := 400000) (disch := omega) only [push_cast, ↓reduceIte, reduceCtorEq, Nat.reduceAdd, Nat.reduceSub, Nat.reduceEqDiff, Nat.reduceLeDiff, Nat.reduceLT, Nat.reduceBEq, Nat.reduceDiv, Nat.reduceMod, Nat.reducePow, Nat.reduceMul, Int.reduceToNat, Int.reduceLT, Int.reduceLE, List.take_succ_cons, List.take_zero, List.drop_succ_cons, List.drop_zero]
    refine CallC.now c36 ?_
    (refine sy1 ?_; try exact True.intro)
    repeat' (first | refine w1g ?_ | refine w1l ?_ | refine w1q ?_ | refine w1b ?_ | refine w1p ?_ | ((first | refine w1r ?_ | refine w1k ?_ | refine w1e ?_); (refine sy1 ?_; try exact True.intro)) | refine an2 ?_ | fail)
    refine W_loopU (fun i : Nat => [(30, iv i)]) (fun i => []) (fun i => i ≤ O.length) (fun i => O.length - i) 0 (by omega) (by rfl) (by rfl) (fun i hi => ?_)
    (refine sy1 ?_; try exact True.intro)
    repeat' (first | refine w1g ?_ | refine w1l ?_ | refine w1q ?_ | refine w1b ?_ | refine w1p ?_ | ((first | refine w1r ?_ | refine w1k ?_ | refine w1e ?_); (refine sy1 ?_; try exact True.intro)) | refine an2 ?_ | fail)
    refine W_condD (by rfl) (fun h5 => ?_) (fun h5 => ?_)
    rotate_left
    · repeat' (first | refine w1g ?_ | refine w1l ?_ | refine w1q ?_ | refine w1b ?_ | refine w1p ?_ | ((first | refine w1r ?_ | refine w1k ?_ | refine w1e ?_ | refine CallC.now (fn14) ?_); (refine sy1 ?_; try exact True.intro)) | refine an2 ?_ | fail)
      exact W_ret ⟨[_], ⟨rfl, rfl⟩, rfl⟩
    have hlt : i < O.length := by omega
    obtain ⟨x, hx⟩ : ∃ x, O.getD i [] = x := ⟨_, rfl⟩
    have hxO : x ∈ O := by rw [← hx]; exact getD_memL hlt
    obtain ⟨a1, a2, a3, a4, a5, a6, a7, a8, _⟩ := main x hxO
    have k20 := c20 x hxO
    have k34 := c34 x hxO
    have k34b := c34b x hxO
    rw [a1, a2] at k20
    rw [a3, a4] at k34
    rw [a5, a6] at k34b
    have hw := hown x hxO
    have hw2 := hoth x hxO
    generalize czR m f st x = CZ at *
    generalize arT m x t = AT at *
    generalize arT m x (t + v) = AV2 at *
    repeat' (first | refine w1g ?_ | refine w1l ?_ | refine w1q ?_ | refine w1b ?_ | refine w1p ?_ | ((first | refine w1r ?_ | refine w1k ?_ | refine w1e ?_ | refine CallC.now (k20) ?_); simp (maxSteps := 400000) (disch := omega) only [push_cast, ↓reduceIte, reduceCtorEq, Nat.reduceAdd, Nat.reduceSub, Nat.reduceEqDiff, Nat.reduceLeDiff, Nat.reduceLT, Nat.reduceBEq, Nat.reduceDiv, Nat.reduceMod, Nat.reducePow, Nat.reduceMul, Int.reduceToNat, Int.reduceLT, Int.reduceLE, hx]) | refine an2 ?_ | fail)
    refine CallC.now k34 ?_
    (refine sy1 ?_; try exact True.intro)
    repeat' (first | refine w1g ?_ | refine w1l ?_ | refine w1q ?_ | refine w1b ?_ | refine w1p ?_ | ((first | refine w1r ?_ | refine w1k ?_ | refine w1e ?_ | refine CallC.now (k34b) ?_); simp (maxSteps := 400000) (disch := omega) only [push_cast, ↓reduceIte, reduceCtorEq, Nat.reduceAdd, Nat.reduceSub, Nat.reduceEqDiff, Nat.reduceLeDiff, Nat.reduceLT, Nat.reduceBEq, Nat.reduceDiv, Nat.reduceMod, Nat.reducePow, Nat.reduceMul, Int.reduceToNat, Int.reduceLT, Int.reduceLE, hx]) | refine an2 ?_ | fail)
    refine W_cond (by rfl) (fun hz => ?_) (fun _ => ?_)
    · simp at hz
      omega
    rcases CZ with _ | ⟨C0, CZ⟩
    · have w1 := hw rfl
      have l1 : decide (AT < U) = false := decide_eq_false (by omega)
      by_cases hC : CE = 0
      · have w2 := hw2 rfl hC
        have w3 := hlb2 hC
        have hto0 := hto.1
        subst hC
        repeat' (first | refine w1g ?_ | refine w1l ?_ | refine w1q ?_ | refine w1b ?_ | refine w1p ?_ | ((first | refine w1r ?_ | refine w1k ?_ | refine w1e ?_); simp (maxSteps := 400000) (disch := omega) only [push_cast, ↓reduceIte, reduceCtorEq, Nat.reduceAdd, Nat.reduceSub, Nat.reduceEqDiff, Nat.reduceLeDiff, Nat.reduceLT, Nat.reduceBEq, Nat.reduceDiv, Nat.reduceMod, Nat.reducePow, Nat.reduceMul, Int.reduceToNat, Int.reduceLT, Int.reduceLE, List.length_nil, l1, glb]) | refine an2 ?_ | fail)
        refine W_cond (by rfl) (fun hz => ?_) (fun _ => ?_)
        · rw [decide_eq_false (show ¬ gi lb to.toNat < 0 by omega), decide_eq_false (show ¬ AT < gi lb to.toNat by omega)] at hz
          cases hz
        repeat' (first | refine w1g ?_ | refine w1l ?_ | refine w1q ?_ | refine w1b ?_ | refine w1p ?_ | ((first | refine w1r ?_ | refine w1k ?_ | refine w1e ?_); (refine sy1 ?_; try exact True.intro)) | refine an2 ?_ | fail)
        refine ⟨i + 1, by omega, by omega, by rfl, ?_⟩
        (refine syE ?_; try exact True.intro)
      · have hC2 : (CE == 0) = false := by rw [beq_eq_false_iff_ne]; exact hC
        repeat' (first | refine w1g ?_ | refine w1l ?_ | refine w1q ?_ | refine w1b ?_ | refine w1p ?_ | ((first | refine w1r ?_ | refine w1k ?_ | refine w1e ?_); simp (maxSteps := 400000) (disch := omega) only [push_cast, ↓reduceIte, reduceCtorEq, Nat.reduceAdd, Nat.reduceSub, Nat.reduceEqDiff, Nat.reduceLeDiff, Nat.reduceLT, Nat.reduceBEq, Nat.reduceDiv, Nat.reduceMod, Nat.reducePow, Nat.reduceMul, Int.reduceToNat, Int.reduceLT, Int.reduceLE, List.length_nil, l1, hC2]) | refine an2 ?_ | fail)
        refine ⟨fun z => absurd z.1 id, fun z => absurd z.2.1 id, ?_⟩
        refine W_cond (by rfl) (fun hz => by cases hz) (fun _ => ?_)
        repeat' (first | refine w1g ?_ | refine w1l ?_ | refine w1q ?_ | refine w1b ?_ | refine w1p ?_ | ((first | refine w1r ?_ | refine w1k ?_ | refine w1e ?_); (refine sy1 ?_; try exact True.intro)) | refine an2 ?_ | fail)
        refine ⟨i + 1, by omega, by omega, by rfl, ?_⟩
        (refine syE ?_; try exact True.intro)
    have hc0 : ∀ z : Int, 0 ≤ z → (z + 1 == 0) = false := fun z hz => by rw [beq_eq_false_iff_ne]; omega
    repeat' (first | refine w1g ?_ | refine w1l ?_ | refine w1q ?_ | refine w1b ?_ | refine w1p ?_ | ((first | refine w1r ?_ | refine w1k ?_ | refine w1e ?_); simp (maxSteps := 400000) (disch := omega) only [push_cast, ↓reduceIte, reduceCtorEq, Nat.reduceAdd, Nat.reduceSub, Nat.reduceEqDiff, Nat.reduceLeDiff, Nat.reduceLT, Nat.reduceBEq, Nat.reduceDiv, Nat.reduceMod, Nat.reducePow, Nat.reduceMul, Int.reduceToNat, Int.reduceLT, Int.reduceLE, List.length_cons, hc0]) | refine an2 ?_ | fail)
    refine W_cond (by rfl) (fun hz => by cases hz) (fun _ => ?_)
    repeat' (first | refine w1g ?_ | refine w1l ?_ | refine w1q ?_ | refine w1b ?_ | refine w1p ?_ | ((first | refine w1r ?_ | refine w1k ?_ | refine w1e ?_); (refine sy1 ?_; try exact True.intro)) | refine an2 ?_ | fail)
    refine ⟨i + 1, by omega, by omega, by rfl, ?_⟩
    (refine syE ?_; try exact True.intro)
end Go.Proofs.Ytfbdlmenhoagmaa

namespace Go.Proofs.Ytfbdlmenhoagmaa
open Go Sy Go.ChangeShapes Go.WideShapes Go.RowKit
set_option maxRecDepth 100000
set_option linter.unusedVariables false
theorem own : ownKnob Try.prog.godebug = none := by kernel_rfl
theorem laidOut : laidOutB Try.prog = true := by kernel_rfl
theorem walk12 (W : World) (v0 v1 v2 v3 v4 v5 v6 v7 : Value) (m : Mp) (f : Nat → Int) (st : List Int) (fr : Int) (to : Int) (t : Int) (lb : List Int) (u : Int) (h0 : fsat (inW W) W (aM m) v0) (h1 : fsat (inW W) W (.agg (c6 f)) v1) (h2 : fsat (inW W) W (aI st) v2) (h3 : fsat (inW W) W (iv fr) v3) (h4 : fsat (inW W) W (iv to) v4) (h5 : fsat (inW W) W (iv t) v5) (h6 : fsat (inW W) W (aI lb) v6) (h7 : fsat (inW W) W (.v (.int .u16 u)) v7) (om : OM m) (of : ∀ k, k < 6 → I64 (f k)) (ost : st.length * 8 ≤ 140737488351232) (ofr : I64 fr) (oto : I64 to) (ot : I64 t) (olb : lb.length * 8 ≤ 140737488351232) (ou : 0 ≤ u ∧ u ≤ 65535) :
    Calls Try.prog 12 #[v0, v1, v2, v3, v4, v5, v6, v7] W fun e w' => e = .returned (.bool true) ∧ Below W.heap.size W w' := by
  have hf : Sy.Fn Try.prog 12 [aM m, .agg (c6 f), aI st, iv fr, iv to, iv t, aI lb, .v (.int .u16 u)] (bv true) := by have e : ((u.toNat : Nat) : Int) = u := (by omega); have h := fn12 m f st fr to t lb u.toNat om.big (by omega) (by omega) (by omega); rwa [e] at h
  refine (hf.2 (inW W) W [v0, v1, v2, v3, v4, v5, v6, v7] (fun b hb => hb) ?_).mono ?_
  · simp only [fsatT]
    exact ⟨v0, _, rfl, h0, v1, _, rfl, h1, v2, _, rfl, h2, v3, _, rfl, h3, v4, _, rfl, h4, v5, _, rfl, h5, v6, _, rfl, h6, v7, _, rfl, h7, rfl⟩
  · rintro e w' ⟨v, rfl, hb, hv⟩
    simp only [fsat] at hv
    exact ⟨by rw [hv], hb⟩
theorem lifted12 (os : Os) (started : os.Started) (H : Type) (enc : TypeId × Value → H) :
    ReturnsInHanded {} Try.checked os 12 .any (Rows.roadHoursSpec.pre6 enc Try.prog Try.f12 Rows.roadHoursRow.domain false) (Rows.roadHoursSpec.post enc Try.prog Try.f12 false true false false) := by
  refine returnsInHanded_of_change_sized (C := Try.checked) own started (by kernel_rfl) Try.func12
    (ChangeSpec.witness6 (enc := enc) (C := Try.checked) false ⟨#[], #[.agg #[.int .i64 0, .slice none 0 0, .slice none 0 0], .agg #[.int .i64 0, .int .i64 0, .int .i64 0, .int .i64 0, .int .i64 0, .int .i64 0], .slice none 0 0, .int .i64 0, .int .i64 0, .int .i64 0, .slice none 0 0, .int .u16 0], []⟩ 8 (by kernel_rfl) (by kernel_rfl) (by kernel_rfl) (by kernel_rfl)) ?_
  intro W base args ds gs before hval0 hW hcnd hsz _
  have hval : ∀ (j : Nat) t v, Try.f12.params[j]? = some t → args[j]? = some v → Value.okWide Try.prog W .any base t v := hval0
  have hW' := hW
  obtain ⟨p, q, hA0, hV, rfl, hfz, hnd⟩ := hW
  have hA : DataW.TrodAll enc Try.prog W 0 (fun _ => true) true Try.f12.params.toList args.toList ds p := hA0
  rw [Try.params12] at hA hval
  obtain ⟨v0, vs0, d0, ds0, p0, q0, hargs, rfl, rfl, h0, r0⟩ := trodAll_cons hA
  obtain ⟨v1, vs1, d1, ds1, p1, q1, rfl, rfl, rfl, h1, r1⟩ := trodAll_cons r0
  obtain ⟨v2, vs2, d2, ds2, p2, q2, rfl, rfl, rfl, h2, r2⟩ := trodAll_cons r1
  obtain ⟨v3, vs3, d3, ds3, p3, q3, rfl, rfl, rfl, h3, r3⟩ := trodAll_cons r2
  obtain ⟨v4, vs4, d4, ds4, p4, q4, rfl, rfl, rfl, h4, r4⟩ := trodAll_cons r3
  obtain ⟨v5, vs5, d5, ds5, p5, q5, rfl, rfl, rfl, h5, r5⟩ := trodAll_cons r4
  obtain ⟨v6, vs6, d6, ds6, p6, q6, rfl, rfl, rfl, h6, r6⟩ := trodAll_cons r5
  obtain ⟨v7, vs7, d7, ds7, p7, q7, rfl, rfl, rfl, h7, r7⟩ := trodAll_cons r6
  obtain ⟨rfl, rfl, rfl⟩ := trodAll_nil r7
  obtain rfl : args = #[v0, v1, v2, v3, v4, v5, v6, v7] := by cases args; simp_all
  obtain ⟨rfl, rfl⟩ := trodVars_none hV
  have hs : ∀ (j : Nat) t (d : DataW H), [25, 26, 27, 3, 3, 2, 69, 85][j]? = some t → [d0, d1, d2, d3, d4, d5, d6, d7][j]? = some d → ∀ n ∈ d.weights Try.prog t, n ≤ reachBytes := fun j t d ht hd n hn => by
    have hall := List.all_eq_true.1 hsz n (DataW.weights_mem_each (j := j) (t := t) (d := d) (by rw [Try.params12]; simpa using (List.getElem?_append_left (l₂ := _) (by have := (List.getElem?_eq_some_iff.1 ht).1; simpa using this)).trans ht) (by simpa using (List.getElem?_append_left (l₂ := _) (by have := (List.getElem?_eq_some_iff.1 hd).1; simpa using this)).trans hd) n hn)
    simpa using hall
  have lt0 : ∀ x ∈ p0, x.block < W.heap.size := by obtain ⟨m, hm⟩ := h0; exact DataW.trod_lt m _ _ _ hm
  have lt1 : ∀ x ∈ p1, x.block < W.heap.size := by obtain ⟨m, hm⟩ := h1; exact DataW.trod_lt m _ _ _ hm
  have lt2 : ∀ x ∈ p2, x.block < W.heap.size := by obtain ⟨m, hm⟩ := h2; exact DataW.trod_lt m _ _ _ hm
  have lt3 : ∀ x ∈ p3, x.block < W.heap.size := by obtain ⟨m, hm⟩ := h3; exact DataW.trod_lt m _ _ _ hm
  have lt4 : ∀ x ∈ p4, x.block < W.heap.size := by obtain ⟨m, hm⟩ := h4; exact DataW.trod_lt m _ _ _ hm
  have lt5 : ∀ x ∈ p5, x.block < W.heap.size := by obtain ⟨m, hm⟩ := h5; exact DataW.trod_lt m _ _ _ hm
  have lt6 : ∀ x ∈ p6, x.block < W.heap.size := by obtain ⟨m, hm⟩ := h6; exact DataW.trod_lt m _ _ _ hm
  have lt7 : ∀ x ∈ p7, x.block < W.heap.size := by obtain ⟨m, hm⟩ := h7; exact DataW.trod_lt m _ _ _ hm
  obtain ⟨m, om, s0⟩ := k25.arg (by kernel_rfl) (hval 0 25 v0 rfl rfl) h0 (hs 0 25 d0 rfl rfl)
  obtain ⟨f, of, s1⟩ := k26.arg (by kernel_rfl) (hval 1 26 v1 rfl rfl) h1 (hs 1 26 d1 rfl rfl)
  obtain ⟨st, ost, s2⟩ := k27.arg1 (by kernel_rfl) (hval 2 27 v2 rfl rfl) h2 (hs 2 27 d2 rfl rfl)
  obtain ⟨fr, ofr, s3⟩ := k3.arg1 (by kernel_rfl) (hval 3 3 v3 rfl rfl) h3 (hs 3 3 d3 rfl rfl)
  obtain ⟨to, oto, s4⟩ := k3.arg1 (by kernel_rfl) (hval 4 3 v4 rfl rfl) h4 (hs 4 3 d4 rfl rfl)
  obtain ⟨t, ot, s5⟩ := k2.arg1 (by kernel_rfl) (hval 5 2 v5 rfl rfl) h5 (hs 5 2 d5 rfl rfl)
  obtain ⟨lb, olb, s6⟩ := k69.arg1 (by kernel_rfl) (hval 6 69 v6 rfl rfl) h6 (hs 6 69 d6 rfl rfl)
  obtain ⟨u, ou, s7⟩ := k85.arg1 (by kernel_rfl) (hval 7 85 v7 rfl rfl) h7 (hs 7 85 d7 rfl rfl)
  clear hA0 hval0
  refine (walk12 W v0 v1 v2 v3 v4 v5 v6 v7 m f st fr to t lb u s0 s1 s2 s3 s4 s5 s6 s7 om of ost ofr oto ot olb ou).mono fun e W' ⟨he, bel⟩ => ?_
  subst he
  exact ⟨_, rfl, _, _, _, [], _, [], hW', trodAll_mk1 (shut_bool Try.underlying4 _), (trodAll_cons_mk (Below.trod laidOut (by kernel_rfl) (of_decide_eq_true (by kernel_rfl)) h0 bel lt0) (trodAll_cons_mk (Below.trod laidOut (by kernel_rfl) (of_decide_eq_true (by kernel_rfl)) h1 bel lt1) (trodAll_cons_mk (Below.trod laidOut (by kernel_rfl) (of_decide_eq_true (by kernel_rfl)) h2 bel lt2) (trodAll_cons_mk (Below.trod laidOut (by kernel_rfl) (of_decide_eq_true (by kernel_rfl)) h3 bel lt3) (trodAll_cons_mk (Below.trod laidOut (by kernel_rfl) (of_decide_eq_true (by kernel_rfl)) h4 bel lt4) (trodAll_cons_mk (Below.trod laidOut (by kernel_rfl) (of_decide_eq_true (by kernel_rfl)) h5 bel lt5) (trodAll_cons_mk (Below.trod laidOut (by kernel_rfl) (of_decide_eq_true (by kernel_rfl)) h6 bel lt6) (trodAll_cons_mk (Below.trod laidOut (by kernel_rfl) (of_decide_eq_true (by kernel_rfl)) h7 bel lt7) trodAll_mk0)))))))), rfl, bel.frame _, fun h => by cases h⟩
theorem over12 : Rows.roadHoursRow.holds Try.pinned (OpenSpec.ofChange Rows.roadHoursSpec) :=
  OpenClaim.holds_of_wide 12 Try.f12 rfl rfl rfl rfl rfl rfl rfl ⟨rfl, rfl, rfl, rfl, rfl⟩ rfl rfl rfl rfl rfl (by kernel_rfl) Try.func12 (by kernel_rfl)
    (of_decide_eq_true (by kernel_rfl)) (by unfold Func.isWrapper; first | (rw [if_pos (by decide +kernel)]; kernel_rfl) | (rw [if_neg (by decide +kernel)]; exact ⟨rfl, rfl⟩))
    (fun os started H enc _ => lifted12 os started H enc)
theorem road_hours_holds : Rows.RoadHoursSaid := over12
end Go.Proofs.Ytfbdlmenhoagmaa

