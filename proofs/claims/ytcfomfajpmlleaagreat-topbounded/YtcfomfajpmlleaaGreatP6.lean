/- Part 6 of the proof of: TopBounded: for every input the law returns true -/
import Derived.Test.YtcfomfajpmlleaaGreatP5
import Derived.Laws.Bits64b
namespace Go.Proofs.YtcfomfajpmlleaaGreat.R
set_option linter.unusedVariables false
structure Edg where
  x : Nat
  y : Nat
  c : Int
abbrev far : Int := 1125899906842624
abbrev gi (l : List Int) (i : Nat) : Int := l.getD i 0
def stp (o : List Int) (e : Edg) : List Int := if 0 ≤ e.c ∧ gi o e.x < far ∧ gi o e.x + e.c < gi o e.y then o.set e.y (gi o e.x + e.c) else o
def pas (o : List Int) (es : List Edg) : List Int := es.foldl stp o
inductive Wk (es : List Edg) (s : Nat) : Nat → Int → Prop
  | nil : Wk es s s 0
  | snoc {e : Edg} {d : Int} : Wk es s e.x d → e ∈ es → 0 ≤ e.c → Wk es s e.y (d + e.c)
theorem Wk.mono {es fs : List Edg} {s y : Nat} {d : Int} (h : Wk es s y d) (hf : ∀ e ∈ es, 0 ≤ e.c → e ∈ fs) : Wk fs s y d := by
  induction h with
  | nil => exact .nil
  | snoc _ h2 h3 ih => exact .snoc ih (hf _ h2 h3) h3
theorem Wk.nn {es : List Edg} {s y : Nat} {d : Int} (h : Wk es s y d) : 0 ≤ d := by
  induction h with
  | nil => exact Int.le_refl _
  | snoc _ _ h3 ih => omega
theorem stp_len (o : List Int) (e : Edg) : (stp o e).length = o.length := by
  unfold stp
  split <;> simp
theorem gi_set {o : List Int} {j i : Nat} {v : Int} (hj : j < o.length) : gi (o.set j v) i = if i = j then v else gi o i := by
  simp only [gi, List.getD_eq_getElem?_getD, List.getElem?_set]
  by_cases q : i = j
  · subst q; simp [hj]
  · rw [if_neg (fun e => q e.symm), if_neg q]
structure Dst (es : List Edg) (s n : Nat) (o : List Int) : Prop where
  len : o.length = n
  src : gi o s = 0
  ach : ∀ y, y < n → gi o y = far ∨ (gi o y < far ∧ Wk es s y (gi o y))
theorem Dst.le {es : List Edg} {s n : Nat} {o : List Int} (h : Dst es s n o) {y : Nat} (hy : y < n) : 0 ≤ gi o y ∧ gi o y ≤ far := by
  rcases h.ach y hy with h1 | ⟨h1, h2⟩
  · rw [h1]; exact ⟨by decide, Int.le_refl _⟩
  · exact ⟨h2.nn, by omega⟩
theorem stp_dst {es : List Edg} {s n : Nat} {o : List Int} (h : Dst es s n o) {e : Edg} (he : e ∈ es) (hx : e.x < n) (hy : e.y < n) : Dst es s n (stp o e) := by
  unfold stp
  split
  · rename_i q
    obtain ⟨q1, q2, q3⟩ := q
    have hlen := h.len
    have hl : e.y < o.length := by omega
    have hyl := (h.le hy).2
    have hx0 := (h.le hx).1
    refine ⟨by rw [List.length_set]; exact h.len, ?_, fun y hyn => ?_⟩
    · rw [gi_set hl]
      split
      · rename_i r
        rw [← r, h.src] at q3; omega
      · exact h.src
    · rw [gi_set hl]
      split
      · rename_i r
        subst r
        rcases h.ach e.x hx with h1 | ⟨h1, h2⟩
        · omega
        · exact .inr ⟨by omega, .snoc h2 he q1⟩
      · exact h.ach y hyn
  · exact h
theorem pas_dst {es : List Edg} {s n : Nat} (hr : ∀ e ∈ es, e.x < n ∧ e.y < n) : ∀ (fs : List Edg) (o : List Int), (∀ e ∈ fs, e ∈ es) → Dst es s n o → Dst es s n (pas o fs)
  | [], o, _, h => h
  | e :: fs, o, hs, h => pas_dst hr fs (stp o e) (fun x hx => hs x (List.mem_cons_of_mem _ hx)) (stp_dst h (hs e List.mem_cons_self) (hr e (hs e List.mem_cons_self)).1 (hr e (hs e List.mem_cons_self)).2)
def Fix (es : List Edg) (o : List Int) : Prop := ∀ e ∈ es, 0 ≤ e.c → gi o e.x < far → gi o e.y ≤ gi o e.x + e.c
theorem fix_le {es : List Edg} {s n : Nat} {o : List Int} (hr : ∀ e ∈ es, e.x < n ∧ e.y < n) (h : Dst es s n o) (hf : Fix es o) {y : Nat} {d : Int} (hw : Wk es s y d) : gi o y ≤ d := by
  induction hw with
  | nil => rw [h.src]; exact Int.le_refl _
  | snoc h1 h2 h3 ih =>
    rename_i e d'
    have hy := (h.le (hr e h2).2).2
    by_cases q : gi o e.x < far
    · have := hf e h2 h3 q; omega
    · omega
theorem dist_le {es fs : List Edg} {s n : Nat} {o u : List Int} (hr : ∀ e ∈ fs, e.x < n ∧ e.y < n) (h : Dst es s n o) (h2 : Dst fs s n u) (hf : Fix fs u) (hs : ∀ e ∈ es, 0 ≤ e.c → e ∈ fs) {y : Nat} (hy : y < n) : gi u y ≤ gi o y := by
  rcases h.ach y hy with h1 | ⟨h1, hw⟩
  · rw [h1]; exact (h2.le hy).2
  · exact fix_le hr h2 hf (hw.mono hs)
theorem dist_eq {es : List Edg} {s n : Nat} {o u : List Int} (hr : ∀ e ∈ es, e.x < n ∧ e.y < n) (h : Dst es s n o) (hf : Fix es o) (h2 : Dst es s n u) (hf2 : Fix es u) {y : Nat} (hy : y < n) : gi u y = gi o y := by
  have := dist_le hr h h2 hf2 (fun e he _ => he) hy
  have := dist_le hr h2 h hf (fun e he _ => he) hy
  omega
def tot : List Int → Int
  | [] => 0
  | x :: l => x + tot l
theorem tot_set : ∀ (l : List Int) (j : Nat) (v : Int), j < l.length → tot (l.set j v) = tot l - gi l j + v
  | [], j, v, h => by simp at h
  | x :: l, 0, v, h => by simp [tot, gi]; omega
  | x :: l, j + 1, v, h => by
    have ih := tot_set l j v (by simpa using h)
    simp only [List.set_cons_succ, tot, ih]
    simp [gi]
    omega
theorem tot_nn : ∀ (l : List Int), (∀ j, j < l.length → 0 ≤ gi l j) → 0 ≤ tot l
  | [], _ => Int.le_refl _
  | x :: l, h => by
    have h0 := h 0 (by simp)
    have ih := tot_nn l (fun j hj => by simpa [gi] using h (j + 1) (by simpa using hj))
    simp only [tot]
    simp [gi] at h0
    omega
end Go.Proofs.YtcfomfajpmlleaaGreat.R

namespace Go.Proofs.YtcfomfajpmlleaaGreat.R
set_option linter.unusedVariables false
def inR (x lo hi : Int) : Bool := decide (lo ≤ x) && decide (x ≤ hi)
theorem inR_iff {x lo hi : Int} : inR x lo hi = true ↔ lo ≤ x ∧ x ≤ hi := by unfold inR; rw [Bool.and_eq_true, decide_eq_true_eq, decide_eq_true_eq]
structure Rd where
  f : Int
  t : Int
  c : Int
  m : Int
  o : Int
  z : Int
  l0 : Int
  l1 : Int
  l2 : Int
  l3 : Int
  l4 : Int
  l5 : Int
structure Wrk where
  rs : List Int
  k : Int
  l : Int
  c : Int
structure Mp where
  n : Int
  rs : List Rd
  ws : List Wrk
def dR : Rd := ⟨0, 0, 0, 0, 0, 0, 0, 0, 0, 0, 0, 0⟩
def dW : Wrk := ⟨[], 0, 0, 0⟩
def Rd.lim (r : Rd) : Nat → Int
  | 0 => r.l0
  | 1 => r.l1
  | 2 => r.l2
  | 3 => r.l3
  | 4 => r.l4
  | _ => r.l5
abbrev gr (m : Mp) (i : Nat) : Rd := m.rs.getD i dR
abbrev gw (m : Mp) (i : Nat) : Wrk := m.ws.getD i dW
def lastI (l : List Int) (i : Nat) : Int := if i = 0 then -1 else gi l (i - 1)
def okAt (l : List Int) (n : Int) (i : Nat) : Bool := decide (lastI l i < gi l i) && decide (gi l i < n)
def setB (l : List Int) (n : Int) : Bool := (List.range l.length).all (okAt l n)
def szB (f : Nat → Int) : Bool := (List.range 6).all fun k => inR (f k) 0 1073741824
def hrsB (r : Rd) : Bool := decide (0 ≤ r.o) && decide (r.o < r.z) && decide (r.z ≤ 1440) && inR r.m 1 (min 1440 (r.z - r.o))
def plB (n x : Int) : Bool := decide (0 ≤ x) && decide (x < n)
def roadB (n : Int) (r : Rd) : Bool := plB n r.f && plB n r.t && !(r.f == r.t) && inR r.c 1 1073741824 && hrsB r && szB r.lim
def workB (nr : Int) (w : Wrk) : Bool := decide (0 < w.rs.length) && setB w.rs nr && decide (0 ≤ w.k) && decide (w.k ≤ 5) && inR w.l 0 1073741824 && inR w.c 1 1073741824
def manyB (m : Mp) : Bool := decide (256 < m.rs.length) || decide (10 < m.ws.length) || m.ws.any fun w => decide (16 < w.rs.length)
def badM (m : Mp) : Bool := decide (m.n < 1) || decide (64 < m.n) || m.rs.any (fun r => !roadB m.n r) || m.ws.any fun w => !workB m.rs.length w
def chkM (m : Mp) : Int := if manyB m = true then 6 else if badM m = true then 2 else 0
structure OkM (m : Mp) : Prop where
  nr : m.rs.length ≤ 256
  nw : m.ws.length ≤ 10
  n : 1 ≤ m.n ∧ m.n ≤ 64
  r : ∀ i, i < m.rs.length → roadB m.n (gr m i) = true
  w : ∀ i, i < m.ws.length → workB m.rs.length (gw m i) = true
  s : ∀ i, i < m.ws.length → (gw m i).rs.length ≤ 16
theorem getD_mem' {α : Type} (d : α) (l : List α) (i : Nat) (h : i < l.length) : l.getD i d ∈ l := by
  simp [List.getD, h]
theorem chkM_ok {m : Mp} (h : chkM m = 0) : OkM m := by
  unfold chkM at h
  by_cases h1 : manyB m = true
  · rw [if_pos h1] at h; omega
  rw [if_neg h1] at h
  by_cases h2 : badM m = true
  · rw [if_pos h2] at h; omega
  unfold manyB at h1
  unfold badM at h2
  simp only [Bool.or_eq_true, decide_eq_true_eq, List.any_eq_true, not_or, not_exists, not_and, Bool.not_eq_true', Bool.not_eq_false] at h1 h2
  obtain ⟨⟨a1, a2⟩, a3⟩ := h1
  obtain ⟨⟨⟨b1, b2⟩, b3⟩, b4⟩ := h2
  exact ⟨by omega, by omega, by omega, fun i hi => b3 _ (getD_mem' dR _ i hi), fun i hi => b4 _ (getD_mem' dW _ i hi), fun i hi => by have := a3 _ (getD_mem' dW _ i hi); unfold gw; omega⟩
structure OkR (n : Int) (r : Rd) : Prop where
  f : 0 ≤ r.f ∧ r.f < n
  t : 0 ≤ r.t ∧ r.t < n
  ne : r.f ≠ r.t
  c : 1 ≤ r.c ∧ r.c ≤ 1073741824
  o : 0 ≤ r.o ∧ r.o < r.z ∧ r.z ≤ 1440
  m : 1 ≤ r.m ∧ r.m ≤ 1440 ∧ r.m ≤ r.z - r.o
  l : ∀ k, 0 ≤ r.lim k ∧ r.lim k ≤ 1073741824
theorem szB_iff {f : Nat → Int} : szB f = true ↔ ∀ k, k < 6 → 0 ≤ f k ∧ f k ≤ 1073741824 := by
  unfold szB
  rw [List.all_eq_true]
  constructor
  · intro h k hk
    exact inR_iff.1 (h k (List.mem_range.2 hk))
  · intro h k hk
    exact inR_iff.2 (h k (List.mem_range.1 hk))
theorem lim_five (r : Rd) (k : Nat) : r.lim k = r.lim (min k 5) := by
  rcases k with _ | _ | _ | _ | _ | k <;> first | rfl | (rw [show min (k + 1 + 1 + 1 + 1 + 1) 5 = 5 by omega]; rfl)
theorem roadB_ok {n : Int} {r : Rd} (h : roadB n r = true) : OkR n r := by
  unfold roadB plB hrsB at h
  simp only [Bool.and_eq_true, decide_eq_true_eq, Bool.not_eq_true', beq_eq_false_iff_ne, inR_iff] at h
  obtain ⟨⟨⟨⟨⟨h1, h2⟩, h3⟩, h4⟩, h5⟩, h6⟩ := h
  have h7 := szB_iff.1 h6
  exact ⟨h1, h2, h3, h4, by omega, by omega, fun k => by rw [lim_five]; exact h7 _ (by omega)⟩
structure OkW (nr : Int) (w : Wrk) : Prop where
  s : setB w.rs nr = true
  k : 0 ≤ w.k ∧ w.k ≤ 5
  l : 0 ≤ w.l ∧ w.l ≤ 1073741824
  c : 1 ≤ w.c ∧ w.c ≤ 1073741824
theorem workB_ok {nr : Int} {w : Wrk} (h : workB nr w = true) : OkW nr w := by
  unfold workB at h
  simp only [Bool.and_eq_true, decide_eq_true_eq, inR_iff] at h
  obtain ⟨⟨⟨⟨⟨h1, h2⟩, h3⟩, h4⟩, h5⟩, h6⟩ := h
  exact ⟨h2, ⟨h3, h4⟩, h5, h6⟩
def Srt (n : Int) : Int → List Int → Prop
  | _, [] => True
  | lo, x :: l => lo ≤ x ∧ x < n ∧ Srt n (x + 1) l
theorem Srt.mem {n lo : Int} : ∀ {l : List Int}, Srt n lo l → ∀ x ∈ l, lo ≤ x ∧ x < n
  | [], _, x, hx => by cases hx
  | y :: l, h, x, hx => by
    obtain ⟨h1, h2, h3⟩ := h
    rcases List.mem_cons.1 hx with rfl | hx
    · exact ⟨h1, h2⟩
    · have := Srt.mem h3 x hx; omega
theorem Srt.weak {n lo lo' : Int} (h : lo' ≤ lo) : ∀ {l : List Int}, Srt n lo l → Srt n lo' l
  | [], _ => trivial
  | y :: l, hs => ⟨by have := hs.1; omega, hs.2⟩
theorem Srt.len {n lo : Int} : ∀ {l : List Int}, Srt n lo l → lo ≤ n → (l.length : Int) ≤ n - lo
  | [], _, h => by simp; omega
  | y :: l, hs, h => by
    have := Srt.len hs.2.2 (by have := hs.2.1; omega)
    have := hs.1
    simp only [List.length_cons]
    omega
theorem Srt.snoc {n x : Int} : ∀ {l : List Int} {lo : Int}, Srt n lo l → lo ≤ x → x < n → (∀ y ∈ l, y < x) → Srt n lo (l ++ [x])
  | [], lo, _, h1, h2, _ => ⟨h1, h2, trivial⟩
  | y :: l, lo, h, h1, h2, h3 => ⟨h.1, h.2.1, Srt.snoc h.2.2 (by have := h3 y List.mem_cons_self; omega) h2 (fun z hz => h3 z (List.mem_cons_of_mem _ hz))⟩
def pre (l : List Int) (i : Nat) : List Int := l.filter (fun x => decide (x < i))
theorem pre_zero {n : Int} {l : List Int} (h : Srt n 0 l) : pre l 0 = [] := by
  unfold pre
  rw [List.filter_eq_nil_iff]
  intro x hx
  have := h.mem x hx
  simp; omega
theorem pre_all {l : List Int} {i : Nat} (h : ∀ x ∈ l, x < i) : pre l i = l := by
  unfold pre
  rw [List.filter_eq_self]
  intro x hx
  simpa using h x hx
theorem pre_succ {n : Int} {i : Nat} : ∀ {l : List Int} {lo : Int}, Srt n lo l → pre l (i + 1) = pre l i ++ (if (i : Int) ∈ l then [(i : Int)] else [])
  | [], _, _ => by simp [pre]
  | y :: l, lo, h => by
    obtain ⟨h1, h2, h3⟩ := h
    have ih := pre_succ (i := i) h3
    have hm := h3.mem
    unfold pre at ih ⊢
    rw [List.filter_cons, List.filter_cons, ih]
    by_cases c1 : y < i
    · have e1 : decide (y < ((i + 1 : Nat) : Int)) = true := decide_eq_true (by omega)
      have e2 : decide (y < (i : Int)) = true := decide_eq_true c1
      rw [if_pos e1, if_pos e2]
      by_cases c2 : (i : Int) ∈ l
      · rw [if_pos c2, if_pos (List.mem_cons_of_mem _ c2)]; rfl
      · rw [if_neg c2, if_neg (fun q => by
          rcases List.mem_cons.1 q with q | q
          · omega
          · exact c2 q)]
        simp
    · have hl : l.filter (fun x => decide (x < (i : Int))) = [] := by
        rw [List.filter_eq_nil_iff]
        intro x hx
        have := hm x hx
        simp; omega
      have c2 : (i : Int) ∉ l := fun q => by have := hm _ q; omega
      rw [if_neg c2, hl]
      by_cases c3 : y = i
      · have e1 : decide (y < ((i + 1 : Nat) : Int)) = true := decide_eq_true (by omega)
        have e2 : ¬ decide (y < (i : Int)) = true := by rw [decide_eq_true_eq]; exact c1
        rw [if_pos e1, if_neg e2, if_pos (by rw [c3]; exact List.mem_cons_self)]
        simp [c3]
      · have e1 : ¬ decide (y < ((i + 1 : Nat) : Int)) = true := by rw [decide_eq_true_eq]; omega
        have e2 : ¬ decide (y < (i : Int)) = true := by rw [decide_eq_true_eq]; exact c1
        rw [if_neg e1, if_neg e2, if_neg (fun q => by
          rcases List.mem_cons.1 q with q | q
          · exact c3 q.symm
          · exact c2 q)]
structure BitsOf (s : Nat) (l : List Int) : Prop where
  b : ∀ i : Nat, s.testBit i = decide ((i : Int) ∈ l)
theorem bits_nil : BitsOf 0 [] := ⟨fun i => by simp⟩
theorem bits_snoc {s : Nat} {l : List Int} (h : BitsOf s l) (i : Nat) : BitsOf (s ||| 2 ^ i) (l ++ [(i : Int)]) := ⟨fun j => by
  rw [Nat.testBit_or, h.b, Nat.testBit_two_pow]
  by_cases q : i = j
  · subst q; simp
  · have : ¬ ((j : Int) = (i : Int)) := by omega
    simp [q, this]⟩
theorem bits_lt {s n : Nat} {l : List Int} (h : BitsOf s l) (hl : ∀ x ∈ l, x < n) : s < 2 ^ n := by
  apply Nat.lt_pow_two_of_testBit
  intro i hi
  rw [h.b]
  simp only [decide_eq_false_iff_not]
  intro q
  have := hl _ q
  omega
theorem bits_shr {s : Nat} {l : List Int} (h : BitsOf s l) (i : Nat) : s / 2 ^ i % 2 = if (i : Int) ∈ l then 1 else 0 := by
  have := h.b i
  rw [Nat.testBit_eq_decide_div_mod_eq] at this
  by_cases q : (i : Int) ∈ l
  · rw [if_pos q]
    rw [decide_eq_true q, decide_eq_true_eq] at this
    exact this
  · rw [if_neg q]
    rw [decide_eq_false q, decide_eq_false_iff_not] at this
    omega
theorem bits_end {s : Nat} {l : List Int} (h : BitsOf s l) (h0 : ∀ x ∈ l, 0 ≤ x) {i : Nat} (he : s / 2 ^ i = 0) : ∀ x ∈ l, x < i := by
  intro x hx
  apply Classical.byContradiction
  intro q
  have h1 := h.b x.toNat
  have e : ((x.toNat : Nat) : Int) = x := by have := h0 x hx; omega
  rw [e, decide_eq_true hx] at h1
  have h2 : s < 2 ^ i := by
    have := Nat.div_eq_zero_iff.1 he
    rcases this with h3 | h3
    · have := Nat.two_pow_pos i; omega
    · exact h3
  have := Nat.ge_two_pow_of_testBit h1
  have h3 : 2 ^ i ≤ 2 ^ x.toNat := Nat.pow_le_pow_right (by omega) (by omega)
  omega
theorem bits_more {s : Nat} {l : List Int} (h : BitsOf s l) {i : Nat} (he : s / 2 ^ i ≠ 0) (hn : ∀ x ∈ l, x < 10) : i < 10 := by
  have h1 := bits_lt (n := 10) h hn
  apply Classical.byContradiction
  intro q
  apply he
  rw [Nat.div_eq_zero_iff]
  right
  have : 2 ^ 10 ≤ 2 ^ i := Nat.pow_le_pow_right (by omega) (by omega)
  omega
def brn : Nat → List Int → Nat → List (List Int)
  | 0, _, _ => []
  | d + 1, l, i => ((l ++ [(i : Int)]) :: brn d (l ++ [(i : Int)]) (i + 1)) ++ brn d l (i + 1)
def setsM (n : Nat) : List (List Int) := [] :: brn n [] 0
theorem brn_srt {n : Nat} : ∀ (d : Nat) (l : List Int) (i : Nat), i + d = n → Srt n 0 l → (∀ y ∈ l, y < (i : Int)) → ∀ s ∈ brn d l i, Srt n 0 s
  | 0, _, _, _, _, _, s, hs => by cases hs
  | d + 1, l, i, hi, hl, hy, s, hs => by
    have h1 : Srt n 0 (l ++ [(i : Int)]) := hl.snoc (by omega) (by omega) hy
    have h2 : ∀ y ∈ l ++ [(i : Int)], y < ((i + 1 : Nat) : Int) := fun y hy' => by
      rcases List.mem_append.1 hy' with q | q
      · have := hy y q; omega
      · rw [List.mem_singleton] at q; omega
    simp only [brn, List.cons_append, List.mem_cons, List.mem_append] at hs
    rcases hs with rfl | hs | hs
    · exact h1
    · exact brn_srt d _ (i + 1) (by omega) h1 h2 s hs
    · exact brn_srt d l (i + 1) (by omega) hl (fun y q => by have := hy y q; omega) s hs
theorem sets_srt {n : Nat} : ∀ s ∈ setsM n, Srt n 0 s := by
  intro s hs
  rcases List.mem_cons.1 hs with rfl | hs
  · trivial
  · exact brn_srt n [] 0 (by omega) trivial (fun y hy => by cases hy) s hs
def lstep (f : List Int → Int) (ok : List Int → Bool) (b : Option (List Int × Int)) (x : List Int) : Option (List Int × Int) :=
  if ok x = true then (match b with
    | none => some (x, f x)
    | some (y, n) => if f x < n then some (x, f x) else some (y, n)) else b
def leastL (f : List Int → Int) (ok : List Int → Bool) (l : List (List Int)) : Option (List Int × Int) := l.foldl (lstep f ok) none
theorem leastL_snoc (f : List Int → Int) (ok : List Int → Bool) (l : List (List Int)) (x : List Int) : leastL f ok (l ++ [x]) = lstep f ok (leastL f ok l) x := by
  unfold leastL
  rw [List.foldl_append]; rfl
end Go.Proofs.YtcfomfajpmlleaaGreat.R

namespace Go.Proofs.YtcfomfajpmlleaaGreat.R
set_option linter.unusedVariables false
theorem stp_le (o : List Int) (e : Edg) (hy : e.y < o.length) (i : Nat) : gi (stp o e) i ≤ gi o i := by
  unfold stp
  split
  · rename_i q
    rw [gi_set hy]
    split
    · rename_i r; rw [r]; omega
    · exact Int.le_refl _
  · exact Int.le_refl _
theorem pas_le : ∀ (es : List Edg) (o : List Int), (∀ e ∈ es, e.y < o.length) → ∀ i, gi (pas o es) i ≤ gi o i
  | [], o, _, i => Int.le_refl _
  | e :: es, o, h, i => by
    have h1 := pas_le es (stp o e) (fun x hx => by rw [stp_len]; exact h x (List.mem_cons_of_mem _ hx)) i
    have h2 := stp_le o e (h e List.mem_cons_self) i
    show gi (pas (stp o e) es) i ≤ _
    omega
theorem pas_use : ∀ (es : List Edg) (o : List Int), (∀ e ∈ es, e.y < o.length) → ∀ e ∈ es, 0 ≤ e.c → gi o e.x < far → gi (pas o es) e.y ≤ gi o e.x + e.c
  | [], o, _, e, he, _, _ => by cases he
  | f :: es, o, h, e, he, hc, hf => by
    have hs : ∀ e ∈ es, e.y < (stp o f).length := fun x hx => by rw [stp_len]; exact h x (List.mem_cons_of_mem _ hx)
    show gi (pas (stp o f) es) e.y ≤ _
    rcases List.mem_cons.1 he with rfl | he
    · have h1 := pas_le es (stp o e) hs e.y
      have h2 : gi (stp o e) e.y ≤ gi o e.x + e.c := by
        unfold stp
        split
        · rw [gi_set (h e List.mem_cons_self), if_pos rfl]; exact Int.le_refl _
        · rename_i q
          by_cases z : gi o e.x + e.c < gi o e.y
          · exact absurd ⟨hc, hf, z⟩ q
          · omega
      omega
    · have h1 := stp_le o f (h f List.mem_cons_self) e.x
      have := pas_use es (stp o f) hs e he hc (by omega)
      omega
theorem stp_tot (o : List Int) (e : Edg) (hy : e.y < o.length) : tot (stp o e) ≤ tot o ∧ (tot (stp o e) = tot o → stp o e = o) := by
  unfold stp
  split
  · rename_i q
    rw [tot_set _ _ _ hy]
    exact ⟨by omega, fun r => by omega⟩
  · exact ⟨Int.le_refl _, fun _ => rfl⟩
theorem pas_tot : ∀ (es : List Edg) (o : List Int), (∀ e ∈ es, e.y < o.length) → tot (pas o es) ≤ tot o ∧ (tot (pas o es) = tot o → ∀ e ∈ es, stp o e = o)
  | [], o, _ => ⟨Int.le_refl _, fun _ e he => by cases he⟩
  | e :: es, o, h => by
    obtain ⟨h1, h2⟩ := stp_tot o e (h e List.mem_cons_self)
    obtain ⟨h3, h4⟩ := pas_tot es (stp o e) (fun x hx => by rw [stp_len]; exact h x (List.mem_cons_of_mem _ hx))
    show tot (pas (stp o e) es) ≤ _ ∧ (tot (pas (stp o e) es) = _ → _)
    refine ⟨by omega, fun q f hf => ?_⟩
    have e1 := h2 (by omega)
    rcases List.mem_cons.1 hf with rfl | hf
    · exact e1
    · have := h4 (by omega) f hf
      rwa [e1] at this
theorem pas_same : ∀ (es : List Edg) (o : List Int), (∀ e ∈ es, stp o e = o) → pas o es = o
  | [], o, _ => rfl
  | e :: es, o, h => by
    show pas (stp o e) es = o
    rw [h e List.mem_cons_self]
    exact pas_same es o (fun x hx => h x (List.mem_cons_of_mem _ hx))
theorem fix_stp {es : List Edg} {o : List Int} (hl : ∀ e ∈ es, e.y < o.length) (h : ∀ e ∈ es, stp o e = o) : Fix es o := by
  intro e he hc hf
  have h1 := h e he
  unfold stp at h1
  by_cases z : gi o e.x + e.c < gi o e.y
  · rw [if_pos ⟨hc, hf, z⟩] at h1
    have h2 : gi (o.set e.y (gi o e.x + e.c)) e.y = gi o e.y := by rw [h1]
    rw [gi_set (hl e he), if_pos rfl] at h2
    omega
  · omega
def ini (n s : Nat) : List Int := (List.replicate n far).set s 0
theorem ini_dst {es : List Edg} {n s : Nat} (hs : s < n) : Dst es s n (ini n s) := by
  have hl : s < (List.replicate n far).length := by rw [List.length_replicate]; exact hs
  have hg : ∀ i, gi (ini n s) i = if i = s then 0 else gi (List.replicate n far) i := fun i => gi_set hl
  refine ⟨by simp [ini], by rw [hg, if_pos rfl], fun y hy => ?_⟩
  by_cases q : y = s
  · right
    rw [hg, if_pos q, q]
    exact ⟨by decide, .nil⟩
  · left
    rw [hg, if_neg q]
    simp [gi, List.getD, hy]
theorem fix_exists {es : List Edg} {n s : Nat} (hr : ∀ e ∈ es, e.x < n ∧ e.y < n) : ∀ (k : Nat) (o : List Int), Dst es s n o → (tot o).toNat ≤ k → ∃ u, Dst es s n u ∧ Fix es u
  | 0, o, h, hk => by
    have hl : ∀ e ∈ es, e.y < o.length := fun e he => by rw [h.len]; exact (hr e he).2
    have hp := pas_dst hr es o (fun e he => he) h
    have h1 := pas_tot es o hl
    have h2 := tot_nn (pas o es) (fun j hj => (hp.le (by rw [hp.len] at hj; exact hj)).1)
    exact ⟨o, h, fix_stp hl (h1.2 (by omega))⟩
  | k + 1, o, h, hk => by
    have hl : ∀ e ∈ es, e.y < o.length := fun e he => by rw [h.len]; exact (hr e he).2
    have hp := pas_dst hr es o (fun e he => he) h
    have h1 := pas_tot es o hl
    have h2 := tot_nn (pas o es) (fun j hj => (hp.le (by rw [hp.len] at hj; exact hj)).1)
    by_cases q : tot (pas o es) = tot o
    · exact ⟨o, h, fix_stp hl (h1.2 q)⟩
    · exact fix_exists hr k (pas o es) hp (by omega)
def rnds (es : List Edg) (o : List Int) : Nat → List Int
  | 0 => o
  | k + 1 => pas (rnds es o k) es
theorem rnds_dst {es : List Edg} {n s : Nat} {o : List Int} (hr : ∀ e ∈ es, e.x < n ∧ e.y < n) (h : Dst es s n o) : ∀ k, Dst es s n (rnds es o k)
  | 0 => h
  | k + 1 => pas_dst hr es _ (fun e he => he) (rnds_dst hr h k)
theorem countP_lt {α : Type} {p q : α → Bool} : ∀ {l : List α}, (∀ z ∈ l, p z = true → q z = true) → (∃ x ∈ l, q x = true ∧ p x = false) → l.countP p < l.countP q
  | [], _, h => by obtain ⟨x, hx, _⟩ := h; cases hx
  | a :: l, hpq, h => by
    have hle : l.countP p ≤ l.countP q := List.countP_mono_left (fun z hz => hpq z (List.mem_cons_of_mem _ hz))
    rw [List.countP_cons, List.countP_cons]
    obtain ⟨x, hx, h1, h2⟩ := h
    rcases List.mem_cons.1 hx with rfl | hx
    · rw [h1, h2]; simp; omega
    · have := countP_lt (fun z hz => hpq z (List.mem_cons_of_mem _ hz)) ⟨x, hx, h1, h2⟩
      have h3 := hpq a List.mem_cons_self
      by_cases c : p a = true
      · rw [c, h3 c]; simp; omega
      · rw [if_neg c]
        split <;> omega
def rk (os : List Int) (n y : Nat) : Nat := (List.range n).countP (fun z => decide (gi os z < gi os y))
theorem rk_le (os : List Int) (n y : Nat) : rk os n y ≤ n := by
  have := List.countP_le_length (p := fun z => decide (gi os z < gi os y)) (l := List.range n)
  rwa [List.length_range] at this
theorem rk_lt {os : List Int} {n x y : Nat} (hx : x < n) (h : gi os x < gi os y) : rk os n x < rk os n y :=
  countP_lt (fun z hz q => by rw [decide_eq_true_eq] at q ⊢; omega) ⟨x, List.mem_range.2 hx, by rw [decide_eq_true_eq]; exact h, by rw [decide_eq_false_iff_not]; omega⟩
theorem last_road {es : List Edg} {s n : Nat} {os : List Int} (hr : ∀ e ∈ es, e.x < n ∧ e.y < n) (h : Dst es s n os) (hf : Fix es os) {y : Nat} (hy : y < n) (hl : gi os y < far) : y = s ∨ ∃ e ∈ es, e.y = y ∧ 0 ≤ e.c ∧ gi os y = gi os e.x + e.c := by
  rcases h.ach y hy with h1 | ⟨_, h1⟩
  · omega
  · generalize hd : gi os y = d at h1
    cases h1 with
    | nil => exact .inl rfl
    | snoc h2 h3 h4 =>
      rename_i e d' hl'
      right
      have h5 := fix_le hr h hf h2
      have h6 := hf e h3 h4 (by omega)
      exact ⟨e, h3, rfl, h4, by omega⟩
theorem rnds_final {es : List Edg} {s n : Nat} {os o : List Int} (hr : ∀ e ∈ es, e.x < n ∧ e.y < n) (hp : ∀ e ∈ es, 0 ≤ e.c → 1 ≤ e.c) (h : Dst es s n os) (hf : Fix es os) (ho : Dst es s n o) : ∀ (k y : Nat), y < n → rk os n y ≤ k → gi (rnds es o k) y = gi os y := by
  have hge : ∀ k y, y < n → gi os y ≤ gi (rnds es o k) y := fun k y hy => by
    have hd := rnds_dst hr ho k
    rcases hd.ach y hy with h1 | ⟨_, h1⟩
    · rw [h1]; exact (h.le hy).2
    · exact fix_le hr h hf h1
  intro k
  induction k with
  | zero =>
    intro y hy hk
    have hd := rnds_dst hr ho 0
    by_cases q : gi os y < far
    · rcases last_road hr h hf hy q with rfl | ⟨e, he, rfl, hc, h1⟩
      · rw [hd.src, h.src]
      · have := rk_lt (os := os) (hr e he).1 (y := e.y) (by have := hp e he hc; omega)
        omega
    · have := hge 0 y hy
      have := (hd.le hy).2
      omega
  | succ k ih =>
    intro y hy hk
    have hd := rnds_dst hr ho (k + 1)
    have hdk := rnds_dst hr ho k
    by_cases q : gi os y < far
    · rcases last_road hr h hf hy q with rfl | ⟨e, he, rfl, hc, h1⟩
      · rw [hd.src, h.src]
      · have hc1 := hp e he hc
        have h2 := rk_lt (os := os) (hr e he).1 (y := e.y) (by omega)
        have h3 := ih e.x (hr e he).1 (by omega)
        have h4 := pas_use es (rnds es o k) (fun e he => by rw [hdk.len]; exact (hr e he).2) e he hc (by omega)
        have h5 := hge (k + 1) e.y hy
        have h6 : gi (rnds es o (k + 1)) e.y = gi (pas (rnds es o k) es) e.y := rfl
        omega
    · have := hge (k + 1) y hy
      have := (hd.le hy).2
      omega
theorem rnds_fix {es : List Edg} {s n : Nat} {o : List Int} (hr : ∀ e ∈ es, e.x < n ∧ e.y < n) (hp : ∀ e ∈ es, 0 ≤ e.c → 1 ≤ e.c) (ho : Dst es s n o) : Fix es (rnds es o n) := by
  obtain ⟨os, h1, h2⟩ := fix_exists hr _ o ho (Nat.le_refl _)
  have he : ∀ y, y < n → gi (rnds es o n) y = gi os y := fun y hy => rnds_final hr hp h1 h2 ho n y hy (rk_le os n y)
  intro e hm hc hl
  rw [he _ (hr e hm).1] at hl ⊢
  rw [he _ (hr e hm).2]
  exact h2 e hm hc hl
theorem dst_ext {es : List Edg} {s n : Nat} {o u : List Int} (hr : ∀ e ∈ es, e.x < n ∧ e.y < n) (h : Dst es s n o) (hf : Fix es o) (h2 : Dst es s n u) (hf2 : Fix es u) : o = u := by
  apply List.ext_getElem (by rw [h.len, h2.len])
  intro i h3 h4
  have hi : i < n := by rw [h.len] at h3; exact h3
  have := dist_eq hr h hf h2 hf2 hi
  simp [gi, List.getD, h3, h4] at this
  exact this.symm
def dst (es : List Edg) (n s : Nat) : List Int := rnds es (ini n s) n
theorem dst_dst {es : List Edg} {s n : Nat} (hr : ∀ e ∈ es, e.x < n ∧ e.y < n) (hs : s < n) : Dst es s n (dst es n s) := rnds_dst hr (ini_dst hs) n
theorem dst_fix {es : List Edg} {s n : Nat} (hr : ∀ e ∈ es, e.x < n ∧ e.y < n) (hp : ∀ e ∈ es, 0 ≤ e.c → 1 ≤ e.c) (hs : s < n) : Fix es (dst es n s) := rnds_fix hr hp (ini_dst hs)
end Go.Proofs.YtcfomfajpmlleaaGreat.R

namespace Go.Proofs.YtcfomfajpmlleaaGreat.R
set_option linter.unusedVariables false
def costL (m : Mp) (l : List Int) : Int := l.foldl (fun n x => n + (gw m x.toNat).c) 0
theorem costL_snoc (m : Mp) (l : List Int) (x : Int) : costL m (l ++ [x]) = costL m l + (gw m x.toNat).c := by
  unfold costL; rw [List.foldl_append]; rfl
theorem costL_aux {m : Mp} (h : OkM m) : ∀ (l : List Int) (a : Int), (∀ x ∈ l, 0 ≤ x ∧ x < m.ws.length) → a ≤ l.foldl (fun n x => n + (gw m x.toNat).c) a ∧ l.foldl (fun n x => n + (gw m x.toNat).c) a ≤ a + l.length * 1073741824
  | [], a, _ => by simp
  | x :: l, a, hx => by
    have h1 := costL_aux h l (a + (gw m x.toNat).c) (fun y hy => hx y (List.mem_cons_of_mem _ hy))
    have h2 := hx x List.mem_cons_self
    have h3 := (workB_ok (h.w x.toNat (by omega))).c
    simp only [List.foldl_cons, List.length_cons]
    omega
theorem costL_rng {m : Mp} (h : OkM m) {l : List Int} (hx : ∀ x ∈ l, 0 ≤ x ∧ x < m.ws.length) : 0 ≤ costL m l ∧ costL m l ≤ l.length * 1073741824 := by
  have := costL_aux h l 0 hx
  unfold costL
  omega
def limS (m : Mp) (road k : Nat) (n : Int) (i : Nat) : Int := if (gw m i).k = k ∧ (road : Int) ∈ (gw m i).rs then max n (gw m i).l else n
def limL (m : Mp) (l : List Int) (road k : Nat) : Int := l.foldl (fun n x => limS m road k n x.toNat) ((gr m road).lim k)
theorem limL_snoc (m : Mp) (l : List Int) (road k i : Nat) : limL m (l ++ [(i : Int)]) road k = limS m road k (limL m l road k) i := by
  unfold limL; rw [List.foldl_append]; rfl
def usB (m : Mp) (f : Nat → Int) (l : List Int) (road : Nat) : Bool := (List.range 6).all fun k => decide (f k ≤ limL m l road k)
theorem usN_iff {m : Mp} {f : Nat → Int} {l : List Int} {road : Nat} : usB m f l road = true ↔ ∀ k, k < 6 → f k ≤ limL m l road k := by
  unfold usB
  rw [List.all_eq_true]
  constructor
  · intro h k hk
    exact of_decide_eq_true (h k (List.mem_range.2 hk))
  · intro h k hk
    exact decide_eq_true (h k (List.mem_range.1 hk))
def edB (m : Mp) (us : Nat → Bool) (i : Nat) : Edg := ⟨(gr m i).t.toNat, (gr m i).f.toNat, if us i = true then (gr m i).c else -1⟩
end Go.Proofs.YtcfomfajpmlleaaGreat.R

namespace Go.Proofs.YtcfomfajpmlleaaGreat.R
open Go Sy
set_option maxRecDepth 100000
set_option maxHeartbeats 4000000
set_option linter.unusedVariables false
set_option linter.unusedSimpArgs false
theorem mixed : Tryz.prog.follows .mixedOrders = true := by kernel_rfl
abbrev iv (n : Int) : AV := .v (.int .i64 n)
abbrev bv (b : Bool) : AV := .v (.bool b)
abbrev uv (n : Nat) : AV := .v (.int .u64 n)
def cI (x : Int) : List AV := [iv x]
theorem nI (x : Int) : nth (cI x) 0 = iv x := rfl
theorem lI (x : Int) : (cI x).length = 1 := rfl
theorem frI (x : Int) : frzAll (cI x) = true := rfl
theorem tI (x : Int) : List.take 1 (List.drop 0 (cI x)) = cI x := rfl
abbrev aI (l : List Int) : AV := .sl 1 0 cI l
def cR (r : Rd) : List AV := [iv r.f, iv r.t, iv r.c, iv r.m, iv r.o, iv r.z, iv r.l0, iv r.l1, iv r.l2, iv r.l3, iv r.l4, iv r.l5]
theorem nR0 (r : Rd) : nth (cR r) 0 = iv r.f := rfl
theorem nR1 (r : Rd) : nth (cR r) 1 = iv r.t := rfl
theorem nR2 (r : Rd) : nth (cR r) 2 = iv r.c := rfl
theorem nR3 (r : Rd) : nth (cR r) 3 = iv r.m := rfl
theorem nR4 (r : Rd) : nth (cR r) 4 = iv r.o := rfl
theorem nR5 (r : Rd) : nth (cR r) 5 = iv r.z := rfl
theorem lR (r : Rd) : (cR r).length = 12 := rfl
theorem frR (r : Rd) : frzAll (cR r) = true := rfl
theorem tR (r : Rd) : List.take 12 (List.drop 0 (cR r)) = cR r := rfl
theorem iR {m : Nat → Option Blk} {n : Nat} (r : Rd) : List.flatMap (ids m n) (cR r) = [] := flat_frz n _ (frR r)
theorem vR {m : Nat → Option Blk} {n : Nat} (r : Rd) : List.map (view m n) (cR r) = cR r := viewL_frz n _ (frR r)
def cW (w : Wrk) : List AV := [aI w.rs, iv w.k, iv w.l, iv w.c]
theorem nW0 (w : Wrk) : nth (cW w) 0 = aI w.rs := rfl
theorem nW1 (w : Wrk) : nth (cW w) 1 = iv w.k := rfl
theorem nW2 (w : Wrk) : nth (cW w) 2 = iv w.l := rfl
theorem nW3 (w : Wrk) : nth (cW w) 3 = iv w.c := rfl
theorem lW (w : Wrk) : (cW w).length = 4 := rfl
theorem frW (w : Wrk) : frzAll (cW w) = true := rfl
theorem tW (w : Wrk) : List.take 4 (List.drop 0 (cW w)) = cW w := rfl
theorem iW {m : Nat → Option Blk} {n : Nat} (w : Wrk) : List.flatMap (ids m n) (cW w) = [] := flat_frz n _ (frW w)
theorem vW {m : Nat → Option Blk} {n : Nat} (w : Wrk) : List.map (view m n) (cW w) = cW w := viewL_frz n _ (frW w)
abbrev aR (l : List Rd) : AV := .sl 12 dR cR l
abbrev aW (l : List Wrk) : AV := .sl 4 dW cW l
def cM (m : Mp) : List AV := [iv m.n, aR m.rs, aW m.ws]
theorem nM0 (m : Mp) : nth (cM m) 0 = iv m.n := rfl
theorem nM1 (m : Mp) : nth (cM m) 1 = aR m.rs := rfl
theorem nM2 (m : Mp) : nth (cM m) 2 = aW m.ws := rfl
theorem lM (m : Mp) : (cM m).length = 3 := rfl
theorem frM (m : Mp) : frzAll (cM m) = true := rfl
theorem iM {f : Nat → Option Blk} {n : Nat} (m : Mp) : List.flatMap (ids f n) (cM m) = [] := flat_frz n _ (frM m)
theorem vM {f : Nat → Option Blk} {n : Nat} (m : Mp) : List.map (view f n) (cM m) = cM m := viewL_frz n _ (frM m)
abbrev aM (m : Mp) : AV := .agg (cM m)
def c6 (f : Nat → Int) : List AV := [iv (f 0), iv (f 1), iv (f 2), iv (f 3), iv (f 4), iv (f 5)]
theorem l6 (f : Nat → Int) : (c6 f).length = 6 := rfl
theorem fr6 (f : Nat → Int) : frzAll (c6 f) = true := rfl
theorem n6 (f : Nat → Int) (k : Nat) (h : k < 6) : nth (c6 f) k = iv (f k) := by
  rcases k with _ | _ | _ | _ | _ | _ | k <;> first | rfl | omega
theorem i6 {m : Nat → Option Blk} {n : Nat} (f : Nat → Int) : List.flatMap (ids m n) (c6 f) = [] := flat_frz n _ (fr6 f)
theorem v6 {m : Nat → Option Blk} {n : Nat} (f : Nat → Int) : List.map (view m n) (c6 f) = c6 f := viewL_frz n _ (fr6 f)
theorem t6 (f : Nat → Int) : List.take 6 (c6 f) = c6 f := rfl
theorem cutR (r : Rd) : List.take 6 (List.drop 6 (cR r)) = c6 r.lim := rfl
theorem tR2 (r : Rd) : List.take 12 (cR r) = cR r := rfl
theorem tW2 (w : Wrk) : List.take 4 (cW w) = cW w := rfl
theorem tM2 (m : Mp) : List.take 3 (cM m) = cM m := rfl
attribute [push_cast] tR2 tW2 tM2 nI lI frI tI nR0 nR1 nR2 nR3 nR4 nR5 lR frR tR iR vR nW0 nW1 nW2 nW3 lW frW tW iW vW nM0 nM1 nM2 lM frM iM vM l6 fr6 n6 i6 v6 t6 cutR
theorem fn50 (x lo hi : Int) : Sy.Fn Tryz.prog 50 [iv x, iv lo, iv hi] (bv (inR x lo hi)) := by
  refine Fn_of_W mixed Xt50 rfl ?_
  (refine go0 ?_; try exact True.intro)
  exact W_ret ⟨[_], ⟨rfl, rfl⟩, rfl⟩
theorem up_all {p : Nat → Prop} {n : Nat} (h : ∀ j, j < n → p j) (hn : p n) : ∀ j, j < n + 1 → p j := fun j hj => by
  rcases Nat.lt_succ_iff_lt_or_eq.1 hj with h1 | rfl
  · exact h j h1
  · exact hn
theorem setB_yes {l : List Int} {n : Int} (h : ∀ j, j < l.length → okAt l n j = true) : setB l n = true := by
  unfold setB
  rw [List.all_eq_true]
  intro j hj
  exact h j (List.mem_range.1 hj)
theorem setB_no {l : List Int} {n : Int} {i : Nat} (hi : i < l.length) (h : okAt l n i = false) : setB l n = false := by
  unfold setB
  rw [← Bool.not_eq_true, List.all_eq_true]
  intro q
  have := q i (List.mem_range.2 hi)
  rw [h] at this; cases this
theorem fn43 (l : List Int) (n : Int) (hl : l.length ≤ 140737488355328) : Sy.Fn Tryz.prog 43 [aI l, iv n] (bv (setB l n)) := by
  refine Fn_of_W mixed Xt43 rfl ?_
  (refine go0 ?_; try exact True.intro)
  refine W_loopU (fun i : Nat => [(5, iv (lastI l i)), (10, iv i)]) (fun i => []) (fun i => i ≤ l.length ∧ ∀ j, j < i → okAt l n j = true) (fun i => l.length - i) 0 ⟨by omega, fun j hj => by omega⟩ (by rfl) (by rfl) (fun i hi => ?_)
  obtain ⟨hi, hall⟩ := hi
  (refine sy1 ?_; try exact True.intro)
  (refine go0 ?_; try exact True.intro)
  refine W_condD (by rfl) (fun h5 => ?_) (fun h5 => ?_)
  · have hlt : i < l.length := by omega
    have hn1 : lastI l (i + 1) = gi l i := by unfold lastI; rw [if_neg (by omega)]; rfl
    have hgi : l.getD i 0 = gi l i := rfl
    have hok : okAt l n i = (decide (lastI l i < gi l i) && decide (gi l i < n)) := rfl
    generalize gi l i = x at hn1 hgi hok
    (refine gof hgi ?_; try exact True.intro)
    refine W_cond (by rfl) (fun hb => ?_) (fun hb => ?_)
    · have e : okAt l n i = false := by
        rw [hok, Bool.and_eq_false_iff, decide_eq_false_iff_not, decide_eq_false_iff_not]
        rw [Bool.or_eq_true, decide_eq_true_eq, decide_eq_true_eq] at hb
        omega
      rw [setB_no hlt e]
      (refine go0 ?_; try exact True.intro)
      exact W_ret ⟨[_], ⟨rfl, rfl⟩, rfl⟩
    · have e : okAt l n i = true := by
        rw [hok, Bool.and_eq_true, decide_eq_true_eq, decide_eq_true_eq]
        rw [Bool.or_eq_false_iff, decide_eq_false_iff_not, decide_eq_false_iff_not] at hb
        omega
      (refine go0 ?_; try exact True.intro)
      refine ⟨i + 1, ⟨by omega, up_all hall e⟩, by omega, by rfl, ?_⟩
      rw [hn1]
      (refine syE ?_; try exact True.intro)
  · rw [setB_yes (fun j hj => hall j (by omega))]
    (refine go0 ?_; try exact True.intro)
    exact W_ret ⟨[_], ⟨rfl, rfl⟩, rfl⟩
def idxF {α : Type} (p : α → Bool) : List α → Int → Int
  | [], _ => -1
  | x :: r, i => if p x then i else idxF p r (i + 1)
theorem idxF_at {α : Type} (p : α → Bool) (d : α) : ∀ (l : List α) (i : Nat) (k : Int), i < l.length → (∀ j, j < i → p (l.getD j d) = false) → p (l.getD i d) = true → idxF p l k = k + i
  | [], i, k, h, _, _ => by simp at h
  | x :: r, 0, k, _, _, h => by simp at h; simp [idxF, h]
  | x :: r, i + 1, k, h, hj, hp => by
    have h0 : p x = false := by simpa using hj 0 (by omega)
    have := idxF_at p d r i (k + 1) (by simpa using h) (fun j hlt => by simpa using hj (j + 1) (by omega)) (by simpa using hp)
    simp only [idxF, h0, Bool.false_eq_true, if_false, this]
    omega
theorem idxF_none {α : Type} (p : α → Bool) (d : α) : ∀ (l : List α) (k : Int), (∀ j, j < l.length → p (l.getD j d) = false) → idxF p l k = -1
  | [], k, _ => rfl
  | x :: r, k, h => by
    have h0 : p x = false := by simpa using h 0 (by simp)
    have := idxF_none p d r (k + 1) (fun j hlt => by simpa using h (j + 1) (by simpa using hlt))
    simp only [idxF, h0, Bool.false_eq_true, if_false, this]
theorem idxF_any {α : Type} (p : α → Bool) : ∀ (l : List α) (k : Int), 0 ≤ k → decide (0 ≤ idxF p l k) = l.any p
  | [], k, _ => by simp [idxF]
  | x :: r, k, h => by
    simp only [idxF, List.any_cons]
    by_cases hp : p x = true
    · simp [hp, h]
    · simp only [hp]
      simpa using idxF_any p r (k + 1) (by omega)
theorem getD_mem {α : Type} (d : α) (l : List α) (i : Nat) (h : i < l.length) : l.getD i d ∈ l := getD_mem' d l i h
theorem fn87 (l : List Int) (hl : l.length ≤ 1000000) (g : Nat) (fi ca : List AV) (p : Int → Bool) (hg : ∀ x ∈ l, Sy.Fn Tryz.prog g (fi ++ [iv x] ++ ca) (bv (p x))) : Sy.Fn Tryz.prog 87 [aI l, .clo g fi ca] (iv (idxF p l 0)) := by
  refine Fn_of_W mixed Xt87 rfl ?_
  (refine go0 ?_; try exact True.intro)
  refine W_loopU (fun i : Nat => [(8, iv i)]) (fun i => []) (fun i => i ≤ l.length ∧ ∀ j, j < i → p (l.getD j 0) = false) (fun i => l.length - i) 0 ⟨by omega, fun j hj => by omega⟩ (by rfl) (by rfl) (fun i hi => ?_)
  obtain ⟨hi, hp⟩ := hi
  (refine sy1 ?_; try exact True.intro)
  (refine go0 ?_; try exact True.intro)
  refine W_condD (by rfl) (fun h => ?_) (fun h => ?_)
  · have hlt : i < l.length := by omega
    have cg := hg _ (getD_mem 0 l i hlt)
    (refine go_c cg ?_; try exact True.intro)
    refine W_cond (by rfl) (fun hb => ?_) (fun hb => ?_)
    · (refine go0 ?_; try exact True.intro)
      exact W_ret ⟨[_], ⟨rfl, rfl⟩, by rw [idxF_at p 0 l i 0 hlt hp hb, Int.zero_add]; rfl⟩
    · (refine go0 ?_; try exact True.intro)
      refine ⟨i + 1, ⟨by omega, up_all hp hb⟩, by omega, by rfl, ?_⟩
      (refine syE ?_; try exact True.intro)
  · (refine go0 ?_; try exact True.intro)
    exact W_ret ⟨[_], ⟨rfl, rfl⟩, by rw [idxF_none p 0 l 0 (fun j hj => hp j (by omega))]; rfl⟩
theorem fn48 (l : List Int) (hl : l.length ≤ 1000000) (g : Nat) (fi ca : List AV) (p : Int → Bool) (hg : ∀ x ∈ l, Sy.Fn Tryz.prog g (fi ++ [iv x] ++ ca) (bv (p x))) : Sy.Fn Tryz.prog 48 [aI l, .clo g fi ca] (bv (l.any p)) := by
  refine Fn_of_W mixed Xt48 rfl ?_
  (refine go_c (fn87 l hl g fi ca p hg) ?_; try exact True.intro)
  exact W_ret ⟨[_], ⟨rfl, rfl⟩, by rw [← idxF_any p l 0 (by omega)]; rfl⟩
theorem fn34 (l : List Rd) (hl : l.length ≤ 1000000) (g : Nat) (fi ca : List AV) (p : Rd → Bool) (hg : ∀ x ∈ l, Sy.Fn Tryz.prog g (fi ++ [.agg (cR x)] ++ ca) (bv (p x))) : Sy.Fn Tryz.prog 34 [aR l, .clo g fi ca] (iv (idxF p l 0)) := by
  refine Fn_of_W mixed Xt34 rfl ?_
  (refine go0 ?_; try exact True.intro)
  refine W_loopU (fun i : Nat => [(8, iv i)]) (fun i => []) (fun i => i ≤ l.length ∧ ∀ j, j < i → p (l.getD j dR) = false) (fun i => l.length - i) 0 ⟨by omega, fun j hj => by omega⟩ (by rfl) (by rfl) (fun i hi => ?_)
  obtain ⟨hi, hp⟩ := hi
  (refine sy1 ?_; try exact True.intro)
  (refine go0 ?_; try exact True.intro)
  refine W_condD (by rfl) (fun h => ?_) (fun h => ?_)
  · have hlt : i < l.length := by omega
    have cg := hg _ (getD_mem dR l i hlt)
    (refine go_c cg ?_; try exact True.intro)
    refine W_cond (by rfl) (fun hb => ?_) (fun hb => ?_)
    · (refine go0 ?_; try exact True.intro)
      exact W_ret ⟨[_], ⟨rfl, rfl⟩, by rw [idxF_at p dR l i 0 hlt hp hb, Int.zero_add]; rfl⟩
    · (refine go0 ?_; try exact True.intro)
      refine ⟨i + 1, ⟨by omega, up_all hp hb⟩, by omega, by rfl, ?_⟩
      (refine syE ?_; try exact True.intro)
  · (refine go0 ?_; try exact True.intro)
    exact W_ret ⟨[_], ⟨rfl, rfl⟩, by rw [idxF_none p dR l 0 (fun j hj => hp j (by omega))]; rfl⟩
theorem fn78 (l : List Rd) (hl : l.length ≤ 1000000) (g : Nat) (fi ca : List AV) (p : Rd → Bool) (hg : ∀ x ∈ l, Sy.Fn Tryz.prog g (fi ++ [.agg (cR x)] ++ ca) (bv (p x))) : Sy.Fn Tryz.prog 78 [aR l, .clo g fi ca] (bv (l.any p)) := by
  refine Fn_of_W mixed Xt78 rfl ?_
  (refine go_c (fn34 l hl g fi ca p hg) ?_; try exact True.intro)
  exact W_ret ⟨[_], ⟨rfl, rfl⟩, by rw [← idxF_any p l 0 (by omega)]; rfl⟩
theorem fn113 (l : List Wrk) (hl : l.length ≤ 1000000) (g : Nat) (fi ca : List AV) (p : Wrk → Bool) (hg : ∀ x ∈ l, Sy.Fn Tryz.prog g (fi ++ [.agg (cW x)] ++ ca) (bv (p x))) : Sy.Fn Tryz.prog 113 [aW l, .clo g fi ca] (iv (idxF p l 0)) := by
  refine Fn_of_W mixed Xt113 rfl ?_
  (refine go0 ?_; try exact True.intro)
  refine W_loopU (fun i : Nat => [(8, iv i)]) (fun i => []) (fun i => i ≤ l.length ∧ ∀ j, j < i → p (l.getD j dW) = false) (fun i => l.length - i) 0 ⟨by omega, fun j hj => by omega⟩ (by rfl) (by rfl) (fun i hi => ?_)
  obtain ⟨hi, hp⟩ := hi
  (refine sy1 ?_; try exact True.intro)
  (refine go0 ?_; try exact True.intro)
  refine W_condD (by rfl) (fun h => ?_) (fun h => ?_)
  · have hlt : i < l.length := by omega
    have cg := hg _ (getD_mem dW l i hlt)
    (refine go_c cg ?_; try exact True.intro)
    refine W_cond (by rfl) (fun hb => ?_) (fun hb => ?_)
    · (refine go0 ?_; try exact True.intro)
      exact W_ret ⟨[_], ⟨rfl, rfl⟩, by rw [idxF_at p dW l i 0 hlt hp hb, Int.zero_add]; rfl⟩
    · (refine go0 ?_; try exact True.intro)
      refine ⟨i + 1, ⟨by omega, up_all hp hb⟩, by omega, by rfl, ?_⟩
      (refine syE ?_; try exact True.intro)
  · (refine go0 ?_; try exact True.intro)
    exact W_ret ⟨[_], ⟨rfl, rfl⟩, by rw [idxF_none p dW l 0 (fun j hj => hp j (by omega))]; rfl⟩
theorem fn73 (l : List Wrk) (hl : l.length ≤ 1000000) (g : Nat) (fi ca : List AV) (p : Wrk → Bool) (hg : ∀ x ∈ l, Sy.Fn Tryz.prog g (fi ++ [.agg (cW x)] ++ ca) (bv (p x))) : Sy.Fn Tryz.prog 73 [aW l, .clo g fi ca] (bv (l.any p)) := by
  refine Fn_of_W mixed Xt73 rfl ?_
  (refine go_c (fn113 l hl g fi ca p hg) ?_; try exact True.intro)
  exact W_ret ⟨[_], ⟨rfl, rfl⟩, by rw [← idxF_any p l 0 (by omega)]; rfl⟩
theorem fn112 (l : List Int) (hl : l.length ≤ 1000000) (g : Nat) (fi ca : List AV) (p : Int → Bool) (hg : ∀ x ∈ l, Sy.Fn Tryz.prog g (fi ++ [iv x] ++ ca) (bv (p x))) : Sy.Fn Tryz.prog 112 [aI l, .clo g fi ca] (iv (idxF p l 0)) := by
  refine Fn_of_W mixed Xt112 rfl ?_
  (refine go0 ?_; try exact True.intro)
  refine W_loopU (fun i : Nat => [(8, iv i)]) (fun i => []) (fun i => i ≤ l.length ∧ ∀ j, j < i → p (l.getD j 0) = false) (fun i => l.length - i) 0 ⟨by omega, fun j hj => by omega⟩ (by rfl) (by rfl) (fun i hi => ?_)
  obtain ⟨hi, hp⟩ := hi
  (refine sy1 ?_; try exact True.intro)
  (refine go0 ?_; try exact True.intro)
  refine W_condD (by rfl) (fun h => ?_) (fun h => ?_)
  · have hlt : i < l.length := by omega
    have cg := hg _ (getD_mem 0 l i hlt)
    (refine go_c cg ?_; try exact True.intro)
    refine W_cond (by rfl) (fun hb => ?_) (fun hb => ?_)
    · (refine go0 ?_; try exact True.intro)
      exact W_ret ⟨[_], ⟨rfl, rfl⟩, by rw [idxF_at p 0 l i 0 hlt hp hb, Int.zero_add]; rfl⟩
    · (refine go0 ?_; try exact True.intro)
      refine ⟨i + 1, ⟨by omega, up_all hp hb⟩, by omega, by rfl, ?_⟩
      (refine syE ?_; try exact True.intro)
  · (refine go0 ?_; try exact True.intro)
    exact W_ret ⟨[_], ⟨rfl, rfl⟩, by rw [idxF_none p 0 l 0 (fun j hj => hp j (by omega))]; rfl⟩
theorem fn66 (l : List Int) (hl : l.length ≤ 1000000) (g : Nat) (fi ca : List AV) (p : Int → Bool) (hg : ∀ x ∈ l, Sy.Fn Tryz.prog g (fi ++ [iv x] ++ ca) (bv (p x))) : Sy.Fn Tryz.prog 66 [aI l, .clo g fi ca] (bv (l.any p)) := by
  refine Fn_of_W mixed Xt66 rfl ?_
  (refine go_c (fn112 l hl g fi ca p hg) ?_; try exact True.intro)
  exact W_ret ⟨[_], ⟨rfl, rfl⟩, by rw [← idxF_any p l 0 (by omega)]; rfl⟩
theorem fn114 (l : List Int) (x : Int) (hl : l.length ≤ 1000000) : Sy.Fn Tryz.prog 114 [aI l, iv x] (iv (idxF (fun y => x == y) l 0)) := by
  refine Fn_of_W mixed Xt114 rfl ?_
  (refine go0 ?_; try exact True.intro)
  refine W_loopU (fun i : Nat => [(8, iv i)]) (fun i => []) (fun i => i ≤ l.length ∧ ∀ j, j < i → (x == l.getD j 0) = false) (fun i => l.length - i) 0 ⟨by omega, fun j hj => by omega⟩ (by rfl) (by rfl) (fun i hi => ?_)
  obtain ⟨hi, hp⟩ := hi
  (refine sy1 ?_; try exact True.intro)
  (refine go0 ?_; try exact True.intro)
  refine W_condD (by rfl) (fun h => ?_) (fun h => ?_)
  · have hlt : i < l.length := by omega
    (refine go0 ?_; try exact True.intro)
    refine W_cond (by rfl) (fun hb => ?_) (fun hb => ?_)
    · (refine go0 ?_; try exact True.intro)
      exact W_ret ⟨[_], ⟨rfl, rfl⟩, by rw [idxF_at (fun y => x == y) 0 l i 0 hlt hp hb, Int.zero_add]; rfl⟩
    · (refine go0 ?_; try exact True.intro)
      refine ⟨i + 1, ⟨by omega, up_all hp hb⟩, by omega, by rfl, ?_⟩
      (refine syE ?_; try exact True.intro)
  · (refine go0 ?_; try exact True.intro)
    exact W_ret ⟨[_], ⟨rfl, rfl⟩, by rw [idxF_none (fun y => x == y) 0 l 0 (fun j hj => hp j (by omega))]; rfl⟩
theorem fn81 (l : List Int) (x : Int) (hl : l.length ≤ 1000000) : Sy.Fn Tryz.prog 81 [aI l, iv x] (bv (decide (x ∈ l))) := by
  refine Fn_of_W mixed Xt81 rfl ?_
  (refine go_c (fn114 l x hl) ?_; try exact True.intro)
  refine W_ret ⟨[_], ⟨rfl, rfl⟩, ?_⟩
  have e : decide (0 ≤ idxF (fun y => x == y) l 0) = decide (x ∈ l) := by
    rw [idxF_any _ l 0 (by omega), ← List.contains_eq_any_beq]
    rw [Bool.eq_iff_iff, List.contains_iff_mem, decide_eq_true_eq]
  rw [← e]; rfl
end Go.Proofs.YtcfomfajpmlleaaGreat.R

