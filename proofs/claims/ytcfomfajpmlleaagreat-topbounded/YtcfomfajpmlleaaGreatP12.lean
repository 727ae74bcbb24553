/- Part 12 of the proof of: TopBounded: for every input the law returns true -/
import Derived.Test.YtcfomfajpmlleaaGreatP11
namespace Go.Proofs.YtcfomfajpmlleaaGreat.R
open Go Sy
set_option maxRecDepth 100000
set_option maxHeartbeats 4000000
set_option linter.unusedVariables false
set_option linter.unusedSimpArgs false
end Go.Proofs.YtcfomfajpmlleaaGreat.R

namespace Go.Proofs.YtcfomfajpmlleaaGreat.R
open Go Sy
set_option maxRecDepth 100000
set_option maxHeartbeats 4000000
set_option linter.unusedVariables false
set_option linter.unusedSimpArgs false
end Go.Proofs.YtcfomfajpmlleaaGreat.R

namespace Go.Proofs.YtcfomfajpmlleaaGreat.R
open Go Sy
set_option maxRecDepth 100000
set_option maxHeartbeats 4000000
set_option linter.unusedVariables false
set_option linter.unusedSimpArgs false
end Go.Proofs.YtcfomfajpmlleaaGreat.R

namespace Go.Proofs.YtcfomfajpmlleaaGreat.R
open Go Sy
set_option maxRecDepth 100000
set_option maxHeartbeats 4000000
set_option linter.unusedVariables false
set_option linter.unusedSimpArgs false
def BI (g : List Int → Int) (ok : List Int → Bool) (L : List (List Int)) (i : Nat) (b : Int) : Prop :=
  (b = -1 ∧ leastL g ok (L.take i) = none) ∨ (0 ≤ b ∧ b < i ∧ leastL g ok (L.take i) = some (L.getD b.toNat [], g (L.getD b.toNat [])))
theorem take_snocL {L : List (List Int)} {i : Nat} (h : i < L.length) : L.take (i + 1) = L.take i ++ [L.getD i []] := by
  rw [List.take_add_one]
  simp [List.getD, h]
theorem BI.yes {g : List Int → Int} {ok : List Int → Bool} {L : List (List Int)} {i : Nat} {b : Int} (h : BI g ok L i b) (hi : i < L.length) (ho : ok (L.getD i []) = true) (hl : b < 0 ∨ g (L.getD i []) < g (L.getD b.toNat [])) : BI g ok L (i + 1) i := by
  right
  refine ⟨by omega, by omega, ?_⟩
  rw [take_snocL hi, leastL_snoc, Int.toNat_natCast]
  unfold lstep
  rw [if_pos ho]
  rcases h with ⟨h1, h2⟩ | ⟨h1, h2, h3⟩
  · rw [h2]
  · rw [h3]
    show (if _ then _ else _) = _
    rw [if_pos (by omega)]
theorem BI.no {g : List Int → Int} {ok : List Int → Bool} {L : List (List Int)} {i : Nat} {b : Int} (h : BI g ok L i b) (hi : i < L.length) (ho : ok (L.getD i []) = false ∨ (0 ≤ b ∧ g (L.getD b.toNat []) ≤ g (L.getD i []))) : BI g ok L (i + 1) b := by
  have e : ∀ x, leastL g ok (L.take i) = x → (x = none → b < 0) → (∀ p, x = some p → p.2 = g (L.getD b.toNat [])) → leastL g ok (L.take (i + 1)) = x := fun x hx h1 h2 => by
    rw [take_snocL hi, leastL_snoc, hx]
    unfold lstep
    rcases ho with ho | ⟨ho1, ho2⟩
    · rw [if_neg (by rw [ho]; simp)]
    · rcases x with _ | ⟨y, n⟩
      · have := h1 rfl; omega
      · have := h2 _ rfl
        dsimp only at this
        split
        · show (if _ then _ else _) = _
          rw [if_neg (by omega)]
        · rfl
  rcases h with ⟨h1, h2⟩ | ⟨h1, h2, h3⟩
  · exact .inl ⟨h1, e _ h2 (fun _ => by omega) (fun p hp => by cases hp)⟩
  · exact .inr ⟨h1, by omega, e _ h3 (fun q => by cases q) (fun p hp => by cases hp; rfl)⟩
end Go.Proofs.YtcfomfajpmlleaaGreat.R

namespace Go.Proofs.YtcfomfajpmlleaaGreat.R
open Go Sy
set_option maxRecDepth 100000
set_option maxHeartbeats 4000000
set_option linter.unusedVariables false
set_option linter.unusedSimpArgs false
end Go.Proofs.YtcfomfajpmlleaaGreat.R

namespace Go.Proofs.YtcfomfajpmlleaaGreat.R
open Go Sy
set_option maxRecDepth 100000
set_option maxHeartbeats 4000000
set_option linter.unusedVariables false
set_option linter.unusedSimpArgs false
end Go.Proofs.YtcfomfajpmlleaaGreat.R

namespace Go.Proofs.YtcfomfajpmlleaaGreat.R
open Go Sy
set_option maxRecDepth 100000
set_option maxHeartbeats 4000000
set_option linter.unusedVariables false
set_option linter.unusedSimpArgs false
end Go.Proofs.YtcfomfajpmlleaaGreat.R

namespace Go.Proofs.YtcfomfajpmlleaaGreat.R
open Go Sy
set_option maxRecDepth 100000
set_option maxHeartbeats 4000000
set_option linter.unusedVariables false
set_option linter.unusedSimpArgs false
def ldsB (m : Mp) (f : Nat → Int) (road k : Nat) : Bool := usB m f (evL m.ws.length) road && decide ((gr m road).lim k < f k)
def hpsB (m : Mp) (f : Nat → Int) (w road k : Nat) : Bool := ((gw m w).k == (k : Int) && decide ((road : Int) ∈ (gw m w).rs)) && decide (f k ≤ (gw m w).l)
structure Prt where
  w : Int
  r : Int
  k : Int
  v : Int
def dP : Prt := ⟨0, 0, 0, 0⟩
def cP (c : Prt) : List AV := [iv c.w, iv c.r, iv c.k, iv c.v]
theorem lP (c : Prt) : (cP c).length = 4 := rfl
theorem frP (c : Prt) : frzAll (cP c) = true := rfl
theorem tP (c : Prt) : List.take 4 (List.drop 0 (cP c)) = cP c := rfl
theorem tP2 (c : Prt) : List.take 4 (cP c) = cP c := rfl
theorem nP0 (c : Prt) : nth (cP c) 0 = iv c.w := rfl
theorem nP1 (c : Prt) : nth (cP c) 1 = iv c.r := rfl
theorem nP2 (c : Prt) : nth (cP c) 2 = iv c.k := rfl
theorem nP3 (c : Prt) : nth (cP c) 3 = iv c.v := rfl
attribute [push_cast] lP frP tP tP2 nP0 nP1 nP2 nP3
abbrev aP (l : List Prt) : AV := .sl 4 dP cP l
def prB (w r k : Int) (p : Prt) : Bool := p.w == w && p.r == r && p.k == k
def partV (w r k : Int) : List Prt → Int
  | [] => 0
  | p :: ps => if prB w r k p = true then p.v else partV w r k ps
theorem partV_rng {w r k : Int} : ∀ {ps : List Prt}, (∀ p ∈ ps, 0 ≤ p.v) → 0 ≤ partV w r k ps
  | [], _ => Int.le_refl _
  | p :: ps, h => by
    simp only [partV]
    split
    · exact h p List.mem_cons_self
    · exact partV_rng fun q hq => h q (List.mem_cons_of_mem _ hq)
def minS (m : Mp) (f : Nat → Int) (ps : List Prt) (road k : Nat) (a : Int) (w : Nat) : Int := if hpsB m f w road k = true then min a (partV w road k ps) else a
def minP (m : Mp) (f : Nat → Int) (ps : List Prt) (road k n : Nat) : Int := (List.range n).foldl (minS m f ps road k) 1125899906842624
theorem minP_succ (m : Mp) (f : Nat → Int) (ps : List Prt) (road k n : Nat) : minP m f ps road k (n + 1) = minS m f ps road k (minP m f ps road k n) n := by
  unfold minP; rw [List.range_succ, List.foldl_append]; rfl
theorem minP_rng {m : Mp} {f : Nat → Int} {ps : List Prt} {road k : Nat} (h : ∀ p ∈ ps, 0 ≤ p.v) : ∀ n, 0 ≤ minP m f ps road k n ∧ minP m f ps road k n ≤ 1125899906842624
  | 0 => by unfold minP; simp
  | n + 1 => by
    have h1 := minP_rng (m := m) (f := f) (road := road) (k := k) h n
    have h2 := partV_rng (w := n) (r := road) (k := k) h
    rw [minP_succ]
    unfold minS
    split <;> omega
def redK (m : Mp) (f : Nat → Int) (ps : List Prt) (road : Nat) (a : Int) (k : Nat) : Int := if ldsB m f road k = true then a + minP m f ps road k m.ws.length else a
def redS (m : Mp) (f : Nat → Int) (ps : List Prt) (road n : Nat) : Int := (List.range n).foldl (redK m f ps road) (gr m road).c
theorem redS_succ (m : Mp) (f : Nat → Int) (ps : List Prt) (road n : Nat) : redS m f ps road (n + 1) = redK m f ps road (redS m f ps road n) n := by
  unfold redS; rw [List.range_succ, List.foldl_append]; rfl
theorem redS_rng {m : Mp} {f : Nat → Int} {ps : List Prt} {road : Nat} (hok : OkM m) (hr : road < m.rs.length) (h : ∀ p ∈ ps, 0 ≤ p.v) : ∀ n : Nat, 1 ≤ redS m f ps road n ∧ redS m f ps road n ≤ 1073741824 + n * 1125899906842624
  | 0 => by
    have := (roadB_ok (hok.r road hr)).c
    show 1 ≤ (gr m road).c ∧ (gr m road).c ≤ _
    omega
  | n + 1 => by
    have h1 := redS_rng (f := f) hok hr h n
    have h2 := minP_rng (m := m) (f := f) (road := road) (k := n) h m.ws.length
    rw [redS_succ]
    unfold redK
    split <;> omega
end Go.Proofs.YtcfomfajpmlleaaGreat.R

namespace Go.Proofs.YtcfomfajpmlleaaGreat.R
open Go Sy
set_option maxRecDepth 100000
set_option maxHeartbeats 4000000
set_option linter.unusedVariables false
set_option linter.unusedSimpArgs false
def tbI (n : Nat) (g : Nat → Int) : List Int := (List.range n).map g
theorem tbI_len (n : Nat) (g : Nat → Int) : (tbI n g).length = n := by simp [tbI]
theorem tbI_at {n j : Nat} (g : Nat → Int) (h : j < n) : (tbI n g).getD j 0 = g j := by simp [tbI, List.getD, h]
theorem tbI_set {n j : Nat} {g h : Nat → Int} {v : Int} (hj : h j = v) (hh : ∀ i, i < n → i ≠ j → g i = h i) : (tbI n g).set j v = tbI n h := by
  apply List.ext_getElem (by rw [List.length_set, tbI_len, tbI_len])
  intro i h1 h2
  rw [tbI_len] at h2
  rw [List.getElem_set]
  split
  · rename_i q; subst q; rw [← hj]; simp [tbI]
  · rename_i q
    simp only [tbI, List.getElem_map, List.getElem_range]
    exact hh i h2 (fun e => q e.symm)
theorem tbI_rep (n : Nat) (v : Int) : tbI n (fun _ => v) = List.replicate n v := by
  unfold tbI
  rw [List.eq_replicate_iff]
  refine ⟨by simp, fun b hb => ?_⟩
  obtain ⟨i, _, rfl⟩ := List.mem_map.1 hb
  rfl
def spS (w : Nat) (a : Int) (p : Prt) : Int := if p.w.toNat = w then a + p.v else a
def spW (ps : List Prt) (w : Nat) : Int := ps.foldl (spS w) 0
theorem spW_snoc (ps : List Prt) (p : Prt) (w : Nat) : spW (ps ++ [p]) w = spS w (spW ps w) p := by
  unfold spW; rw [List.foldl_append]; rfl
theorem take_snocP {ps : List Prt} {i : Nat} (h : i < ps.length) : ps.take (i + 1) = ps.take i ++ [ps.getD i dP] := by
  rw [List.take_add_one]
  simp [List.getD, h]
def prtB (m : Mp) (f : Nat → Int) (p : Prt) : Bool := decide (((0 ≤ p.w ∧ p.w < m.ws.length) ∧ (0 ≤ p.r ∧ p.r < m.rs.length)) ∧ (0 ≤ p.k ∧ p.k ≤ 5) ∧ (0 ≤ p.v ∧ p.v ≤ (gw m p.w.toNat).c)) && (ldsB m f p.r.toNat p.k.toNat && hpsB m f p.w.toNat p.r.toNat p.k.toNat)
def dupB (ps : List Prt) (i : Nat) : Bool := (List.range i).any fun j => prB (ps.getD i dP).w (ps.getD i dP).r (ps.getD i dP).k (ps.getD j dP)
def okP (m : Mp) (f : Nat → Int) (ps : List Prt) (i : Nat) : Bool := prtB m f (ps.getD i dP) && !dupB ps i
def hgB (x : Int) : Bool := decide (-35184372088832 ≤ x ∧ x ≤ 35184372088832)
def rdOK (m : Mp) (f : Nat → Int) (ps : List Prt) (hs : List Int) (i : Nat) : Bool := !(usB m f (evL m.ws.length) i && decide (redS m f ps i 6 < gi hs (gr m i).t.toNat - gi hs (gr m i).f.toNat))
def rgtB (m : Mp) (f : Nat → Int) (ps : List Prt) (hs : List Int) : Bool := (((List.range ps.length).all (okP m f ps) && (List.range m.ws.length).all (fun w => decide (spW ps w ≤ (gw m w).c))) && (List.range m.n.toNat).all (fun i => hgB (gi hs i))) && (List.range m.rs.length).all (rdOK m f ps hs)
structure PrtOK (m : Mp) (f : Nat → Int) (p : Prt) : Prop where
  w : 0 ≤ p.w ∧ p.w < m.ws.length
  r : 0 ≤ p.r ∧ p.r < m.rs.length
  k : 0 ≤ p.k ∧ p.k ≤ 5
  v : 0 ≤ p.v ∧ p.v ≤ (gw m p.w.toNat).c
  l : ldsB m f p.r.toNat p.k.toNat = true
  h : hpsB m f p.w.toNat p.r.toNat p.k.toNat = true
theorem prtB_iff {m : Mp} {f : Nat → Int} {p : Prt} : prtB m f p = true ↔ PrtOK m f p := by
  unfold prtB
  rw [Bool.and_eq_true, Bool.and_eq_true, decide_eq_true_eq]
  constructor
  · rintro ⟨⟨⟨h1, h2⟩, h3, h4⟩, h5, h6⟩
    exact ⟨h1, h2, h3, h4, h5, h6⟩
  · intro h
    exact ⟨⟨⟨h.w, h.r⟩, h.k, h.v⟩, h.l, h.h⟩
theorem range_all_no {n : Nat} {g : Nat → Bool} {i : Nat} (hi : i < n) (h : g i = false) : (List.range n).all g = false := by
  rw [← Bool.not_eq_true, List.all_eq_true]
  intro q
  rw [q i (List.mem_range.2 hi)] at h
  cases h
theorem range_all_yes {n : Nat} {g : Nat → Bool} (h : ∀ i, i < n → g i = true) : (List.range n).all g = true := by
  rw [List.all_eq_true]
  intro i hi
  exact h i (List.mem_range.1 hi)
theorem rgt_no1 {m : Mp} {f : Nat → Int} {ps : List Prt} {hs : List Int} {i : Nat} (hi : i < ps.length) (h : okP m f ps i = false) : rgtB m f ps hs = false := by
  unfold rgtB
  rw [range_all_no hi h]; rfl
theorem rgt_no2 {m : Mp} {f : Nat → Int} {ps : List Prt} {hs : List Int} {w : Nat} (hw : w < m.ws.length) (h : (gw m w).c < spW ps w) : rgtB m f ps hs = false := by
  unfold rgtB
  rw [range_all_no (n := m.ws.length) hw (decide_eq_false (by omega)), Bool.and_false]; rfl
theorem rgt_no3 {m : Mp} {f : Nat → Int} {ps : List Prt} {hs : List Int} {i : Nat} (hi : i < m.n.toNat) (h : hgB (gi hs i) = false) : rgtB m f ps hs = false := by
  unfold rgtB
  rw [range_all_no (n := m.n.toNat) hi h, Bool.and_false]; rfl
theorem rgt_no4 {m : Mp} {f : Nat → Int} {ps : List Prt} {hs : List Int} {i : Nat} (hi : i < m.rs.length) (h : rdOK m f ps hs i = false) : rgtB m f ps hs = false := by
  unfold rgtB
  rw [range_all_no (n := m.rs.length) hi h, Bool.and_false]
theorem rgt_yes {m : Mp} {f : Nat → Int} {ps : List Prt} {hs : List Int} (h1 : ∀ i, i < ps.length → okP m f ps i = true) (h2 : ∀ w, w < m.ws.length → spW ps w ≤ (gw m w).c) (h3 : ∀ i, i < m.n.toNat → hgB (gi hs i) = true) (h4 : ∀ i, i < m.rs.length → rdOK m f ps hs i = true) : rgtB m f ps hs = true := by
  unfold rgtB
  rw [range_all_yes h1, range_all_yes h3, range_all_yes h4, range_all_yes (fun w hw => decide_eq_true (h2 w hw))]; rfl
theorem okP_no {m : Mp} {f : Nat → Int} {ps : List Prt} {i : Nat} {p : Prt} (hp : ps.getD i dP = p) (h : ¬ PrtOK m f p) : okP m f ps i = false := by
  unfold okP
  rw [hp]
  have : prtB m f p = false := by rw [← Bool.not_eq_true, prtB_iff]; exact h
  rw [this]; rfl
def cBd (ps : List Prt) (hs : List Int) : List AV := [aP ps, aI hs]
end Go.Proofs.YtcfomfajpmlleaaGreat.R

namespace Go.Proofs.YtcfomfajpmlleaaGreat.R
open Go Sy
set_option maxRecDepth 100000
set_option maxHeartbeats 4000000
set_option linter.unusedVariables false
set_option linter.unusedSimpArgs false
def bdE (m : Mp) (f : Nat → Int) (fr to : Int) (ps : List Prt) (hs : List Int) : Int :=
  if opE m f = 0 then (if plB m.n fr = true ∧ plB m.n to = true then (if (hs.length : Int) = m.n then (if rgtB m f ps hs = true then 0 else 16) else 17) else 3) else opE m f
def bdV (m : Mp) (f : Nat → Int) (fr to : Int) (ps : List Prt) (hs : List Int) : Int := if bdE m f fr to ps hs = 0 then gi hs to.toNat - gi hs fr.toNat else 0
end Go.Proofs.YtcfomfajpmlleaaGreat.R

namespace Go.Proofs.YtcfomfajpmlleaaGreat.R
open Go Sy
set_option maxRecDepth 100000
set_option maxHeartbeats 4000000
set_option linter.unusedVariables false
set_option linter.unusedSimpArgs false
structure Ld where
  r : Int
  k : Int
def dLd : Ld := ⟨0, 0⟩
def cLd (c : Ld) : List AV := [iv c.r, iv c.k]
theorem lLd (c : Ld) : (cLd c).length = 2 := rfl
theorem frLd (c : Ld) : frzAll (cLd c) = true := rfl
theorem tLd (c : Ld) : List.take 2 (List.drop 0 (cLd c)) = cLd c := rfl
theorem tLd2 (c : Ld) : List.take 2 (cLd c) = cLd c := rfl
theorem iLd {m : Nat → Option Blk} {n : Nat} (c : Ld) : List.flatMap (ids m n) (cLd c) = [] := flat_frz n _ (frLd c)
theorem vLd {m : Nat → Option Blk} {n : Nat} (c : Ld) : List.map (view m n) (cLd c) = cLd c := viewL_frz n _ (frLd c)
attribute [push_cast] lLd frLd tLd tLd2 iLd vLd
abbrev aLd (l : List Ld) : AV := .sl 2 dLd cLd l
def ld1 (m : Mp) (f : Nat → Int) (road k : Nat) : List Ld := if ldsB m f road k = true then [⟨road, k⟩] else []
def ldL (m : Mp) (f : Nat → Int) (road n : Nat) : List Ld := (List.range n).flatMap (ld1 m f road)
theorem ldL_succ (m : Mp) (f : Nat → Int) (road n : Nat) : ldL m f road (n + 1) = ldL m f road n ++ ld1 m f road n := by
  unfold ldL
  rw [List.range_succ, List.flatMap_append]
  simp
theorem ldL_len (m : Mp) (f : Nat → Int) (road : Nat) : ∀ n, (ldL m f road n).length ≤ n
  | 0 => by simp [ldL]
  | n + 1 => by
    rw [ldL_succ, List.length_append]
    have := ldL_len m f road n
    have : (ld1 m f road n).length ≤ 1 := by unfold ld1; split <;> simp
    omega
theorem fn40 (m : Mp) (f : Nat → Int) (road : Int) : Sy.Fn Tryz.prog 40 [aAt m f, iv road] (.clo 80 [] [.fp (cAt m f) 0, .fp [iv road] 0]) := by
  refine Fn_of_W mixed Xt40 rfl ?_
  (refine go0 ?_; try exact True.intro)
  exact W_ret ⟨[_], ⟨rfl, rfl⟩, rfl⟩
theorem fn86 (m : Mp) (f : Nat → Int) (road : Nat) (h : OkM m) (hr : road < m.rs.length) : Sy.Fn Tryz.prog 86 [.v (.slice none 0 0), .clo 80 [] [.fp (cAt m f) 0, .fp [iv road] 0]] (aLd (ldL m f road 6)) := by
  refine Fn_of_W mixed Xt86 rfl ?_
  (refine go0 ?_; try exact True.intro)
  refine W_le (le_adoptC 0 0 123 2 dLd cLd (by omega) _ rfl rfl (by simp)) ?_
  (refine sy1 ?_; try exact True.intro)
  have hw := h.nw
  have c45 := fn45 m f hw
  have c36 := fn36 m f (evL m.ws.length) (msk (evL m.ws.length)) road h (setW_msk (ev_srt _)) hr
  refine W_rfn (.inl rfl) (fun lp R hR => Inl_of_W mixed Xt80 rfl (fun vs => ?_))
  have hld : ∀ k, ldsB m f road k = (usB m f (evL m.ws.length) road && decide ((gr m road).lim k < f k)) := fun _ => rfl
  generalize usB m f (evL m.ws.length) road = U at *
  generalize msk (evL m.ws.length) = E at *
  (refine sy1 ?_; try exact True.intro)
  (refine go_cc c45 c36 ?_; try exact True.intro)
  cases U
  · refine W_cond (by rfl) (fun _ => ?_) (fun h => by cases h)
    have e : ldL m f road 6 = [] := by
      unfold ldL
      rw [List.flatMap_eq_nil_iff]
      intro k _
      unfold ld1
      rw [if_neg (by rw [hld]; simp)]
    rw [e]
    refine W_ret ?_
    refine ⟨_, _, rfl, rfl, ⟨_, _, rfl, by rw [hR.st]; simp, ?_⟩⟩
    rw [hR.pe]
    (refine syN ?_; try exact True.intro)
    (refine go0 ?_; try exact True.intro)
    refine W_ret ⟨[_], ⟨rfl, rfl⟩, ?_⟩
    (refine syP ?_; try exact True.intro)
  · refine W_cond (by rfl) (fun h => by cases h) (fun _ => ?_)
    have hld2 : ∀ k, ld1 m f road k = if (gr m road).lim k < f k then [⟨road, k⟩] else [] := fun k => by
      unfold ld1
      rw [hld, Bool.true_and]
      congr 1
      rw [decide_eq_true_eq]
    (refine go_c (fn52 m f 0 road) ?_; try exact True.intro)
    refine W_rfn (.inl rfl) (fun lp2 R2 hR2 => Inl_of_W mixed Xt88 rfl (fun vs2 => ?_))
    (refine sy1 ?_; try exact True.intro)
    (refine go0 ?_; try exact True.intro)
    refine W_loopU (fun k : Nat => [(10, iv k)]) (fun k => [(0, .cells [.row 3 (ldL m f road k).length]), (3, .row (ldL m f road k).length 123 2 dLd cLd (ldL m f road k))]) (fun k => k ≤ 6) (fun k => 6 - k) 0 (by omega) (by rfl) (by rfl) (fun k hk => ?_)
    have hal := ldL_len m f road k
    have hys := ldL_succ m f road k
    (refine sy1 ?_; try exact True.intro)
    (refine go0 ?_; try exact True.intro)
    refine W_condD (by rfl) (fun h6 => ?_) (fun h6 => ?_)
    · have hk6 : k < 6 := by omega
      have c89 := fn89 m f [] 0 road k h (setW_msk (l := []) trivial) hr hk6
      have ec : limL m [] road k = (gr m road).lim k := rfl
      have ez := hld2 k
      rw [ec] at c89
      generalize (gr m road).lim k = n at *
      generalize ldL m f road k = Y at *
      by_cases q : n < f k
      · have qb : decide (n < f k) = true := decide_eq_true q
        rw [if_pos q] at ez
        rw [ez] at hys
        (refine gofc (ad3 Nat.mul_one Nat.zero_add qb) c89 ?_; try exact True.intro)
        refine StopC.yld (fun hpc => ⟨trivial, Yl_of_W (k := 16) mixed hR2 rfl rfl rfl (fun vs3 => ?_)⟩) (fun hpc => absurd (by simp [Sy.pc]) hpc)
        (refine sy1 ?_; try exact True.intro)
        (refine go0 ?_; try exact True.intro)
        refine ⟨_, rfl, ?_⟩
        (refine sy1 ?_; try exact True.intro)
        (refine go0 ?_; try exact True.intro)
        refine StopC.yld (fun hpc2 => ⟨trivial, Yl_of_W (k := 4) mixed hR rfl rfl rfl (fun vs4 => ?_)⟩) (fun hpc2 => absurd (by simp [Sy.pc]) hpc2)
        (refine sy1 ?_; try exact True.intro)
        (refine go0 ?_; try exact True.intro)
        refine ⟨_, rfl, ?_⟩
        (refine sy1 ?_; try exact True.intro)
        (refine go0 ?_; try exact True.intro)
        refine ⟨rfl, trivial, Ld, dLd, cLd, [⟨road, k⟩], rfl, by omega, fun x _ => ⟨rfl, rfl⟩, rfl, ?_⟩
        (refine sy1 ?_; try exact True.intro)
        refine ⟨rfl, ⟨Nat.le_of_ble_eq_true rfl, rfl⟩, trivial, [(⟨road, k⟩ : Ld)], rfl, by first | omega | (simp; omega), by first | omega | (simp; omega), ?_⟩
        (refine sy1 ?_; try exact True.intro)
        (refine go0 ?_; try exact True.intro)
        refine ⟨_, _, rfl, rfl, ?_⟩
        (refine sy1 ?_; try exact True.intro)
        (refine go0 ?_; try exact True.intro)
        refine W_cond (by rfl) (fun h => by cases h) (fun _ => ?_)
        (refine go0 ?_; try exact True.intro)
        refine ⟨_, _, rfl, rfl, ?_⟩
        (refine sy1 ?_; try exact True.intro)
        (refine go0 ?_; try exact True.intro)
        refine W_cond (by rfl) (fun h => by cases h) (fun _ => ?_)
        (refine go0 ?_; try exact True.intro)
        refine ⟨k + 1, by omega, by omega, by rfl, ?_⟩
        rw [hys, List.length_append]
        (refine syE ?_; try exact True.intro)
      · rw [if_neg q] at ez
        rw [ez, List.append_nil] at hys
        have qb : decide (n < f k) = false := decide_eq_false q
        (refine gofc (ad3 Nat.mul_one Nat.zero_add qb) c89 ?_; try exact True.intro)
        refine StopC.yld (fun hpc => absurd hpc (by simp [Sy.pc])) (fun hpc => ?_)
        (refine sy1 ?_; try exact True.intro)
        (refine go0 ?_; try exact True.intro)
        refine W_cond (by rfl) (fun h => by cases h) (fun _ => ?_)
        (refine go0 ?_; try exact True.intro)
        refine ⟨k + 1, by omega, by omega, by rfl, ?_⟩
        rw [hys]
        (refine syE ?_; try exact True.intro)
    · have hk6 : k = 6 := by omega
      subst hk6
      (refine go0 ?_; try exact True.intro)
      refine ⟨_, _, rfl, rfl, ⟨_, _, rfl, by rw [hR2.st]; simp, ?_⟩⟩
      rw [hR2.pe]
      (refine syN ?_; try exact True.intro)
      (refine go0 ?_; try exact True.intro)
      refine ⟨_, _, rfl, rfl, ⟨_, _, rfl, by rw [hR.st]; simp, ?_⟩⟩
      rw [hR.pe]
      (refine syN ?_; try exact True.intro)
      (refine go0 ?_; try exact True.intro)
      refine W_ret ⟨[_], ⟨rfl, rfl⟩, ?_⟩
      (refine syP ?_; try exact True.intro)
end Go.Proofs.YtcfomfajpmlleaaGreat.R

namespace Go.Proofs.YtcfomfajpmlleaaGreat.R
open Go Sy
set_option maxRecDepth 100000
set_option maxHeartbeats 4000000
set_option linter.unusedVariables false
set_option linter.unusedSimpArgs false
theorem fn47 (m : Mp) (f : Nat → Int) (road : Nat) (h : OkM m) (hr : road < m.rs.length) : Sy.Fn Tryz.prog 47 [.clo 80 [] [.fp (cAt m f) 0, .fp [iv road] 0]] (aLd (ldL m f road 6)) := by
  refine Fn_of_W mixed Xt47 rfl ?_
  (refine go_c (fn86 m f road h hr) ?_; try exact True.intro)
  exact W_ret ⟨[_], ⟨rfl, rfl⟩, rfl⟩
def ldEq (x y : Ld) : Bool := x.r == y.r && x.k == y.k
theorem fn85 (l : List Ld) (x : Ld) (hl : l.length ≤ 1000000) : Sy.Fn Tryz.prog 85 [aLd l, .agg (cLd x)] (iv (idxF (ldEq x) l 0)) := by
  refine Fn_of_W mixed Xt85 rfl ?_
  (refine go0 ?_; try exact True.intro)
  refine W_loopU (fun i : Nat => [(8, iv i)]) (fun i => []) (fun i => i ≤ l.length ∧ ∀ j, j < i → ldEq x (l.getD j dLd) = false) (fun i => l.length - i) 0 ⟨by omega, fun j hj => by omega⟩ (by rfl) (by rfl) (fun i hi => ?_)
  obtain ⟨hi, hp⟩ := hi
  (refine sy1 ?_; try exact True.intro)
  (refine go0 ?_; try exact True.intro)
  refine W_condD (by rfl) (fun h => ?_) (fun h => ?_)
  · have hlt : i < l.length := by omega
    obtain ⟨y, hy⟩ : ∃ y, l.getD i dLd = y := ⟨_, rfl⟩
    repeat' (first | refine w1g ?_ | refine w1l ?_ | refine w1q ?_ | refine w1b ?_ | refine w1p ?_ | ((first | refine w1r ?_ | refine w1k ?_ | refine w1e ?_); simp (maxSteps := 400000) (disch := omega) only [push_cast, ↓reduceIte, reduceCtorEq, Nat.reduceAdd, Nat.reduceSub, Nat.reduceEqDiff, Nat.reduceLeDiff, Nat.reduceLT, Nat.reduceBEq, Nat.reduceDiv, Nat.reduceMod, Nat.reducePow, Nat.reduceMul, Int.reduceToNat, Int.reduceLT, Int.reduceLE, hy, cLd, eqV, eqA, eqL]) | refine an2 ?_ | fail)
    have hb : (x.r == y.r && x.k == y.k) = ldEq x y := rfl
    rw [hb]
    refine W_cond (by rfl) (fun hz => ?_) (fun hz => ?_)
    · (refine go0 ?_; try exact True.intro)
      exact W_ret ⟨[_], ⟨rfl, rfl⟩, by rw [idxF_at (ldEq x) dLd l i 0 hlt hp (by rw [hy]; exact hz), Int.zero_add]; rfl⟩
    · (refine go0 ?_; try exact True.intro)
      refine ⟨i + 1, ⟨by omega, up_all hp (by rw [hy]; exact hz)⟩, by omega, by rfl, ?_⟩
      (refine syE ?_; try exact True.intro)
  · (refine go0 ?_; try exact True.intro)
    exact W_ret ⟨[_], ⟨rfl, rfl⟩, by rw [idxF_none (ldEq x) dLd l 0 (fun j hj => hp j (by omega))]; rfl⟩
theorem fn46 (l : List Ld) (x : Ld) (hl : l.length ≤ 1000000) : Sy.Fn Tryz.prog 46 [aLd l, .agg (cLd x)] (bv (l.any (ldEq x))) := by
  refine Fn_of_W mixed Xt46 rfl ?_
  have c85 := fn85 l x hl
  have e : decide (0 ≤ idxF (ldEq x) l 0) = l.any (ldEq x) := idxF_any _ l 0 (by omega)
  unfold cLd at *
  (refine go_c c85 ?_; try exact True.intro)
  exact W_ret ⟨[_], ⟨rfl, rfl⟩, by rw [← e]; rfl⟩
theorem ldL_any (m : Mp) (f : Nat → Int) (road : Nat) (k : Int) : (ldL m f road 6).any (ldEq ⟨road, k⟩) = (decide (0 ≤ k ∧ k ≤ 5) && ldsB m f road k.toNat) := by
  rw [Bool.eq_iff_iff, List.any_eq_true, Bool.and_eq_true, decide_eq_true_eq]
  unfold ldL
  constructor
  · rintro ⟨x, hx, hq⟩
    obtain ⟨j, hj, hxj⟩ := List.mem_flatMap.1 hx
    have hj := List.mem_range.1 hj
    unfold ld1 at hxj
    split at hxj
    · rename_i hl
      rw [List.mem_singleton] at hxj
      subst hxj
      unfold ldEq at hq
      rw [Bool.and_eq_true, beq_iff_eq, beq_iff_eq] at hq
      have h2 : k = j := hq.2
      subst h2
      exact ⟨by omega, by simpa using hl⟩
    · cases hxj
  · rintro ⟨hk, hl⟩
    refine ⟨⟨road, k⟩, List.mem_flatMap.2 ⟨k.toNat, List.mem_range.2 (by omega), ?_⟩, by simp [ldEq]⟩
    unfold ld1
    rw [if_pos hl, List.mem_singleton, show ((k.toNat : Nat) : Int) = k by omega]
theorem fn41 (m : Mp) (f : Nat → Int) (w road k : Nat) (h : OkM m) (hw : w < m.ws.length) (hk : k < 6) : Sy.Fn Tryz.prog 41 [aAt m f, iv w, .agg (cLd ⟨road, k⟩)] (bv (hpsB m f w road k)) := by
  refine Fn_of_W mixed Xt41 rfl ?_
  have hgw : m.ws.getD w dW = gw m w := rfl
  have hwl := h.s w hw
  have c81 := fn81 (gw m w).rs (road : Int) (by omega)
  have hcf : nth (cAt m f) (3 + k) = iv (f k) := by
    rcases k with _ | _ | _ | _ | _ | _ | k <;> first | rfl | omega
  have e : hpsB m f w road k = (((gw m w).k == (k : Int) && decide (f k ≤ (gw m w).l)) && decide ((road : Int) ∈ (gw m w).rs)) := by
    unfold hpsB
    cases (gw m w).k == (k : Int) <;> cases decide (f k ≤ (gw m w).l) <;> cases decide ((road : Int) ∈ (gw m w).rs) <;> rfl
  rw [e]
  generalize gw m w = W at *
  unfold cLd
  repeat' (first | refine w1g ?_ | refine w1l ?_ | refine w1q ?_ | refine w1b ?_ | refine w1p ?_ | ((first | refine w1r ?_ | refine w1k ?_ | refine w1e ?_ | refine CallC.go _ (fun _ => ⟨trivial, c81⟩) rfl ?_); simp (maxSteps := 400000) (disch := omega) only [push_cast, ↓reduceIte, reduceCtorEq, Nat.reduceAdd, Nat.reduceSub, Nat.reduceEqDiff, Nat.reduceLeDiff, Nat.reduceLT, Nat.reduceBEq, Nat.reduceDiv, Nat.reduceMod, Nat.reducePow, Nat.reduceMul, Int.reduceToNat, Int.reduceLT, Int.reduceLE, hgw, hcf, Nat.mul_one, Nat.zero_add]) | refine an2 ?_ | fail)
  exact W_ret ⟨[_], ⟨rfl, rfl⟩, rfl⟩
end Go.Proofs.YtcfomfajpmlleaaGreat.R

namespace Go.Proofs.YtcfomfajpmlleaaGreat.R
open Go Sy
set_option maxRecDepth 100000
set_option maxHeartbeats 4000000
set_option linter.unusedVariables false
set_option linter.unusedSimpArgs false
def kyP (w r k : Int) : Value := .agg #[.int .i64 w, .int .i64 r, .int .i64 k]
def Hol (g : Value → Option Value) (V : Nat → Nat → Nat → Int) : Prop := ∀ w r k : Nat, valG g (.int .i64 0) (kyP w r k) = .int .i64 (V w r k)
theorem ok3 (w r k : Int) : okK 3 (.agg #[.int .i64 w, .int .i64 r, .int .i64 k]) := ⟨[w, r, k], rfl, rfl⟩
theorem fn84 (m : Mp) (f : Nat → Int) (g : Value → Option Value) (V : Nat → Nat → Nat → Int) (hg : Hol g V) (w road k : Nat) (h : OkM m) (hw : w < m.ws.length) (hk : k < 6) : Sy.Fn Tryz.prog 84 [iv w, .fp [.fm 3 g] 0, .fp (cLd ⟨road, k⟩) 0, .fp (cAt m f) 0] (.tup [iv (V w road k), bv (hpsB m f w road k)]) := by
  refine Fn_of_W mixed Xt84 rfl ?_
  have c41 := fn41 m f w road k h hw hk
  have hg : valG g (.int .i64 0) (.agg #[.int .i64 w, .int .i64 road, .int .i64 k]) = .int .i64 (V w road k) := hg w road k
  have c41 : Sy.Fn Tryz.prog 41 [aAt m f, iv w, .agg [iv road, iv k]] (bv (hpsB m f w road k)) := c41
  have ec : cLd ⟨road, k⟩ = [iv road, iv k] := rfl
  rw [ec]
  (refine go_c c41 ?_; try exact True.intro)
  refine And.intro (ok3 _ _ _) ?_
  refine CallC.now c41 ?_
  (refine syf hg ?_; try exact True.intro)
  exact W_ret ⟨[_, _], ⟨rfl, rfl, rfl⟩, rfl⟩
def lwS (hp : Nat → Bool) (v : Nat → Int) (a : Int × Int × Bool) (i : Nat) : Int × Int × Bool := if (hp i && (!a.2.2 || decide (v i < a.2.1))) = true then ((i : Int), v i, true) else a
def lwF (hp : Nat → Bool) (v : Nat → Int) (n : Nat) : Int × Int × Bool := (List.range n).foldl (lwS hp v) (0, 0, false)
theorem lwF_succ (hp : Nat → Bool) (v : Nat → Int) (n : Nat) : lwF hp v (n + 1) = lwS hp v (lwF hp v n) n := by
  unfold lwF; rw [List.range_succ, List.foldl_append]; rfl
theorem fn83 (n : Nat) (hn : n ≤ 10) (g : Nat) (fi ca : List AV) (hp : Nat → Bool) (v : Nat → Int) (hc : ∀ i, i < n → Sy.Fn Tryz.prog g (fi ++ [iv i] ++ ca) (.tup [iv (v i), bv (hp i)])) : Sy.Fn Tryz.prog 83 [.clo 72 [] [.fp [uv (msk (evL n))] 0], .clo g fi ca] (.tup [iv (lwF hp v n).1, iv (lwF hp v n).2.1, bv (lwF hp v n).2.2]) := by
  refine Fn_of_W mixed Xt83 rfl ?_
  obtain ⟨s, hs⟩ : ∃ s, s = msk (evL n) := ⟨_, rfl⟩
  have hb : BitsOf s (evL n) := by rw [hs]; exact msk_bits fun x hx => (ev_mem.1 hx).1
  have hs1 : s < 1024 := by
    have := bits_lt (n := 10) hb (fun x hx => by have := (ev_mem.1 hx).2; omega)
    simpa using this
  rw [← hs]
  (refine go0 ?_; try exact True.intro)
  refine W_rfn (.inl rfl) (fun lp R hR => Inl_of_W mixed Xt72 rfl (fun vs => ?_))
  (refine sy1 ?_; try exact True.intro)
  (refine go0 ?_; try exact True.intro)
  have hsv : s = 2 ^ n - 1 := by rw [hs, msk_ev]
  refine W_loopU (fun i : Nat => [(3, iv i)]) (fun i => [(1, .cells [iv (lwF hp v i).1]), (2, .cells [iv (lwF hp v i).2.1]), (3, .cells [bv (lwF hp v i).2.2])]) (fun i => i ≤ n) (fun i => n - i) 0 (by omega) (by rfl) (by rfl) (fun i hi => ?_)
  obtain ⟨q, hq⟩ : ∃ q, q = s / 2 ^ i := ⟨_, rfl⟩
  have e1 := shrS s (i := i) (by omega)
  have e2 := andS (s / 2 ^ i) (div_lt64 hs1 i)
  rw [bits_shr hb i] at e2
  rw [← hq] at e1 e2
  have esn := lwF_succ hp v i
  (refine sy1 ?_; try exact True.intro)
  (refine gof e1 ?_; try exact True.intro)
  refine W_cond (by rfl) (fun hz => ?_) (fun hz => ?_)
  · have hlt : i < n := by
      apply Classical.byContradiction
      intro hge
      have : i = n := by omega
      subst this
      have : q = 0 := by rw [hq, hsv]; exact Nat.div_eq_of_lt (by have := Nat.pow_pos (n := i) (show 0 < 2 by omega); omega)
      rw [this] at hz
      simp at hz
    have cc := hc i hlt
    rw [if_pos (ev_mem.2 (by omega))] at e2
    have e2 : bits .and .u64 (q : Int) 1 = 1 := e2
    generalize lwF hp v i = A at *
    obtain ⟨a1, a2, a3⟩ := A
    dsimp only at *
    unfold lwS at esn
    dsimp only at esn
    (refine gof (ad2 e1 e2) ?_; try exact True.intro)
    refine StopC.yld (fun hpc => ⟨trivial, Yl_of_W (k := 5) mixed hR rfl rfl rfl (fun vs2 => ?_)⟩) (fun hpc => absurd (by simp [Sy.pc]) hpc)
    (refine sy1 ?_; try exact True.intro)
    (refine go0 ?_; try exact True.intro)
    refine ⟨_, rfl, ?_⟩
    (refine sy1 ?_; try exact True.intro)
    (refine go_c cc ?_; try exact True.intro)
    refine W_cond (by rfl) (fun hz => ?_) (fun hz => ?_)
    · rw [if_pos hz] at esn
      (refine go0 ?_; try exact True.intro)
      refine ⟨_, _, rfl, rfl, ?_⟩
      (refine sy1 ?_; try exact True.intro)
      (refine go0 ?_; try exact True.intro)
      refine W_cond (by rfl) (fun h => by cases h) (fun _ => ?_)
      (refine go0 ?_; try exact True.intro)
      refine ⟨i + 1, by omega, by omega, by rfl, ?_⟩
      rw [esn]
      (refine syE ?_; try exact True.intro)
    · rw [if_neg (by rw [hz]; simp)] at esn
      (refine go0 ?_; try exact True.intro)
      refine ⟨_, _, rfl, rfl, ?_⟩
      (refine sy1 ?_; try exact True.intro)
      (refine go0 ?_; try exact True.intro)
      refine W_cond (by rfl) (fun h => by cases h) (fun _ => ?_)
      (refine go0 ?_; try exact True.intro)
      refine ⟨i + 1, by omega, by omega, by rfl, ?_⟩
      rw [esn]
      (refine syE ?_; try exact True.intro)
  · have hin : i = n := by
      apply Classical.byContradiction
      intro hne
      rw [if_pos (ev_mem.2 (by omega))] at e2
      have hz0 : (q : Int) = 0 := by simpa using hz
      rw [hz0] at e2
      cases e2
    subst hin
    generalize lwF hp v i = A at *
    (refine go0 ?_; try exact True.intro)
    refine ⟨_, _, rfl, rfl, ⟨_, _, rfl, by rw [hR.st]; simp, ?_⟩⟩
    rw [hR.pe]
    (refine syN ?_; try exact True.intro)
    (refine go0 ?_; try exact True.intro)
    exact W_ret ⟨[_, _, _], ⟨⟨by simp, rfl⟩, ⟨by simp, rfl⟩, ⟨by simp, rfl⟩, rfl⟩, rfl⟩
theorem fn42 (m : Mp) (f : Nat → Int) (g : Value → Option Value) : Sy.Fn Tryz.prog 42 [aAt m f, .fm 3 g] (.clo 82 [] [.fp (cAt m f) 0, .fp [.fm 3 g] 0]) := by
  refine Fn_of_W mixed Xt42 rfl ?_
  (refine go0 ?_; try exact True.intro)
  exact W_ret ⟨[_], ⟨rfl, rfl⟩, rfl⟩
theorem fn49 (x : Int) : Sy.Fn Tryz.prog 49 [iv x] (bv (!hgB x)) := by
  refine Fn_of_W mixed Xt49 rfl ?_
  have c50 := fn50 x (-35184372088832) 35184372088832
  have e : inR x (-35184372088832) 35184372088832 = hgB x := by
    unfold hgB
    rw [Bool.eq_iff_iff, inR_iff, decide_eq_true_eq]
  rw [e] at c50
  (refine go_c c50 ?_; try exact True.intro)
  exact W_ret ⟨[_], ⟨rfl, rfl⟩, rfl⟩
end Go.Proofs.YtcfomfajpmlleaaGreat.R

namespace Go.Proofs.YtcfomfajpmlleaaGreat.R
open Go Sy
set_option maxRecDepth 100000
set_option maxHeartbeats 4000000
set_option linter.unusedVariables false
set_option linter.unusedSimpArgs false
def lwC (m : Mp) (f : Nat → Int) (V : Nat → Nat → Nat → Int) (road k : Nat) : Int × Int × Bool := lwF (fun w => hpsB m f w road k) (fun w => V w road k) m.ws.length
def rdK2 (m : Mp) (f : Nat → Int) (V : Nat → Nat → Nat → Int) (road : Nat) (a : Int) (k : Nat) : Int := if ldsB m f road k = true then a + (lwC m f V road k).2.1 else a
def rdS (m : Mp) (f : Nat → Int) (V : Nat → Nat → Nat → Int) (road n : Nat) : Int := (List.range n).foldl (rdK2 m f V road) (gr m road).c
theorem rdS_succ (m : Mp) (f : Nat → Int) (V : Nat → Nat → Nat → Int) (road n : Nat) : rdS m f V road (n + 1) = rdK2 m f V road (rdS m f V road n) n := by
  unfold rdS; rw [List.range_succ, List.foldl_append]; rfl
theorem lwF_rng {hp : Nat → Bool} {v : Nat → Int} {M : Int} (hM : 0 ≤ M) (h : ∀ i, 0 ≤ v i ∧ v i ≤ M) : ∀ n, 0 ≤ (lwF hp v n).2.1 ∧ (lwF hp v n).2.1 ≤ M
  | 0 => ⟨Int.le_refl _, hM⟩
  | n + 1 => by
    rw [lwF_succ]
    unfold lwS
    split
    · exact h n
    · exact lwF_rng hM h n
theorem rdS_rng {m : Mp} {f : Nat → Int} {V : Nat → Nat → Nat → Int} {road : Nat} (hok : OkM m) (hr : road < m.rs.length) (h : ∀ w r k, 0 ≤ V w r k ∧ V w r k ≤ 1125899906842624) : ∀ n : Nat, 1 ≤ rdS m f V road n ∧ rdS m f V road n ≤ 1073741824 + n * 1125899906842624
  | 0 => by
    have := (roadB_ok (hok.r road hr)).c
    show 1 ≤ (gr m road).c ∧ (gr m road).c ≤ _
    omega
  | n + 1 => by
    have h1 := rdS_rng (f := f) hok hr h n
    have h2 : 0 ≤ (lwC m f V road n).2.1 ∧ (lwC m f V road n).2.1 ≤ 1125899906842624 := lwF_rng (by omega) (fun i => h i road n) _
    rw [rdS_succ]
    unfold rdK2
    split <;> omega
theorem fn82 (m : Mp) (f : Nat → Int) (g : Value → Option Value) (V : Nat → Nat → Nat → Int) (hg : Hol g V) (hV : ∀ w r k, 0 ≤ V w r k ∧ V w r k ≤ 1125899906842624) (road : Nat) (h : OkM m) (hr : road < m.rs.length) : Sy.Fn Tryz.prog 82 [iv road, .fp (cAt m f) 0, .fp [.fm 3 g] 0] (iv (if usB m f (evL m.ws.length) road = true then rdS m f V road 6 else -1)) := by
  refine Fn_of_W mixed Xt82 rfl ?_
  have hw := h.nw
  have c45 := fn45 m f hw
  have c36 := fn36 m f (evL m.ws.length) (msk (evL m.ws.length)) road h (setW_msk (ev_srt _)) hr
  have hld : ∀ k, ldsB m f road k = (usB m f (evL m.ws.length) road && decide ((gr m road).lim k < f k)) := fun _ => rfl
  have hgr : m.rs.getD road dR = gr m road := rfl
  obtain ⟨E, hE⟩ : ∃ E, E = msk (evL m.ws.length) := ⟨_, rfl⟩
  rw [← hE] at c45 c36
  generalize usB m f (evL m.ws.length) road = U at *
  (refine go_cc c45 c36 ?_; try exact True.intro)
  cases U
  · refine W_cond (by rfl) (fun _ => ?_) (fun h => by cases h)
    (refine go0 ?_; try exact True.intro)
    exact W_ret ⟨[_], ⟨rfl, rfl⟩, rfl⟩
  refine W_cond (by rfl) (fun h => by cases h) (fun _ => ?_)
  have hld2 : ∀ a k, rdK2 m f V road a k = if (gr m road).lim k < f k then a + (lwC m f V road k).2.1 else a := fun a k => by
    unfold rdK2
    rw [hld, Bool.true_and]
    congr 1
    rw [decide_eq_true_eq]
  rw [if_pos rfl]
  (refine gofc hgr (fn40 m f road) ?_; try exact True.intro)
  refine W_rfn (.inl rfl) (fun lp R hR => Inl_of_W mixed Xt80 rfl (fun vs => ?_))
  (refine sy1 ?_; try exact True.intro)
  (refine go_cc c45 c36 ?_; try exact True.intro)
  refine W_cond (by rfl) (fun h => by cases h) (fun _ => ?_)
  (refine go_c (fn52 m f 0 road) ?_; try exact True.intro)
  refine W_rfn (.inl rfl) (fun lp2 R2 hR2 => Inl_of_W mixed Xt88 rfl (fun vs2 => ?_))
  (refine sy1 ?_; try exact True.intro)
  (refine go0 ?_; try exact True.intro)
  refine W_loopU (fun k : Nat => [(10, iv k)]) (fun k => [(14, .cells [iv (rdS m f V road k)])]) (fun k => k ≤ 6) (fun k => 6 - k) 0 (by omega) (by rfl) (by rfl) (fun k hk => ?_)
  have hbd := rdS_rng (f := f) h hr hV k
  have hys := rdS_succ m f V road k
  rw [hld2] at hys
  (refine sy1 ?_; try exact True.intro)
  (refine go0 ?_; try exact True.intro)
  refine W_condD (by rfl) (fun h6 => ?_) (fun h6 => ?_)
  · have hk6 : k < 6 := by omega
    have c89 := fn89 m f [] 0 road k h (setW_msk (l := []) trivial) hr hk6
    have ec : limL m [] road k = (gr m road).lim k := rfl
    rw [ec] at c89
    generalize (gr m road).lim k = n at *
    by_cases q : n < f k
    · have qb : decide (n < f k) = true := decide_eq_true q
      rw [if_pos q] at hys
      have c83 := fn83 m.ws.length hw 84 [] [.fp [.fm 3 g] 0, .fp (cLd ⟨road, k⟩) 0, .fp (cAt m f) 0] (fun w => hpsB m f w road k) (fun w => V w road k) (fun i hi => fn84 m f g V hg i road k h hi hk6)
      have elw : lwF (fun w => hpsB m f w road k) (fun w => V w road k) m.ws.length = lwC m f V road k := rfl
      have hlb : 0 ≤ (lwC m f V road k).2.1 ∧ (lwC m f V road k).2.1 ≤ 1125899906842624 := lwF_rng (by omega) (fun i => hV i road k) _
      rw [elw, ← hE] at c83
      generalize lwC m f V road k = A at *
      generalize rdS m f V road k = S0 at *
      (refine gofc (ad3 Nat.mul_one Nat.zero_add qb) c89 ?_; try exact True.intro)
      refine StopC.yld (fun hpc => ⟨trivial, Yl_of_W (k := 31) mixed hR2 rfl rfl rfl (fun vs3 => ?_)⟩) (fun hpc => absurd (by simp [Sy.pc]) hpc)
      (refine sy1 ?_; try exact True.intro)
      (refine go0 ?_; try exact True.intro)
      refine ⟨_, rfl, ?_⟩
      (refine sy1 ?_; try exact True.intro)
      (refine go0 ?_; try exact True.intro)
      refine StopC.yld (fun hpc2 => ⟨trivial, Yl_of_W (k := 19) mixed hR rfl rfl rfl (fun vs4 => ?_)⟩) (fun hpc2 => absurd (by simp [Sy.pc]) hpc2)
      (refine sy1 ?_; try exact True.intro)
      (refine go0 ?_; try exact True.intro)
      refine ⟨_, rfl, ?_⟩
      (refine sy1 ?_; try exact True.intro)
      repeat (first | refine WK_go ?_ | refine W_seqL ?_ | refine W_seq ?_ | refine W_block ?_)
      refine W_le (le_frz 6 [1, 2, 5] [65, 57, 32, 31, 20, 19, 14, 58] 68 66 0 (cLd ⟨road, k⟩) rfl rfl rfl rfl rfl) ?_
      (refine sy1 ?_; try exact True.intro)
      (refine go_ccc c45 (fun x1 => fn33 x1) c83 ?_; try exact True.intro)
      refine ⟨_, _, rfl, rfl, ?_⟩
      (refine sy1 ?_; try exact True.intro)
      (refine go0 ?_; try exact True.intro)
      refine W_cond (by rfl) (fun h => by cases h) (fun _ => ?_)
      (refine go0 ?_; try exact True.intro)
      refine ⟨_, _, rfl, rfl, ?_⟩
      (refine sy1 ?_; try exact True.intro)
      (refine go0 ?_; try exact True.intro)
      refine W_cond (by rfl) (fun h => by cases h) (fun _ => ?_)
      (refine go0 ?_; try exact True.intro)
      refine ⟨k + 1, by omega, by omega, by rfl, ?_⟩
      rw [hys]
      (refine syE ?_; try exact True.intro)
    · rw [if_neg q] at hys
      have qb : decide (n < f k) = false := decide_eq_false q
      (refine gofc (ad3 Nat.mul_one Nat.zero_add qb) c89 ?_; try exact True.intro)
      refine StopC.yld (fun hpc => absurd hpc (by simp [Sy.pc])) (fun hpc => ?_)
      (refine sy1 ?_; try exact True.intro)
      (refine go0 ?_; try exact True.intro)
      refine W_cond (by rfl) (fun h => by cases h) (fun _ => ?_)
      (refine go0 ?_; try exact True.intro)
      refine ⟨k + 1, by omega, by omega, by rfl, ?_⟩
      rw [hys]
      (refine syE ?_; try exact True.intro)
  · have hk6 : k = 6 := by omega
    subst hk6
    generalize rdS m f V road 6 = S0 at *
    (refine go0 ?_; try exact True.intro)
    refine ⟨_, _, rfl, rfl, ⟨_, _, rfl, by rw [hR2.st]; simp, ?_⟩⟩
    rw [hR2.pe]
    (refine syN ?_; try exact True.intro)
    (refine go0 ?_; try exact True.intro)
    refine ⟨_, _, rfl, rfl, ⟨_, _, rfl, by rw [hR.st]; simp, ?_⟩⟩
    rw [hR.pe]
    (refine syN ?_; try exact True.intro)
    (refine go0 ?_; try exact True.intro)
    exact W_ret ⟨[_], ⟨rfl, rfl⟩, rfl⟩
end Go.Proofs.YtcfomfajpmlleaaGreat.R

namespace Go.Proofs.YtcfomfajpmlleaaGreat.R
open Go Sy
set_option linter.unusedVariables false
noncomputable def gS (g : Value → Option Value) (p : Prt) : Value → Option Value := updG g (kyP p.w p.r p.k) (.int .i64 p.v)
noncomputable def gP (ps : List Prt) : Value → Option Value := ps.foldl gS (fun _ => none)
theorem gP_snoc (ps : List Prt) (p : Prt) : gP (ps ++ [p]) = updG (gP ps) (kyP p.w p.r p.k) (.int .i64 p.v) := by
  unfold gP; rw [List.foldl_append]; rfl
theorem kyP_inj {w r k w' r' k' : Int} (h : kyP w r k = kyP w' r' k') : w = w' ∧ r = r' ∧ k = k' := by
  unfold kyP at h
  simpa using h
theorem prB_iff {w r k : Int} {p : Prt} : prB w r k p = true ↔ kyP w r k = kyP p.w p.r p.k := by
  unfold prB
  rw [Bool.and_eq_true, Bool.and_eq_true, beq_iff_eq, beq_iff_eq, beq_iff_eq]
  constructor
  · rintro ⟨⟨rfl, rfl⟩, rfl⟩; rfl
  · intro h
    obtain ⟨rfl, rfl, rfl⟩ := kyP_inj h
    exact ⟨⟨rfl, rfl⟩, rfl⟩
theorem gP_take_some {ps : List Prt} {w r k : Int} : ∀ i, i ≤ ps.length → (gP (ps.take i) (kyP w r k)).isSome = (List.range i).any fun j => prB w r k (ps.getD j dP)
  | 0, _ => by simp [gP]
  | i + 1, h => by
    rw [take_snocP (by omega), gP_snoc, List.range_succ, List.any_append, ← gP_take_some i (by omega), List.any_cons, List.any_nil, Bool.or_false]
    generalize ps.getD i dP = x
    unfold updG
    by_cases q : kyP w r k = kyP x.w x.r x.k
    · rw [if_pos q, prB_iff.2 q, Bool.or_true]; rfl
    · rw [if_neg q]
      have : prB w r k x = false := by rw [← Bool.not_eq_true, prB_iff]; exact q
      rw [this, Bool.or_false]
theorem gP_dup {ps : List Prt} {i : Nat} (h : i < ps.length) : (gP (ps.take i) (kyP (ps.getD i dP).w (ps.getD i dP).r (ps.getD i dP).k)).isSome = dupB ps i := gP_take_some i (by omega)
theorem partV_find (w r k : Int) : ∀ ps : List Prt, partV w r k ps = ((ps.find? (prB w r k)).map fun p => p.v).getD 0
  | [] => rfl
  | p :: ps => by
    simp only [partV, List.find?_cons]
    cases prB w r k p
    · simp only [Bool.false_eq_true, if_false]; exact partV_find w r k ps
    · rfl
theorem gP_find {ps : List Prt} (hd : ∀ i, i < ps.length → dupB ps i = false) (w r k : Int) : ∀ i, i ≤ ps.length → gP (ps.take i) (kyP w r k) = ((ps.take i).find? (prB w r k)).map fun p => Value.int .i64 p.v
  | 0, _ => by simp [gP]
  | i + 1, h => by
    have ih := gP_find hd w r k i (by omega)
    have h1 := gP_dup (ps := ps) (i := i) (by omega)
    rw [hd i (by omega)] at h1
    rw [take_snocP (by omega), gP_snoc, List.find?_append]
    generalize ps.getD i dP = x at *
    unfold updG
    by_cases q : kyP w r k = kyP x.w x.r x.k
    · rw [if_pos q]
      rw [← q, ih] at h1
      have h2 : (ps.take i).find? (prB w r k) = none := by
        cases hf : (ps.take i).find? (prB w r k) with
        | none => rfl
        | some x => rw [hf] at h1; cases h1
      rw [h2, List.find?_cons, prB_iff.2 q]
      rfl
    · rw [if_neg q, ih]
      have : prB w r k x = false := by rw [← Bool.not_eq_true, prB_iff]; exact q
      rw [List.find?_cons, this, List.find?_nil, Option.or_none]
theorem gP_hol {ps : List Prt} (hd : ∀ i, i < ps.length → dupB ps i = false) : Hol (gP ps) (fun w r k => partV w r k ps) := fun w r k => by
  have h := gP_find hd w r k ps.length (Nat.le_refl _)
  rw [List.take_length] at h
  unfold valG
  show _ = Value.int .i64 (partV w r k ps)
  rw [h, partV_find]
  cases ps.find? (prB w r k) <;> rfl
theorem partV_le {w r k M : Int} (hM : 0 ≤ M) : ∀ {ps : List Prt}, (∀ p ∈ ps, p.v ≤ M) → partV w r k ps ≤ M
  | [], _ => hM
  | p :: ps, h => by
    simp only [partV]
    split
    · exact h p List.mem_cons_self
    · exact partV_le hM fun q hq => h q (List.mem_cons_of_mem _ hq)
theorem lw_min {m : Mp} {f : Nat → Int} {ps : List Prt} {road k : Nat} (h : ∀ p ∈ ps, p.v ≤ 1073741824) : ∀ n, ((lwF (fun w => hpsB m f w road k) (fun w => partV w road k ps) n).2.2 = true → (lwF (fun w => hpsB m f w road k) (fun w => partV w road k ps) n).2.1 = minP m f ps road k n) ∧ ((lwF (fun w => hpsB m f w road k) (fun w => partV w road k ps) n).2.2 = false → minP m f ps road k n = 1125899906842624 ∧ ∀ w, w < n → hpsB m f w road k = false)
  | 0 => ⟨fun q => (by cases q), fun _ => ⟨rfl, fun w hw => (by omega)⟩⟩
  | n + 1 => by
    obtain ⟨h1, h2⟩ := lw_min (m := m) (f := f) (road := road) (k := k) h n
    have hv := partV_le (w := n) (r := road) (k := k) (M := 1073741824) (by omega) h
    rw [lwF_succ, minP_succ]
    generalize lwF (fun w => hpsB m f w road k) (fun w => partV w road k ps) n = A at *
    obtain ⟨a1, a2, a3⟩ := A
    dsimp only at h1 h2
    have yes : (hpsB m f n road k && (!a3 || decide (partV n road k ps < a2))) = true → lwS (fun w => hpsB m f w road k) (fun w => partV w road k ps) (a1, a2, a3) n = ((n : Int), partV n road k ps, true) := fun q => if_pos q
    have no : ¬ (hpsB m f n road k && (!a3 || decide (partV n road k ps < a2))) = true → lwS (fun w => hpsB m f w road k) (fun w => partV w road k ps) (a1, a2, a3) n = (a1, a2, a3) := fun q => if_neg q
    unfold minS
    by_cases q : hpsB m f n road k = true
    · rw [if_pos q]
      cases a3
      · obtain ⟨h3, h4⟩ := h2 rfl
        rw [yes (by rw [q]; rfl), h3]
        exact ⟨fun _ => by dsimp only; omega, fun z => by cases z⟩
      · have h3 := h1 rfl
        by_cases q2 : partV n road k ps < a2
        · rw [yes (by rw [q, decide_eq_true q2]; rfl)]
          exact ⟨fun _ => by dsimp only; omega, fun z => by cases z⟩
        · rw [no (by rw [q, decide_eq_false q2]; simp)]
          exact ⟨fun _ => by dsimp only; omega, fun z => by cases z⟩
    · rw [if_neg q]
      rw [Bool.not_eq_true] at q
      rw [no (by rw [q]; simp)]
      refine ⟨h1, fun z => ?_⟩
      obtain ⟨h3, h4⟩ := h2 z
      refine ⟨h3, fun w hw => ?_⟩
      rcases Nat.lt_or_ge w n with g | g
      · exact h4 w g
      · rw [show w = n by omega]; exact q
theorem lds_help {m : Mp} {f : Nat → Int} {road k : Nat} (hk : k < 6) (h : ldsB m f road k = true) : ∃ w, w < m.ws.length ∧ hpsB m f w road k = true := by
  unfold ldsB at h
  rw [Bool.and_eq_true, decide_eq_true_eq] at h
  obtain ⟨h1, h2⟩ := h
  have h3 := usN_iff.1 h1 k hk
  apply Classical.byContradiction
  intro hno
  have h4 : limL m (evL m.ws.length) road k ≤ f k - 1 := limL_iff.2 ⟨by omega, fun x hx hq => by
    have hx := ev_mem.1 hx
    apply Classical.byContradiction
    intro hl
    refine hno ⟨x.toNat, by omega, ?_⟩
    unfold hpsB
    rw [Bool.and_eq_true, Bool.and_eq_true, beq_iff_eq, decide_eq_true_eq, decide_eq_true_eq]
    exact ⟨hq, by omega⟩⟩
  omega
theorem rdS_eq {m : Mp} {f : Nat → Int} {ps : List Prt} {road : Nat} (h : ∀ p ∈ ps, p.v ≤ 1073741824) : ∀ n, n ≤ 6 → rdS m f (fun w r k => partV w r k ps) road n = redS m f ps road n
  | 0, _ => rfl
  | n + 1, hn => by
    rw [rdS_succ, redS_succ, rdS_eq h n (by omega)]
    unfold rdK2 redK
    by_cases q : ldsB m f road n = true
    · rw [if_pos q, if_pos q]
      obtain ⟨w, hw, hq⟩ := lds_help (by omega) q
      obtain ⟨h1, h2⟩ := lw_min (m := m) (f := f) (road := road) (k := n) h m.ws.length
      unfold lwC
      cases hc : (lwF (fun w => hpsB m f w road n) (fun w => partV w road n ps) m.ws.length).2.2
      · have := (h2 hc).2 w hw
        rw [this] at hq; cases hq
      · rw [h1 hc]
    · rw [if_neg q, if_neg q]
theorem spW_mono {w : Nat} : ∀ {ps : List Prt}, (∀ p ∈ ps, 0 ≤ p.v) → ∀ a : Int, a ≤ ps.foldl (spS w) a
  | [], _, a => Int.le_refl _
  | p :: ps, h, a => by
    have h1 := spW_mono (w := w) (fun q hq => h q (List.mem_cons_of_mem _ hq)) (spS w a p)
    have h2 := h p List.mem_cons_self
    rw [List.foldl_cons]
    have : a ≤ spS w a p := by unfold spS; split <;> omega
    omega
theorem rgt_all {m : Mp} {f : Nat → Int} {ps : List Prt} {hs : List Int} (h : rgtB m f ps hs = true) : ∀ i, i < ps.length → okP m f ps i = true := fun i hi => by
  cases hq : okP m f ps i
  · rw [rgt_no1 hi hq] at h; cases h
  · rfl
theorem okP_ok {m : Mp} {f : Nat → Int} {ps : List Prt} {i : Nat} (h : okP m f ps i = true) : PrtOK m f (ps.getD i dP) := by
  unfold okP at h
  rw [Bool.and_eq_true] at h
  exact prtB_iff.1 h.1
theorem rgt_sum {m : Mp} {f : Nat → Int} {ps : List Prt} {hs : List Int} {i w : Nat} (hi : i ≤ ps.length) (hw : w < m.ws.length) (h : (gw m w).c < spW (ps.take i) w) : rgtB m f ps hs = false := by
  cases hq : rgtB m f ps hs
  · rfl
  · exfalso
    have h1 := rgt_all hq
    have h2 : (gw m w).c < spW ps w := by
      have e : spW ps w = (ps.drop i).foldl (spS w) (spW (ps.take i) w) := by
        unfold spW
        rw [← List.foldl_append, List.take_append_drop]
      have h3 := spW_mono (w := w) (ps := ps.drop i) (fun p hp => by
        obtain ⟨j, hj, rfl⟩ := List.mem_iff_getElem.1 (List.mem_of_mem_drop hp)
        have := (okP_ok (h1 j hj)).v
        have e : ps.getD j dP = ps[j] := by simp [List.getD, hj]
        rw [e] at this
        exact this.1) (spW (ps.take i) w)
      omega
    rw [rgt_no2 hw h2] at hq
    cases hq
end Go.Proofs.YtcfomfajpmlleaaGreat.R

namespace Go.Proofs.YtcfomfajpmlleaaGreat.R
open Go Sy
set_option linter.unusedVariables false
end Go.Proofs.YtcfomfajpmlleaaGreat.R

namespace Go.Proofs.YtcfomfajpmlleaaGreat.R
open Go Sy
set_option maxRecDepth 100000
set_option maxHeartbeats 4000000
set_option linter.unusedVariables false
set_option linter.unusedSimpArgs false
end Go.Proofs.YtcfomfajpmlleaaGreat.R

namespace Go.Proofs.YtcfomfajpmlleaaGreat.R
open Go Sy
set_option maxRecDepth 100000
set_option maxHeartbeats 4000000
set_option linter.unusedVariables false
set_option linter.unusedSimpArgs false
end Go.Proofs.YtcfomfajpmlleaaGreat.R

namespace Go.Proofs.YtcfomfajpmlleaaGreat.R
open Go Sy
set_option maxRecDepth 100000
set_option maxHeartbeats 4000000
set_option linter.unusedVariables false
set_option linter.unusedSimpArgs false
end Go.Proofs.YtcfomfajpmlleaaGreat.R

namespace Go.Proofs.YtcfomfajpmlleaaGreat.R
open Go Sy
set_option maxRecDepth 100000
set_option maxHeartbeats 4000000
set_option linter.unusedVariables false
set_option linter.unusedSimpArgs false
end Go.Proofs.YtcfomfajpmlleaaGreat.R

namespace Go.Proofs.YtcfomfajpmlleaaGreat.R
open Go Sy
set_option maxRecDepth 100000
set_option maxHeartbeats 4000000
set_option linter.unusedVariables false
set_option linter.unusedSimpArgs false
def hl1 (m : Mp) (f : Nat → Int) (w r k : Nat) : List Ld := if (ldsB m f r k && hpsB m f w r k) = true then [⟨r, k⟩] else []
def hlR (m : Mp) (f : Nat → Int) (w r n : Nat) : List Ld := (List.range n).flatMap (hl1 m f w r)
def hlW (m : Mp) (f : Nat → Int) (w n : Nat) : List Ld := (List.range n).flatMap fun r => hlR m f w r 6
theorem hlR_succ (m : Mp) (f : Nat → Int) (w r n : Nat) : hlR m f w r (n + 1) = hlR m f w r n ++ hl1 m f w r n := by
  unfold hlR; rw [List.range_succ, List.flatMap_append]; simp
theorem hlW_succ (m : Mp) (f : Nat → Int) (w n : Nat) : hlW m f w (n + 1) = hlW m f w n ++ hlR m f w n 6 := by
  unfold hlW; rw [List.range_succ, List.flatMap_append]; simp
theorem hlR_len (m : Mp) (f : Nat → Int) (w r : Nat) : ∀ n, (hlR m f w r n).length ≤ n
  | 0 => by simp [hlR]
  | n + 1 => by
    rw [hlR_succ, List.length_append]
    have := hlR_len m f w r n
    have : (hl1 m f w r n).length ≤ 1 := by unfold hl1; split <;> simp
    omega
theorem hlW_len (m : Mp) (f : Nat → Int) (w : Nat) : ∀ n, (hlW m f w n).length ≤ 6 * n
  | 0 => by simp [hlW]
  | n + 1 => by
    rw [hlW_succ, List.length_append]
    have := hlW_len m f w n
    have := hlR_len m f w n 6
    omega
def evP (w : Nat) (q : Int) (x : Ld) : Prt := ⟨w, x.r, x.k, q⟩
def evQ (m : Mp) (f : Nat → Int) (w : Nat) : Int := (gw m w).c / (hlW m f w m.rs.length).length
def evW (m : Mp) (f : Nat → Int) (w : Nat) : List Prt := (hlW m f w m.rs.length).map (evP w (evQ m f w))
def evA (m : Mp) (f : Nat → Int) (n : Nat) : List Prt := (List.range n).flatMap (evW m f)
theorem evA_succ (m : Mp) (f : Nat → Int) (n : Nat) : evA m f (n + 1) = evA m f n ++ evW m f n := by
  unfold evA; rw [List.range_succ, List.flatMap_append]; simp
theorem evA_len (m : Mp) (f : Nat → Int) : ∀ n, (evA m f n).length ≤ 6 * m.rs.length * n
  | 0 => by simp [evA]
  | n + 1 => by
    rw [evA_succ, List.length_append, Nat.mul_succ]
    have := evA_len m f n
    have h2 : (evW m f n).length ≤ 6 * m.rs.length := by unfold evW; rw [List.length_map]; exact hlW_len m f n _
    omega
def evS (w : Nat) (q : Int) (l : List Ld) (j : Nat) : List Prt := (l.take j).map (evP w q) ++ (l.drop j).map (evP w 0)
end Go.Proofs.YtcfomfajpmlleaaGreat.R

namespace Go.Proofs.YtcfomfajpmlleaaGreat.R
open Go Sy
set_option maxRecDepth 100000
set_option maxHeartbeats 4000000
set_option linter.unusedVariables false
set_option linter.unusedSimpArgs false
def rdC (m : Mp) (f : Nat → Int) (i : Nat) : Int := if usB m f (evL m.ws.length) i = true then redS m f (evA m f m.ws.length) i 6 else -1
def bnD (m : Mp) (f : Nat → Int) (fr : Int) : List Int := dstC m false (rdC m f) fr
def mnL (l : List Int) (x : Int) (i : Nat) : List Int := (l.take i).map (min · x) ++ l.drop i
theorem mnL_len (l : List Int) (x : Int) (i : Nat) : (mnL l x i).length = l.length := by
  unfold mnL
  rw [List.length_append, List.length_map, ← List.length_append, List.take_append_drop]
theorem mnL_at {l : List Int} {x : Int} {i : Nat} (h : i < l.length) : (mnL l x i).getD i 0 = l.getD i 0 := by
  unfold mnL
  rw [List.drop_eq_getElem_cons h]
  simp [List.getD, List.getElem?_append, h, Nat.min_eq_left (Nat.le_of_lt h)]
theorem mnL_set {l : List Int} {x : Int} {i : Nat} (h : i < l.length) : (mnL l x i).set i (min (l.getD i 0) x) = mnL l x (i + 1) := by
  have hg : l.getD i 0 = l[i] := by simp [List.getD, h]
  have ht : ((l.take i).map (min · x)).length = i := by rw [List.length_map, List.length_take]; omega
  unfold mnL
  rw [List.set_append_right _ _ (by omega), ht, Nat.sub_self, List.drop_eq_getElem_cons h, List.set_cons_zero, List.take_succ_eq_append_getElem h, List.map_append, hg]
  simp
def bnH (m : Mp) (f : Nat → Int) (fr to : Int) : List Int := mnL (bnD m f fr) (gi (bnD m f fr) to.toNat) m.n.toNat
def bnV (m : Mp) (f : Nat → Int) (fr to : Int) : List AV := if chE m f fr to = 0 then cBd (evA m f m.ws.length) (bnH m f fr to) else [.v (.slice none 0 0), .v (.slice none 0 0)]
theorem evA_v {m : Mp} {f : Nat → Int} (h : OkM m) : ∀ p ∈ evA m f m.ws.length, 0 ≤ p.v := fun p hp => by
  obtain ⟨w, hw, hpw⟩ := List.mem_flatMap.1 hp
  have hw := List.mem_range.1 hw
  obtain ⟨x, _, rfl⟩ := List.mem_map.1 hpw
  have := (workB_ok (h.w w hw)).c
  exact Int.ediv_nonneg (by show 0 ≤ (gw m w).c; omega) (by omega)
end Go.Proofs.YtcfomfajpmlleaaGreat.R

namespace Go.Proofs.YtcfomfajpmlleaaGreat.R
open Go Sy
set_option linter.unusedVariables false
structure EvP (m : Mp) (f : Nat → Int) (n : Nat) (p : Prt) (w r k : Nat) : Prop where
  lw : w < n
  lr : r < m.rs.length
  lk : k < 6
  l : ldsB m f r k = true
  h : hpsB m f w r k = true
  e : p = ⟨w, r, k, evQ m f w⟩
theorem hl1_mem {m : Mp} {f : Nat → Int} {w r k : Nat} {x : Ld} (h : x ∈ hl1 m f w r k) : x = ⟨r, k⟩ ∧ ldsB m f r k = true ∧ hpsB m f w r k = true := by
  unfold hl1 at h
  by_cases q : (ldsB m f r k && hpsB m f w r k) = true
  · rw [if_pos q, List.mem_singleton] at h
    rw [Bool.and_eq_true] at q
    exact ⟨h, q⟩
  · rw [if_neg q] at h; cases h
theorem hlR_mem {m : Mp} {f : Nat → Int} {w r n : Nat} {x : Ld} (h : x ∈ hlR m f w r n) : ∃ k : Nat, k < n ∧ x = ⟨r, k⟩ ∧ ldsB m f r k = true ∧ hpsB m f w r k = true := by
  obtain ⟨k, hk, hx⟩ := List.mem_flatMap.1 h
  exact ⟨k, List.mem_range.1 hk, hl1_mem hx⟩
theorem hlW_mem {m : Mp} {f : Nat → Int} {w n : Nat} {x : Ld} (h : x ∈ hlW m f w n) : ∃ r k : Nat, r < n ∧ k < 6 ∧ x = ⟨r, k⟩ ∧ ldsB m f r k = true ∧ hpsB m f w r k = true := by
  obtain ⟨r, hr, hx⟩ := List.mem_flatMap.1 h
  obtain ⟨k, hk, hx⟩ := hlR_mem hx
  exact ⟨r, k, List.mem_range.1 hr, hk, hx⟩
theorem evA_mem {m : Mp} {f : Nat → Int} {n : Nat} {p : Prt} (h : p ∈ evA m f n) : ∃ w r k, EvP m f n p w r k := by
  obtain ⟨w, hw, hp⟩ := List.mem_flatMap.1 h
  obtain ⟨x, hx, rfl⟩ := List.mem_map.1 hp
  obtain ⟨r, k, h1, h2, rfl, h3, h4⟩ := hlW_mem hx
  exact ⟨w, r, k, List.mem_range.1 hw, h1, h2, h3, h4, rfl⟩
theorem rng_pair {n : Nat} {R : Nat → Nat → Prop} (h : ∀ a b, a < b → R a b) : (List.range n).Pairwise R := by
  rw [List.pairwise_iff_getElem]
  intro i j hi hj hij
  rw [List.getElem_range, List.getElem_range]
  exact h i j hij
theorem hlW_pair (m : Mp) (f : Nat → Int) (w n : Nat) : (hlW m f w n).Pairwise fun x y => ¬ (x.r = y.r ∧ x.k = y.k) := by
  unfold hlW
  rw [List.pairwise_flatMap]
  refine ⟨fun r _ => ?_, rng_pair fun a b hab x hx y hy => ?_⟩
  · unfold hlR
    rw [List.pairwise_flatMap]
    refine ⟨fun k _ => ?_, rng_pair fun a b hab x hx y hy => ?_⟩
    · unfold hl1; split
      · exact List.pairwise_singleton _ _
      · exact List.Pairwise.nil
    · obtain ⟨rfl, _⟩ := hl1_mem hx
      obtain ⟨rfl, _⟩ := hl1_mem hy
      rintro ⟨_, h⟩
      have h : (a : Int) = b := h
      omega
  · obtain ⟨_, _, rfl, _⟩ := hlR_mem hx
    obtain ⟨_, _, rfl, _⟩ := hlR_mem hy
    rintro ⟨h, _⟩
    have h : (a : Int) = b := h
    omega
theorem evA_pair (m : Mp) (f : Nat → Int) (n : Nat) : (evA m f n).Pairwise fun x y => prB y.w y.r y.k x = false := by
  unfold evA
  rw [List.pairwise_flatMap]
  refine ⟨fun w _ => ?_, rng_pair fun a b hab x hx y hy => ?_⟩
  · unfold evW
    rw [List.pairwise_map]
    refine (hlW_pair m f w _).imp fun {x y} h => ?_
    rw [← Bool.not_eq_true]
    intro q
    unfold prB at q
    rw [Bool.and_eq_true, Bool.and_eq_true, beq_iff_eq, beq_iff_eq, beq_iff_eq] at q
    exact h ⟨q.1.2, q.2⟩
  · obtain ⟨x, _, rfl⟩ := List.mem_map.1 hx
    obtain ⟨y, _, rfl⟩ := List.mem_map.1 hy
    rw [← Bool.not_eq_true]
    intro q
    unfold prB at q
    rw [Bool.and_eq_true, Bool.and_eq_true, beq_iff_eq] at q
    have h : (a : Int) = b := q.1.1
    omega
theorem evA_dup (m : Mp) (f : Nat → Int) (n : Nat) : ∀ i, i < (evA m f n).length → dupB (evA m f n) i = false := fun i hi => by
  unfold dupB
  rw [← Bool.not_eq_true, List.any_eq_true]
  rintro ⟨j, hj, hp⟩
  have hj := List.mem_range.1 hj
  have h := List.pairwise_iff_getElem.1 (evA_pair m f n) j i (by omega) hi hj
  have e1 : (evA m f n).getD i dP = (evA m f n)[i] := by simp [List.getD, hi]
  have e2 : (evA m f n).getD j dP = (evA m f n)[j]'(by omega) := by simp [List.getD, show j < (evA m f n).length by omega]
  rw [e1, e2, h] at hp
  cases hp
theorem evQ_rng {m : Mp} (h : OkM m) (f : Nat → Int) {w : Nat} (hw : w < m.ws.length) : 0 ≤ evQ m f w ∧ evQ m f w ≤ (gw m w).c := by
  have := (workB_ok (h.w w hw)).c
  unfold evQ
  exact ⟨Int.ediv_nonneg (by omega) (by omega), Int.ediv_le_self _ (by omega)⟩
theorem evA_le {m : Mp} (h : OkM m) (f : Nat → Int) : ∀ p ∈ evA m f m.ws.length, 0 ≤ p.v ∧ p.v ≤ 1073741824 := fun p hp => by
  obtain ⟨w, r, k, e⟩ := evA_mem hp
  have h1 := evQ_rng h f e.lw
  have := (workB_ok (h.w w e.lw)).c
  rw [e.e]
  exact ⟨h1.1, by show evQ m f w ≤ _; omega⟩
theorem rdS_small {m : Mp} {f : Nat → Int} {V : Nat → Nat → Nat → Int} {road : Nat} (hok : OkM m) (hr : road < m.rs.length) (h : ∀ w r k, 0 ≤ V w r k ∧ V w r k ≤ 1073741824) : ∀ n : Nat, 1 ≤ rdS m f V road n ∧ rdS m f V road n ≤ 1073741824 + n * 1073741824
  | 0 => by
    have := (roadB_ok (hok.r road hr)).c
    show 1 ≤ (gr m road).c ∧ (gr m road).c ≤ _
    omega
  | n + 1 => by
    have h1 := rdS_small (f := f) hok hr h n
    have h2 : 0 ≤ (lwC m f V road n).2.1 ∧ (lwC m f V road n).2.1 ≤ 1073741824 := lwF_rng (by omega) (fun i => h i road n) _
    rw [rdS_succ]
    unfold rdK2
    split <;> omega
theorem partV_nn {w r k : Int} : ∀ {ps : List Prt}, (∀ p ∈ ps, 0 ≤ p.v) → 0 ≤ partV w r k ps
  | [], _ => Int.le_refl _
  | p :: ps, h => by
    simp only [partV]
    split
    · exact h p List.mem_cons_self
    · exact partV_nn fun q hq => h q (List.mem_cons_of_mem _ hq)
theorem redS_small {m : Mp} (hok : OkM m) {f : Nat → Int} {ps : List Prt} (hp : ∀ p ∈ ps, 0 ≤ p.v ∧ p.v ≤ 1073741824) {road : Nat} (hr : road < m.rs.length) : 1 ≤ redS m f ps road 6 ∧ redS m f ps road 6 ≤ 7516192768 := by
  have := rdS_small (f := f) (V := fun w r k => partV w r k ps) hok hr (fun w r k => ⟨partV_nn fun p h => (hp p h).1, partV_le (by omega) fun p h => (hp p h).2⟩) 6
  rw [rdS_eq (fun p h => (hp p h).2) 6 (Nat.le_refl _)] at this
  omega
theorem rdC_rng {m : Mp} (hok : OkM m) (f : Nat → Int) {i : Nat} (hi : i < m.rs.length) : (0 ≤ rdC m f i → 1 ≤ rdC m f i) ∧ -1099511627776 ≤ rdC m f i ∧ rdC m f i ≤ 1099511627776 := by
  have := redS_small (f := f) hok (evA_le hok f) hi
  unfold rdC
  split <;> omega
theorem fn130e (m : Mp) (f : Nat → Int) (hok : OkM m) (i : Nat) (hi : i < m.rs.length) : Sy.Fn Tryz.prog 82 ([] ++ [iv (i : Nat)] ++ [.fp (cAt m f) 0, .fp [.fm 3 (gP (evA m f m.ws.length))] 0]) (iv (rdC m f i)) := by
  have h1 := fn82 m f (gP (evA m f m.ws.length)) (fun w r k => partV w r k (evA m f m.ws.length)) (gP_hol (evA_dup m f _)) (fun w r k => ⟨partV_nn fun p h => (evA_le hok f p h).1, Int.le_trans (partV_le (M := 1073741824) (by omega) fun p h => (evA_le hok f p h).2) (by omega)⟩) i hok hi
  rw [rdS_eq (fun p h => (evA_le hok f p h).2) 6 (Nat.le_refl _)] at h1
  exact h1
end Go.Proofs.YtcfomfajpmlleaaGreat.R

namespace Go.Proofs.YtcfomfajpmlleaaGreat.R
open Go Sy
set_option maxRecDepth 100000
set_option maxHeartbeats 8000000
set_option linter.unusedVariables false
set_option linter.unusedSimpArgs false
theorem fn11 (m : Mp) (f : Nat → Int) (fr to : Int) (hm : Gm m) : Sy.Fn Tryz.prog 11 [aM m, .agg (c6 f), iv fr, iv to] (.tup [.agg (bnV m f fr to), iv (chE m f fr to)]) := by
  refine Fn_of_W mixed Xt11 rfl ?_
  have c9 := fn9 m f fr to hm
  have hz : chE m f fr to = 0 → ∃ p, chV m f fr to = some p ∧ opE m f = 0 ∧ plB m.n fr = true ∧ plB m.n to = true := fun q => by
    unfold chE at q
    by_cases h0 : opE m f = 0
    · rw [if_pos h0] at q
      by_cases hp : plB m.n fr = true ∧ plB m.n to = true
      · rw [if_pos hp] at q
        have e1 : chV m f fr to = bestS m f fr to := by unfold chV; rw [if_pos h0, if_pos hp]
        rcases hb : bestS m f fr to with _ | p
        · rw [hb] at q; cases q
        · exact ⟨p, by rw [e1, hb], h0, hp.1, hp.2⟩
      · rw [if_neg hp] at q; cases q
    · rw [if_neg h0] at q; exact absurd q h0
  by_cases hE : chE m f fr to = 0
  rotate_left
  · have e1 : bnV m f fr to = [.v (.slice none 0 0), .v (.slice none 0 0)] := by unfold bnV; rw [if_neg hE]
    rw [e1]
    rcases hv : chV m f fr to with _ | ⟨s, n⟩
    · rw [hv] at c9
      have c9 : Sy.Fn Tryz.prog 9 [aM m, .agg (c6 f), iv fr, iv to] (.tup [.agg zRt, iv (chE m f fr to)]) := c9
      unfold zRt at c9
      generalize chE m f fr to = e at *
      (refine go_c c9 ?_; try exact True.intro)
      refine W_cond (by rfl) (fun h => ?_) (fun h => ?_)
      · (refine go0 ?_; try exact True.intro)
        exact W_ret ⟨[_, _], ⟨⟨by simp, rfl⟩, rfl, rfl⟩, rfl⟩
      · exact absurd (by simpa using h) hE
    · exfalso
      unfold chV at hv
      unfold chE at hE
      by_cases h0 : opE m f = 0
      · rw [if_pos h0] at hv hE
        by_cases hp : plB m.n fr = true ∧ plB m.n to = true
        · rw [if_pos hp] at hv hE
          rw [hv] at hE
          exact hE rfl
        · rw [if_neg hp] at hv; cases hv
      · rw [if_neg h0] at hv; cases hv
  obtain ⟨⟨s, n⟩, hv, h0, hp1, hp2⟩ := hz hE
  have e1 : bnV m f fr to = cBd (evA m f m.ws.length) (bnH m f fr to) := by unfold bnV; rw [if_pos hE]
  rw [e1, hE]
  rw [hv, hE] at c9
  have c9 : Sy.Fn Tryz.prog 9 [aM m, .agg (c6 f), iv fr, iv to] (.tup [.agg (cRt (wayS m f fr to s) s n (minL m (wayS m f fr to s))), iv 0]) := c9
  unfold cRt at c9
  have hchk : chkM m = 0 ∧ szE f = 0 := by
    unfold opE at h0
    by_cases q : chkM m = 0
    · rw [if_pos q] at h0; exact ⟨q, h0⟩
    · rw [if_neg q] at h0; exact absurd h0 q
  have hok := chkM_ok hchk.1
  have hmn := hok.n
  have hnw := hok.nw
  have hnr := hok.nr
  have hpr : (0 ≤ fr ∧ fr < m.n) ∧ (0 ≤ to ∧ to < m.n) := by
    unfold plB at hp1 hp2
    simp only [Bool.and_eq_true, decide_eq_true_eq] at hp1 hp2
    omega
  have hv0 := evA_v (f := f) hok
  have hPl := Nat.le_trans (evA_len m f m.ws.length) (Nat.mul_le_mul (Nat.mul_le_mul (Nat.le_refl 6) hnr) hnw)
  unfold cBd
  generalize wayS m f fr to s = WS at *
  (refine go_c c9 ?_; try exact True.intro)
  refine W_cond (by rfl) (fun h => by cases h) (fun _ => ?_)
  refine W_skip ?_
  try (refine sy1 ?_; try exact True.intro)
  repeat (first | refine WK_go ?_ | refine W_seqL ?_ | refine W_seq ?_ | refine W_block ?_)
  refine W_regL ?_
  (refine sy1 ?_; try exact True.intro)
  refine ⟨rfl, ?_⟩
  have hbl : List.take 3 (cM m ++ [.v (.int .i64 0), .v (.int .i64 0), .v (.int .i64 0), .v (.int .i64 0), .v (.int .i64 0), .v (.int .i64 0)]) ++ c6 f ++ List.drop 9 (cM m ++ [.v (.int .i64 0), .v (.int .i64 0), .v (.int .i64 0), .v (.int .i64 0), .v (.int .i64 0), .v (.int .i64 0)]) = cAt m f := rfl
  rw [hbl]
  repeat (first | refine WK_go ?_ | refine W_seqL ?_ | refine W_seq ?_ | refine W_block ?_)
  refine W_regL ?_
  (refine sy1 ?_; try exact True.intro)
  repeat (first | refine WK_go ?_ | refine W_seqL ?_ | refine W_seq ?_ | refine W_block ?_)
  refine W_regX [0] ?_
  (refine sCS ?_; try exact True.intro)
  refine ⟨[], rfl, rfl, fun b => ?_⟩
  try (refine sy1 ?_; try exact True.intro)
  (refine go0 ?_; try exact True.intro)
  refine W_le (le_adoptC 23 0 126 4 dP cP (by omega) _ rfl rfl (by simp)) ?_
  (refine sy1 ?_; try exact True.intro)
  refine W_loopU (fun w : Nat => [(45, iv w)]) (fun w => [(23, .cells [.row 31 (evA m f w).length, .v (.slice none 0 0)]), (31, .row (evA m f w).length 126 4 dP cP (evA m f w)), (25, .oth (.mp b 3 (gP (evA m f w))))]) (fun w => w ≤ m.ws.length) (fun w => m.ws.length - w) 0 (by omega) (by rfl) (by rfl) (fun w hwl => ?_)
  have hel := evA_len m f w
  have hes := evA_succ m f w
  have hel2 : (evA m f w).length ≤ 1536 * 10 := Nat.le_trans hel (Nat.mul_le_mul (by omega) (by omega))
  (refine sy1 ?_; try exact True.intro)
  (refine go0 ?_; try exact True.intro)
  refine W_condD (by rfl) (fun h5 => ?_) (fun h5 => ?_)
  · have hw : w < m.ws.length := by omega
    generalize evA m f w = A at *
    (refine go0 ?_; try exact True.intro)
    refine W_le (le_adoptC 36 0 123 2 dLd cLd (by omega) _ rfl rfl (by simp)) ?_
    (refine sy1 ?_; try exact True.intro)
    refine W_loopU (fun r : Nat => [(51, iv r)]) (fun r => [(36, .cells [.row 41 (hlW m f w r).length]), (41, .row (hlW m f w r).length 123 2 dLd cLd (hlW m f w r))]) (fun r => r ≤ m.rs.length) (fun r => m.rs.length - r) 0 (by omega) (by rfl) (by rfl) (fun r hrl => ?_)
    have hll := hlW_len m f w r
    have hls := hlW_succ m f w r
    (refine sy1 ?_; try exact True.intro)
    (refine go0 ?_; try exact True.intro)
    refine W_condD (by rfl) (fun h6 => ?_) (fun h6 => ?_)
    · have hr : r < m.rs.length := by omega
      generalize hlW m f w r = Y at *
      have c45 := fn45 m f hnw
      have c36 := fn36 m f (evL m.ws.length) (msk (evL m.ws.length)) r hok (setW_msk (ev_srt _)) hr
      have hld : ∀ k, ldsB m f r k = (usB m f (evL m.ws.length) r && decide ((gr m r).lim k < f k)) := fun _ => rfl
      generalize usB m f (evL m.ws.length) r = U at *
      generalize msk (evL m.ws.length) = E at *
      (refine go_c (fn40 m f r) ?_; try exact True.intro)
      refine W_rfnT (.inl rfl) (fun lp R T hT hR => Inl_of_W mixed Xt80 rfl (fun vs => ?_))
      (refine sy1 ?_; try exact True.intro)
      
      (refine go_cc c45 c36 ?_; try exact True.intro)
      cases U
      · refine W_cond (by rfl) (fun _ => ?_) (fun h => by cases h)
        have e : hlR m f w r 6 = [] := by
          unfold hlR
          rw [List.flatMap_eq_nil_iff]
          intro k _
          unfold hl1
          rw [if_neg (by rw [hld]; simp)]
        rw [e, List.append_nil] at hls
        refine W_ret ?_
        refine ⟨_, _, rfl, rfl, ⟨_, _, rfl, by rw [hR.st]; simp, ?_⟩⟩
        rw [hR.pe, hT]
        (refine syN ?_; try exact True.intro)
        (refine go0 ?_; try exact True.intro)
        refine ⟨r + 1, by omega, by omega, by rfl, ?_⟩
        rw [hls]
        (refine syE ?_; try exact True.intro)
      · refine W_cond (by rfl) (fun h => by cases h) (fun _ => ?_)
        have hld2 : ∀ k, hl1 m f w r k = if (gr m r).lim k < f k ∧ hpsB m f w r k = true then [⟨r, k⟩] else [] := fun k => by
          unfold hl1
          rw [hld, Bool.true_and]
          congr 1
          rw [Bool.and_eq_true, decide_eq_true_eq]
        (refine go_c (fn52 m f 0 r) ?_; try exact True.intro)
        refine W_rfnT (.inl rfl) (fun lp2 R2 T2 hT2 hR2 => Inl_of_W mixed Xt88 rfl (fun vs2 => ?_))
        (refine sy1 ?_; try exact True.intro)
        (refine go0 ?_; try exact True.intro)
        refine W_loopU (fun k : Nat => [(10, iv k)]) (fun k => [(36, .cells [.row 41 (Y ++ hlR m f w r k).length]), (41, .row (Y ++ hlR m f w r k).length 123 2 dLd cLd (Y ++ hlR m f w r k))]) (fun k => k ≤ 6) (fun k => 6 - k) 0 (by omega) (by subst hT hT2; rfl) (by simp only [hlR, List.range_zero, List.flatMap_nil, List.append_nil]; rfl) (fun k hk => ?_)
        have hkl := hlR_len m f w r k
        have hks := hlR_succ m f w r k
        have hal : (Y ++ hlR m f w r k).length ≤ 10000 := by rw [List.length_append]; omega
        (refine sy1 ?_; try exact True.intro)
        (refine go0 ?_; try exact True.intro)
        refine W_condD (by rfl) (fun h7 => ?_) (fun h7 => ?_)
        · have hk6 : k < 6 := by omega
          have c89 := fn89 m f [] 0 r k hok (setW_msk (l := []) trivial) hr hk6
          have ec : limL m [] r k = (gr m r).lim k := rfl
          have e1 := hld2 k
          have c41 : Sy.Fn Tryz.prog 41 [aAt m f, iv w, .agg [iv r, iv k]] (bv (hpsB m f w r k)) := fn41 m f w r k hok hw hk6
          rw [ec] at c89
          have hys : Y ++ hlR m f w r (k + 1) = (Y ++ hlR m f w r k) ++ hl1 m f w r k := by rw [hks, List.append_assoc]
          generalize (gr m r).lim k = nl at *
          generalize Y ++ hlR m f w r k = Z at *
          by_cases q : nl < f k
          · have qb : decide (nl < f k) = true := decide_eq_true q
            (refine gofc (ad3 Nat.mul_one Nat.zero_add qb) c89 ?_; try exact True.intro)
            refine StopC.yld (fun hpc => ⟨trivial, Yl_of_WT (k := 60) mixed hR2 hT2 rfl rfl rfl (fun vs3 T3 hT3 => ?_)⟩) (fun hpc => absurd (by simp [Sy.pc]) hpc)
            (refine sy1 ?_; try exact True.intro)
            (refine go0 ?_; try exact True.intro)
            refine ⟨_, rfl, ?_⟩
            (refine sy1 ?_; try exact True.intro)
            (refine go0 ?_; try exact True.intro)
            refine StopC.yld (fun hpc2 => ⟨trivial, Yl_of_WT (k := 48) mixed hR hT rfl rfl rfl (fun vs4 T4 hT4 => ?_)⟩) (fun hpc2 => absurd (by simp [Sy.pc]) hpc2)
            (refine sy1 ?_; try exact True.intro)
            (refine go0 ?_; try exact True.intro)
            refine ⟨_, rfl, ?_⟩
            (refine sy1 ?_; try exact True.intro)
            cases hb : hpsB m f w r k
            · rw [hb] at c41 e1
              rw [if_neg (fun z => by cases z.2)] at e1
              rw [e1, List.append_nil] at hys
              (refine go_c c41 ?_; try exact True.intro)
              refine W_cond (by rfl) (fun h => by cases h) (fun _ => ?_)
              (refine go0 ?_; try exact True.intro)
              refine ⟨_, _, rfl, rfl, ?_⟩
              (refine sy1 ?_; try exact True.intro)
              (refine go0 ?_; try exact True.intro)
              refine W_cond (by rfl) (fun h => by cases h) (fun _ => ?_)
              (refine go0 ?_; try exact True.intro)
              refine ⟨_, _, rfl, rfl, ?_⟩
              rw [hT3]
              (refine sy1 ?_; try exact True.intro)
              (refine go0 ?_; try exact True.intro)
              refine W_cond (by rfl) (fun h => by cases h) (fun _ => ?_)
              (refine go0 ?_; try exact True.intro)
              refine ⟨k + 1, by omega, by omega, by subst hT hT2; rfl, ?_⟩
              rw [hys]
              (refine syE ?_; try exact True.intro)
            · rw [hb] at c41 e1
              rw [if_pos ⟨q, rfl⟩] at e1
              rw [e1] at hys
              (refine go_c c41 ?_; try exact True.intro)
              refine W_cond (by rfl) (fun _ => ?_) (fun h => by cases h)
              (refine go0 ?_; try exact True.intro)
              refine ⟨rfl, trivial, Ld, dLd, cLd, [⟨r, k⟩], rfl, by omega, fun x _ => ⟨rfl, rfl⟩, rfl, ?_⟩
              (refine sy1 ?_; try exact True.intro)
              refine ⟨rfl, ⟨Nat.le_of_ble_eq_true rfl, rfl⟩, trivial, [(⟨r, k⟩ : Ld)], rfl, by first | omega | (simp; omega), by first | omega | (simp; omega), ?_⟩
              (refine sy1 ?_; try exact True.intro)
              (refine go0 ?_; try exact True.intro)
              refine ⟨_, _, rfl, rfl, ?_⟩
              (refine sy1 ?_; try exact True.intro)
              (refine go0 ?_; try exact True.intro)
              refine W_cond (by rfl) (fun h => by cases h) (fun _ => ?_)
              (refine go0 ?_; try exact True.intro)
              refine ⟨_, _, rfl, rfl, ?_⟩
              rw [hT3]
              (refine sy1 ?_; try exact True.intro)
              (refine go0 ?_; try exact True.intro)
              refine W_cond (by rfl) (fun h => by cases h) (fun _ => ?_)
              (refine go0 ?_; try exact True.intro)
              refine ⟨k + 1, by omega, by omega, by subst hT hT2; rfl, ?_⟩
              rw [hys, List.length_append]
              (refine syE ?_; try exact True.intro)
          · rw [if_neg (fun z => q z.1)] at e1
            rw [e1, List.append_nil] at hys
            have qb : decide (nl < f k) = false := decide_eq_false q
            (refine gofc (ad3 Nat.mul_one Nat.zero_add qb) c89 ?_; try exact True.intro)
            refine StopC.yld (fun hpc => absurd hpc (by simp [Sy.pc])) (fun hpc => ?_)
            (refine sy1 ?_; try exact True.intro)
            (refine go0 ?_; try exact True.intro)
            refine W_cond (by rfl) (fun h => by cases h) (fun _ => ?_)
            (refine go0 ?_; try exact True.intro)
            refine ⟨k + 1, by omega, by omega, by subst hT hT2; rfl, ?_⟩
            rw [hys]
            (refine syE ?_; try exact True.intro)
        · have hk6 : k = 6 := by omega
          subst hk6
          rw [← hls]
          (refine go0 ?_; try exact True.intro)
          refine ⟨_, _, rfl, rfl, ⟨_, _, rfl, by rw [hR2.st]; simp, ?_⟩⟩
          rw [hR2.pe, hT2]
          (refine syN ?_; try exact True.intro)
          (refine go0 ?_; try exact True.intro)
          refine ⟨_, _, rfl, rfl, ⟨_, _, rfl, by rw [hR.st]; simp, ?_⟩⟩
          rw [hR.pe, hT]
          (refine syN ?_; try exact True.intro)
          (refine go0 ?_; try exact True.intro)
          refine ⟨r + 1, by omega, by omega, by rfl, ?_⟩
          (refine syE ?_; try exact True.intro)
    · have hrm : r = m.rs.length := by omega
      subst hrm
      have hew : evW m f w = (hlW m f w m.rs.length).map (evP w (evQ m f w)) := rfl
      have heq : evQ m f w = (gw m w).c / (hlW m f w m.rs.length).length := rfl
      have hcw := (workB_ok (hok.w w hw)).c
      have hgw : m.ws.getD w dW = gw m w := rfl
      generalize evQ m f w = q at *
      generalize hlW m f w m.rs.length = Y at *
      clear hls h6 hrl
      (refine go0 ?_; try exact True.intro)
      refine W_loopU (fun j : Nat => [(69, iv j)]) (fun j => [(23, .cells [.row 31 (A ++ (Y.take j).map (evP w q)).length, .v (.slice none 0 0)]), (31, .row (A ++ (Y.take j).map (evP w q)).length 126 4 dP cP (A ++ (Y.take j).map (evP w q))), (25, .oth (.mp b 3 (gP (A ++ (Y.take j).map (evP w q)))))]) (fun j => j ≤ Y.length) (fun j => Y.length - j) 0 (by omega) (by rfl) (by simp only [List.take_zero, List.map_nil, List.append_nil]; rfl) (fun j hj => ?_)
      have hAl : (A ++ (Y.take j).map (evP w q)).length ≤ 30000 := by rw [List.length_append, List.length_map, List.length_take]; omega
      (refine sy1 ?_; try exact True.intro)
      (refine go0 ?_; try exact True.intro)
      refine W_condD (by rfl) (fun h7 => ?_) (fun h7 => ?_)
      · have hlt : j < Y.length := by omega
        have hd : (gw m w).c.tdiv Y.length = q := by rw [heq, Int.tdiv_eq_ediv_of_nonneg (by omega)]
        have hq0 : 0 ≤ q := by rw [heq]; exact Int.ediv_nonneg (by omega) (by omega)
        have hq1 : q ≤ (gw m w).c := by rw [heq]; exact Int.ediv_le_self _ (by omega)
        have htk : A ++ (Y.take (j + 1)).map (evP w q) = (A ++ (Y.take j).map (evP w q)) ++ [evP w q (Y.getD j dLd)] := by
          rw [List.take_succ_eq_append_getElem hlt, List.map_append, ← List.append_assoc]
          simp [List.getD, hlt]
        have hgs := gP_snoc (A ++ (Y.take j).map (evP w q)) (evP w q (Y.getD j dLd))
        rw [← htk] at hgs
        have hgs : gP (A ++ (Y.take (j + 1)).map (evP w q)) = updG (gP (A ++ (Y.take j).map (evP w q))) (.agg #[.int .i64 w, .int .i64 (Y.getD j dLd).r, .int .i64 (Y.getD j dLd).k]) (.int .i64 q) := hgs
        obtain ⟨⟨xr, xk⟩, hX⟩ : ∃ X, Y.getD j dLd = X := ⟨_, rfl⟩
        rw [hX] at htk hgs
        generalize A ++ (Y.take j).map (evP w q) = Z at *
        clear heq
        repeat' (first | refine w1g ?_ | refine w1l ?_ | refine w1q ?_ | refine w1b ?_ | refine w1p ?_ | ((first | refine w1r ?_ | refine w1k ?_ | refine w1e ?_); simp (maxSteps := 400000) (disch := omega) only [push_cast, ↓reduceIte, reduceCtorEq, Nat.reduceAdd, Nat.reduceSub, Nat.reduceEqDiff, Nat.reduceLeDiff, Nat.reduceLT, Nat.reduceBEq, Nat.reduceDiv, Nat.reduceMod, Nat.reducePow, Nat.reduceMul, Int.reduceToNat, Int.reduceLT, Int.reduceLE, hgw, hd, hX, cLd]) | refine an2 ?_ | fail)
        refine ⟨rfl, trivial, Prt, dP, cP, [evP w q ⟨xr, xk⟩], rfl, by omega, fun x _ => ⟨rfl, rfl⟩, rfl, ?_⟩
        (refine sy1 ?_; try exact True.intro)
        refine ⟨rfl, ⟨Nat.le_of_ble_eq_true rfl, rfl⟩, trivial, [evP w q ⟨xr, xk⟩], rfl, by first | omega | (simp; omega), by first | omega | (simp; omega), ?_⟩
        (refine sy1 ?_; try exact True.intro)
        repeat (first | refine WK_go ?_ | refine W_seqL ?_ | refine W_seq ?_ | refine W_block ?_)
        refine W_regX [5] ?_
        (refine sCX ?_; try exact True.intro)
        refine SpM_mup 25 b _ (.agg #[.int .i64 w, .int .i64 xr, .int .i64 xk]) (.int .i64 q) (by simp [underAll, under, ev, lk]) rfl rfl rfl (ok3 _ _ _) rfl ?_
        rw [← hgs]
        simp (maxSteps := 400000) (disch := omega) only [push_cast, ↓reduceIte, reduceCtorEq, Nat.reduceAdd, Nat.reduceSub, Nat.reduceEqDiff, Nat.reduceLeDiff, Nat.reduceLT, Nat.reduceBEq, Nat.reduceDiv, Nat.reduceMod, Nat.reducePow, Nat.reduceMul, Int.reduceToNat, Int.reduceLT, Int.reduceLE, chainX]
        (refine go0 ?_; try exact True.intro)
        refine ⟨j + 1, by omega, by omega, by rfl, ?_⟩
        rw [htk, List.length_append]
        (refine syE ?_; try exact True.intro)
      · have hjy : j = Y.length := by omega
        rw [hjy, List.take_length, ← hew]
        (refine go0 ?_; try exact True.intro)
        refine ⟨w + 1, by omega, by omega, by rfl, ?_⟩
        rw [hes]
        (refine syE ?_; try exact True.intro)
  · have hwm : w = m.ws.length := by omega
    subst hwm
    clear hes h5 hwl hel hbl hz c9
    have hbd : bnD m f fr = dstC m false (rdC m f) fr := rfl
    have hbn : bnH m f fr to = mnL (bnD m f fr) (gi (bnD m f fr) to.toNat) m.n.toNat := rfl
    obtain ⟨k1, k2⟩ := edgC_ok hok false (c := rdC m f) (fun i hi => (rdC_rng hok f hi).1)
    have hDB : Dst (edgC m false (rdC m f)) fr.toNat m.n.toNat (bnD m f fr) := dst_dst k1 (by omega)
    have o57 := fo29 m f fr false 82 [] [.fp (cAt m f) 0, .fp [.fm 3 (gP (evA m f m.ws.length))] 0] (rdC m f) hok hpr.1 (fun i hi => (rdC_rng hok f hi).1) (fun i hi => (rdC_rng hok f hi).2) (fun i hi => fn130e m f hok i hi)
    rw [← hbd] at o57
    rw [hbn]
    generalize bnD m f fr = BD at *
    have c42 := fn42 m f (gP (evA m f m.ws.length))
    generalize evA m f m.ws.length = PS at *
    refine W_exit ?_
    (refine sy1 ?_; try exact True.intro)
    repeat (first | refine WK_go ?_ | refine W_seqL ?_ | refine W_seq ?_ | refine W_block ?_)
    refine W_le (le_frzM 14 [2, 3, 4, 8, 12, 13] [31, 2, 20, 23] 33 25 b 3 (gP PS) (by rfl) (by rfl) (by rfl) (by rfl)) ?_
    (refine sy1 ?_; try exact True.intro)
    repeat' (first | refine w1g ?_ | refine w1l ?_ | refine w1q ?_ | refine w1b ?_ | refine w1p ?_ | ((first | refine W_regS 5 (by decide) (by decide) ?_ | refine w1r ?_ | refine w1k ?_ | refine w1e ?_ | refine CallC.now (c42) ?_); (refine sy1 ?_; try exact True.intro)) | refine an2 ?_ | (refine CallC.inl (Inl_of_FnO o57 (by rfl) ?_); (refine sy1 ?_; try exact True.intro)) | fail)
    have hlB := hDB.len
    obtain ⟨N, hN⟩ : ∃ N : Nat, m.n = N := ⟨m.n.toNat, by omega⟩
    rw [hN, Int.toNat_natCast] at hlB hDB ⊢
    have hbt := hDB.le (y := to.toNat) (by omega)
    refine ⟨by omega, by omega, ?_⟩
    generalize hh : gi BD to.toNat = MT at *
    have hh2 : BD.getD to.toNat 0 = MT := hh
    rw [hh2]
    (refine gof hlB ?_; try exact True.intro)
    refine W_loopU (fun z : Nat => [(116, iv z)]) (fun z => [(38, .row 0 2 1 0 cI (mnL BD MT z))]) (fun z => z ≤ N) (fun z => N - z) 0 (by omega) (by rfl) (by simp only [mnL, List.take_zero, List.map_nil, List.drop_zero, List.nil_append]; rfl) (fun z hz => ?_)
    have hml := mnL_len BD MT z
    rw [hlB] at hml
    (refine sy1 ?_; try exact True.intro)
    (refine go0 ?_; try exact True.intro)
    refine W_condD (by rfl) (fun h6 => ?_) (fun h6 => ?_)
    · have hlt : z < N := by omega
      have hma := mnL_at (x := MT) (show z < BD.length by omega)
      have hms := mnL_set (x := MT) (show z < BD.length by omega)
      have hbz := hDB.le hlt
      (refine gof (ad2 hml hma) ?_; try exact True.intro)
      refine ⟨rfl, ⟨Nat.le_of_ble_eq_true rfl, rfl⟩, by omega, min (BD.getD z 0) MT, rfl, rfl, ?_⟩
      rw [hms]
      (refine sy1 ?_; try exact True.intro)
      (refine go0 ?_; try exact True.intro)
      refine ⟨z + 1, by omega, by omega, by rfl, ?_⟩
      (refine syE ?_; try exact True.intro)
    · rw [show z = N by omega]
      (refine go0 ?_; try exact True.intro)
      refine W_ret ⟨[_, _], ⟨⟨by simp, rfl⟩, rfl, rfl⟩, ?_⟩
      (refine syP ?_; try exact True.intro)
      try rfl
end Go.Proofs.YtcfomfajpmlleaaGreat.R

namespace Go.Proofs.YtcfomfajpmlleaaGreat.R
open Go Sy
set_option maxRecDepth 100000
set_option maxHeartbeats 8000000
set_option linter.unusedVariables false
set_option linter.unusedSimpArgs false
theorem fn14 (m : Mp) (f : Nat → Int) (fr to : Int) (ps : List Prt) (hs : List Int) (hm : Gm m) (hl : ps.length ≤ 1000000) (hl2 : hs.length ≤ 1000000) : Sy.Fn Tryz.prog 14 [aM m, .agg (c6 f), iv fr, iv to, .agg (cBd ps hs)] (.tup [iv (bdV m f fr to ps hs), iv (bdE m f fr to ps hs)]) := by
  refine Fn_of_W mixed Xt14 rfl ?_
  have c24 := fn24 m f hm
  have fin : bdE m f fr to ps hs ≠ 0 → bdV m f fr to ps hs = 0 := fun q => by unfold bdV; rw [if_neg q]
  by_cases h0 : opE m f = 0
  rotate_left
  · have e1 : bdE m f fr to ps hs = opE m f := by unfold bdE; rw [if_neg h0]
    have e2 := fin (by rw [e1]; exact h0)
    rw [e1, e2]
    unfold cBd
    have hv : opV m f = cAt m f ∨ opV m f = zAt := by
      unfold opV
      split
      · exact .inl rfl
      · exact .inr rfl
    generalize opE m f = e at *
    rcases hv with hv | hv
    all_goals
      rw [hv] at c24
      try unfold zAt at c24
      (refine go_c c24 ?_; try exact True.intro)
      refine W_cond (by rfl) (fun h => ?_) (fun h => ?_)
      · (refine go0 ?_; try exact True.intro)
        exact W_ret ⟨[_, _], ⟨rfl, rfl, rfl⟩, rfl⟩
      · exact absurd (by simpa using h) h0
  have hchk : chkM m = 0 ∧ szE f = 0 := by
    unfold opE at h0
    by_cases q : chkM m = 0
    · rw [if_pos q] at h0; exact ⟨q, h0⟩
    · rw [if_neg q] at h0; exact absurd h0 q
  have hok := chkM_ok hchk.1
  have hmn := hok.n
  have hw := hok.nw
  have hnr := hok.nr
  have hv : opV m f = cAt m f := by unfold opV; rw [if_pos hchk.1]
  rw [hv, h0] at c24
  have c25 := fn25 m [fr, to] (by simp)
  have hpl : plsB m [fr, to] = (plB m.n fr && plB m.n to) := by simp [plsB]
  rw [hpl] at c25
  have bde : bdE m f fr to ps hs = (if plB m.n fr = true ∧ plB m.n to = true then (if (hs.length : Int) = m.n then (if rgtB m f ps hs = true then 0 else 16) else 17) else 3) := by unfold bdE; rw [if_pos h0]
  unfold cBd
  (refine go_c c24 ?_; try exact True.intro)
  refine W_cond (by rfl) (fun h => by cases h) (fun _ => ?_)
  (refine go0 ?_; try exact True.intro)
  refine ⟨rfl, trivial, Int, 0, cI, [fr, to], rfl, by omega, fun x _ => ⟨rfl, rfl⟩, rfl, ?_⟩
  (refine sy1 ?_; try exact True.intro)
  by_cases hp : plB m.n fr = true ∧ plB m.n to = true
  rotate_left
  · have e1 : bdE m f fr to ps hs = 3 := by rw [bde, if_neg hp]
    have e2 := fin (by rw [e1]; decide)
    rw [e1, e2]
    have e3 : (plB m.n fr && plB m.n to) = false := by rw [← Bool.not_eq_true, Bool.and_eq_true]; exact hp
    rw [e3] at c25
    (refine go_g c25 ?_; try exact True.intro)
    refine W_cond (by rfl) (fun h => ?_) (fun h => by cases h)
    (refine go0 ?_; try exact True.intro)
    exact W_ret ⟨[_, _], ⟨rfl, rfl, rfl⟩, rfl⟩
  have e3 : (plB m.n fr && plB m.n to) = true := by rw [hp.1, hp.2]; rfl
  rw [e3] at c25
  rw [if_pos hp] at bde
  have hpr : (0 ≤ fr ∧ fr < m.n) ∧ (0 ≤ to ∧ to < m.n) := by
    have := hp.1; have := hp.2
    unfold plB at *
    simp only [Bool.and_eq_true, decide_eq_true_eq] at *
    omega
  (refine go_g c25 ?_; try exact True.intro)
  refine W_cond (by rfl) (fun h => by cases h) (fun h => ?_)
  by_cases hn : (hs.length : Int) = m.n
  rotate_left
  · have e1 : bdE m f fr to ps hs = 17 := by rw [bde, if_neg hn]
    have e2 := fin (by rw [e1]; decide)
    rw [e1, e2]
    (refine go0 ?_; try exact True.intro)
    refine W_cond (by rfl) (fun h => ?_) (fun h => ?_)
    · (refine go0 ?_; try exact True.intro)
      exact W_ret ⟨[_, _], ⟨rfl, rfl, rfl⟩, rfl⟩
    · exact absurd (by simpa using h) hn
  rw [if_pos hn] at bde
  have no : rgtB m f ps hs = false → bdE m f fr to ps hs = 16 ∧ bdV m f fr to ps hs = 0 := fun q => by
    have e1 : bdE m f fr to ps hs = 16 := by rw [bde, q]; rfl
    exact ⟨e1, fin (by rw [e1]; decide)⟩
  (refine go0 ?_; try exact True.intro)
  refine W_cond (by rfl) (fun h => absurd hn (by simpa using h)) (fun h => ?_)
  refine W_skip ?_
  try (refine sy1 ?_; try exact True.intro)
  repeat (first | refine WK_go ?_ | refine W_seqL ?_ | refine W_seq ?_ | refine W_block ?_)
  refine W_regX [0] ?_
  (refine sCS ?_; try exact True.intro)
  refine ⟨[], rfl, rfl, fun b => ?_⟩
  try (refine sy1 ?_; try exact True.intro)
  repeat (first | refine WK_go ?_ | refine W_seqL ?_ | refine W_seq ?_ | refine W_block ?_)
  refine W_regL ?_
  (refine sy1 ?_; try exact True.intro)
  refine ⟨rfl, ⟨by omega, by omega, by omega⟩, Int, 0, cI, 0, rfl, rfl, by omega, rfl, ?_⟩
  (refine syf Int.toNat_natCast ?_; try exact True.intro)
  (refine go0 ?_; try exact True.intro)
  refine W_loopU (fun i : Nat => [(58, iv i)]) (fun i => [(30, .oth (.mp b 3 (gP (ps.take i)))), (35, .row 0 2 1 0 cI (tbI m.ws.length (spW (ps.take i))))]) (fun i => i ≤ ps.length ∧ (∀ j, j < i → okP m f ps j = true) ∧ ∀ w, w < m.ws.length → spW (ps.take i) w ≤ (gw m w).c) (fun i => ps.length - i) 0 ⟨by omega, fun j hj => by omega, fun w hw => by have := (workB_ok (hok.w w hw)).c; show (0 : Int) ≤ _; omega⟩ (by rfl) (by rw [← tbI_rep]; rfl) (fun i hi => ?_)
  obtain ⟨hi, hall, hsum⟩ := hi
  have tl := tbI_len m.ws.length (spW (ps.take i))
  have hpk : ∀ p ∈ ps.take i, PrtOK m f p := fun p hp => by
    obtain ⟨j, hj, rfl⟩ := List.mem_iff_getElem.1 hp
    rw [List.length_take] at hj
    have h2 := okP_ok (hall j (by omega))
    have e : ps.getD j dP = (ps.take i)[j] := by simp [List.getD, show j < ps.length by omega]
    rw [e] at h2
    exact h2
  (refine sy1 ?_; try exact True.intro)
  (refine go0 ?_; try exact True.intro)
  refine W_condD (by rfl) (fun h5 => ?_) (fun h5 => ?_)
  · have hlt : i < ps.length := by omega
    have hsn := take_snocP hlt
    have hdu := gP_dup hlt
    obtain ⟨p, hp⟩ : ∃ p, ps.getD i dP = p := ⟨_, rfl⟩
    rw [hp] at hsn hdu
    have hgw : m.ws.getD p.w.toNat dW = gw m p.w.toNat := rfl
    (refine gof hp ?_; try exact True.intro)
    (refine gof (ad4 hp hgw Nat.zero_add Nat.mul_one) ?_; try exact True.intro)
    refine W_cond (by rfl) (fun hz => ?_) (fun hz => ?_)
    · have hno : okP m f ps i = false := okP_no hp (fun q => by
        have q1 := q.w; have q2 := q.r; have q3 := q.k; have q4 := q.v
        simp only [Bool.or_eq_true, decide_eq_true_eq] at hz
        rw [hgw] at hz
        omega)
      obtain ⟨e1, e2⟩ := no (rgt_no1 hlt hno)
      rw [e1, e2]
      (refine go0 ?_; try exact True.intro)
      exact W_ret ⟨[_, _], ⟨rfl, rfl, rfl⟩, rfl⟩
    simp only [Bool.or_eq_false_iff, decide_eq_false_iff_not] at hz
    rw [hgw] at hz
    obtain ⟨⟨⟨⟨⟨z1, z2⟩, z3⟩, z4⟩, z5⟩, z6⟩ := hz
    have hc := (workB_ok (hok.w p.w.toNat (by omega))).c
    obtain ⟨w, ew⟩ : ∃ w : Nat, p.w = w := ⟨p.w.toNat, by omega⟩
    obtain ⟨r, er⟩ : ∃ r : Nat, p.r = r := ⟨p.r.toNat, by omega⟩
    refine W_skip ?_
    try (refine sy1 ?_; try exact True.intro)
    repeat (first | refine WK_go ?_ | refine W_seqL ?_ | refine W_seq ?_ | refine W_block ?_)
    refine W_regL ?_
    (refine sy1 ?_; try exact True.intro)
    repeat (first | refine WK_go ?_ | refine W_seqL ?_ | refine W_seq ?_ | refine W_block ?_)
    refine W_regL ?_
    (refine sy1 ?_; try exact True.intro)
    repeat (first | refine WK_go ?_ | refine W_seqL ?_ | refine W_seq ?_ | refine W_block ?_)
    refine W_regX [2] ?_
    (refine sCS ?_; try exact True.intro)
    refine ⟨[], rfl, 30, b, _, .agg #[.int .i64 p.w, .int .i64 p.r, .int .i64 p.k], rfl, rfl, rfl, fun _ => ok3 _ _ _, ?_⟩
    have hdu : (gP (ps.take i) (.agg #[.int .i64 p.w, .int .i64 p.r, .int .i64 p.k])).isSome = dupB ps i := hdu
    rw [hdu]
    (refine sy1 ?_; try exact True.intro)
    have okd : okP m f ps i = (prtB m f p && !dupB ps i) := by unfold okP; rw [hp]
    cases hdb : dupB ps i
    rotate_left
    · have hno : okP m f ps i = false := by rw [okd, hdb]; simp
      obtain ⟨e1, e2⟩ := no (rgt_no1 hlt hno)
      rw [e1, e2]
      repeat' (first | refine w1g ?_ | refine w1l ?_ | refine w1q ?_ | refine w1b ?_ | refine w1p ?_ | ((first | refine w1r ?_ | refine w1k ?_ | refine w1e ?_); (refine sy1 ?_; try exact True.intro)) | refine an2 ?_ | (refine CallC.go (bv false) (fun hpc => absurd hpc (by simp [Sy.pc])) rfl ?_; (refine sy1 ?_; try exact True.intro)) | fail)
      refine W_cond (by rfl) (fun _ => ?_) (fun h => by cases h)
      (refine go0 ?_; try exact True.intro)
      exact W_ret ⟨[_, _], ⟨rfl, rfl, rfl⟩, rfl⟩
    rw [hdb] at okd
    have c40 := fn40 m f p.r
    have c47 := fn47 m f r hok (by omega)
    have hll := ldL_len m f r 6
    have c46 : Sy.Fn Tryz.prog 46 [aLd (ldL m f r 6), .agg [iv p.r, iv p.k]] (bv ((ldL m f r 6).any (ldEq ⟨p.r, p.k⟩))) := fn46 (ldL m f r 6) ⟨p.r, p.k⟩ (by omega)
    have hany := ldL_any m f r p.k
    rw [← er] at c47 hany
    by_cases hL : (0 ≤ p.k ∧ p.k ≤ 5) ∧ ldsB m f r p.k.toNat = true
    rotate_left
    · have hany : (ldL m f r 6).any (ldEq ⟨p.r, p.k⟩) = false := by
        rw [hany, ← Bool.not_eq_true, Bool.and_eq_true, decide_eq_true_eq]
        exact hL
      rw [hany] at c46
      have hno : okP m f ps i = false := okP_no hp (fun q => hL ⟨q.k, by have := q.l; rwa [show p.r.toNat = r by omega] at this⟩)
      obtain ⟨e1, e2⟩ := no (rgt_no1 hlt hno)
      rw [e1, e2]
      generalize ldL m f r 6 = LL at *
      repeat' (first | refine w1g ?_ | refine w1l ?_ | refine w1q ?_ | refine w1b ?_ | refine w1p ?_ | ((first | refine w1r ?_ | refine w1k ?_ | refine w1e ?_ | refine CallC.go _ (fun _ => ⟨trivial, c40⟩) rfl ?_ | refine CallC.go _ (fun _ => ⟨trivial, c47⟩) rfl ?_ | refine CallC.go _ (fun _ => ⟨trivial, c46⟩) rfl ?_); (refine sy1 ?_; try exact True.intro)) | refine an2 ?_ | (refine CallC.go (bv false) (fun hpc => absurd hpc (by simp [Sy.pc])) rfl ?_; (refine sy1 ?_; try exact True.intro)) | fail)
      refine W_cond (by rfl) (fun _ => ?_) (fun h => by cases h)
      (refine go0 ?_; try exact True.intro)
      exact W_ret ⟨[_, _], ⟨rfl, rfl, rfl⟩, rfl⟩
    obtain ⟨k, ek⟩ : ∃ k : Nat, p.k = k := ⟨p.k.toNat, by omega⟩
    have hany : (ldL m f r 6).any (ldEq ⟨p.r, p.k⟩) = true := by
      rw [hany, Bool.and_eq_true, decide_eq_true_eq]
      exact hL
    rw [hany] at c46
    have c41 : Sy.Fn Tryz.prog 41 [aAt m f, iv w, .agg [iv r, iv k]] (bv (hpsB m f w r k)) := fn41 m f w r k hok (by omega) (by omega)
    rw [← er, ← ek, ← ew] at c41
    have t1 : p.w.toNat = w := by omega
    have t2 : p.r.toNat = r := by omega
    have t3 : p.k.toNat = k := by omega
    cases hH : hpsB m f w r k
    · have hno : okP m f ps i = false := okP_no hp (fun q => by
        have := q.h
        rw [t1, t2, t3, hH] at this
        cases this)
      obtain ⟨e1, e2⟩ := no (rgt_no1 hlt hno)
      rw [e1, e2]
      rw [hH] at c41
      generalize ldL m f r 6 = LL at *
      repeat' (first | refine w1g ?_ | refine w1l ?_ | refine w1q ?_ | refine w1b ?_ | refine w1p ?_ | ((first | refine w1r ?_ | refine w1k ?_ | refine w1e ?_ | refine CallC.go _ (fun _ => ⟨trivial, c40⟩) rfl ?_ | refine CallC.go _ (fun _ => ⟨trivial, c47⟩) rfl ?_ | refine CallC.go _ (fun _ => ⟨trivial, c46⟩) rfl ?_ | refine CallC.go _ (fun _ => ⟨trivial, c41⟩) rfl ?_); (refine sy1 ?_; try exact True.intro)) | refine an2 ?_ | fail)
      refine W_cond (by rfl) (fun _ => ?_) (fun h => by cases h)
      (refine go0 ?_; try exact True.intro)
      exact W_ret ⟨[_, _], ⟨rfl, rfl, rfl⟩, rfl⟩
    rw [hH] at c41
    have hpok : PrtOK m f p := ⟨by omega, by omega, hL.1, by omega, by rw [t2]; exact hL.2, by rw [t1, t2, t3]; exact hH⟩
    have hoki : okP m f ps i = true := by rw [okd, prtB_iff.2 hpok]; rfl
    have hrg := hsum w (by omega)
    have hrg0 := spW_mono (w := w) (ps := ps.take i) (fun q hq => (hpk q hq).v.1) 0
    have hrg0 : 0 ≤ spW (ps.take i) w := hrg0
    have hcw := (workB_ok (hok.w w (by omega))).c
    have hset : (tbI m.ws.length (spW (ps.take i))).set w (spW (ps.take i) w + p.v) = tbI m.ws.length (spW (ps.take (i + 1))) := by
      rw [hsn]
      refine tbI_set ?_ (fun x hx hne => ?_)
      · rw [spW_snoc]; unfold spS; rw [if_pos (by omega)]
      · rw [spW_snoc]; unfold spS; rw [if_neg (by omega)]
    have hat := tbI_at (n := m.ws.length) (spW (ps.take i)) (show w < m.ws.length by omega)
    have tl2 := tbI_len m.ws.length (spW (ps.take (i + 1)))
    have hat2 := tbI_at (n := m.ws.length) (spW (ps.take (i + 1))) (show w < m.ws.length by omega)
    have hgs : updG (gP (ps.take i)) (.agg #[.int .i64 p.w, .int .i64 p.r, .int .i64 p.k]) (.int .i64 p.v) = gP (ps.take (i + 1)) := by rw [hsn, gP_snoc]; rfl
    rw [t1] at z6
    generalize ldL m f r 6 = LL at *
    repeat (first | refine WK_go ?_ | refine W_seqL ?_ | refine W_seq ?_ | refine W_block ?_)
    refine W_regL ?_
    (refine sy1 ?_; try exact True.intro)
    repeat (first | refine And.intro (by omega) ?_ | (refine CallC.go _ (fun _ => ⟨trivial, c40⟩) rfl ?_; (refine sy1 ?_; try exact True.intro)) | (refine CallC.go _ (fun _ => ⟨trivial, c47⟩) rfl ?_; (refine sy1 ?_; try exact True.intro)) | (refine CallC.go _ (fun _ => ⟨trivial, c46⟩) rfl ?_; (refine sy1 ?_; try exact True.intro)) | (refine CallC.go _ (fun _ => ⟨trivial, c41⟩) rfl ?_; (refine sy1 ?_; try exact True.intro)))
    repeat (first | refine WK_go ?_ | refine W_seqL ?_ | refine W_seq ?_ | refine W_block ?_)
    refine W_cond (by rfl) (fun h => by cases h) (fun _ => ?_)
    refine W_skip ?_
    try (refine sy1 ?_; try exact True.intro)
    repeat (first | refine WK_go ?_ | refine W_seqL ?_ | refine W_seq ?_ | refine W_block ?_)
    refine W_regX [4] ?_
    (refine sCS ?_; try exact True.intro)
    refine ⟨[], rfl, rfl, 30, b, _, .agg #[.int .i64 p.w, .int .i64 p.r, .int .i64 p.k], .int .i64 p.v, rfl, rfl, rfl, ok3 _ _ _, rfl, ?_⟩
    rw [hgs]
    try (refine sy1 ?_; try exact True.intro)
    (refine gof (ad4 ew tl hat Int.toNat_natCast) ?_; try exact True.intro)
    refine ⟨rfl, ⟨Nat.le_of_ble_eq_true rfl, rfl⟩, by omega, spW (ps.take i) w + p.v, rfl, rfl, ?_⟩
    rw [hset]
    (refine sy1 ?_; try exact True.intro)
    have hgw2 : m.ws.getD w dW = gw m w := rfl
    (refine gof (ad5 ew tl2 hat2 hgw2 Int.toNat_natCast) ?_; try exact True.intro)
    refine W_condD (by rfl) (fun hz => ?_) (fun hz => ?_)
    · obtain ⟨e1, e2⟩ := no (rgt_sum (i := i + 1) (by omega) (show w < m.ws.length by omega) hz)
      rw [e1, e2]
      (refine go0 ?_; try exact True.intro)
      exact W_ret ⟨[_, _], ⟨rfl, rfl, rfl⟩, rfl⟩
    · (refine go0 ?_; try exact True.intro)
      refine ⟨i + 1, ⟨by omega, fun x hx => ?_, fun x hx => ?_⟩, by omega, by rfl, ?_⟩
      · rcases Nat.lt_or_ge x i with g | g
        · exact hall x g
        · rw [show x = i by omega]; exact hoki
      · by_cases hxw : x = w
        · subst hxw; omega
        · have := hsum x hx
          rw [hsn, spW_snoc]
          unfold spS
          rw [if_neg (by omega)]
          exact this
      · (refine syE ?_; try exact True.intro)
  have hil : i = ps.length := by omega
  subst hil
  rw [List.take_length] at *
  clear h5 hi
  have c48 := fn48 hs hl2 49 [] [] (fun x => !hgB x) (fun x _ => fn49 x)
  (refine go_c c48 ?_; try exact True.intro)
  cases hha : hs.any fun x => !hgB x
  rotate_left
  · have hno : rgtB m f ps hs = false := by
      obtain ⟨x, hx, hq⟩ := List.any_eq_true.1 hha
      obtain ⟨j, hj, rfl⟩ := List.mem_iff_getElem.1 hx
      refine rgt_no3 (i := j) (by omega) ?_
      have e : gi hs j = hs[j] := by simp [gi, List.getD, hj]
      rw [e]; simpa using hq
    obtain ⟨e1, e2⟩ := no hno
    rw [e1, e2]
    refine W_cond (by rfl) (fun _ => ?_) (fun h => by cases h)
    (refine go0 ?_; try exact True.intro)
    exact W_ret ⟨[_, _], ⟨rfl, rfl, rfl⟩, rfl⟩
  refine W_cond (by rfl) (fun h => by cases h) (fun _ => ?_)
  have h3 : ∀ x, x < m.n.toNat → hgB (gi hs x) = true := fun x hx => by
    have h1 := List.any_eq_false.1 hha (gi hs x) (by unfold gi; exact getD_mem' 0 hs x (by omega))
    simpa using h1
  have hgr : ∀ x, x < m.n.toNat → -35184372088832 ≤ gi hs x ∧ gi hs x ≤ 35184372088832 := fun x hx => by
    have := h3 x hx
    unfold hgB at this
    rwa [decide_eq_true_eq] at this
  have hv1 : ∀ p ∈ ps, p.v ≤ 1073741824 := fun p hp => by
    have h1 := (hpk p hp).v; have h2 := (hpk p hp).w
    have := (workB_ok (hok.w p.w.toNat (by omega))).c
    omega
  have hv0 : ∀ p ∈ ps, 0 ≤ p.v := fun p hp => (hpk p hp).v.1
  have hdu : ∀ i, i < ps.length → dupB ps i = false := fun i hi => by
    have := hall i hi
    unfold okP at this
    rw [Bool.and_eq_true, Bool.not_eq_true'] at this
    exact this.2
  have hhol := gP_hol hdu
  generalize gP ps = g at *
  refine W_skip ?_
  try (refine sy1 ?_; try exact True.intro)
  repeat (first | refine WK_go ?_ | refine W_seqL ?_ | refine W_seq ?_ | refine W_block ?_)
  refine W_le (le_frzM 15 [2, 3, 5, 9, 12] [11] 31 30 b 3 g rfl rfl rfl rfl) ?_
  (refine sy1 ?_; try exact True.intro)
  have hV : ∀ w r k : Nat, 0 ≤ partV w r k ps ∧ partV w r k ps ≤ 1125899906842624 := fun w r k => ⟨partV_rng hv0, by have := partV_le (w := w) (r := r) (k := k) (M := 1073741824) (by omega) hv1; omega⟩
  have gI : ∀ (l : List Int) i, l.getD i 0 = gi l i := fun _ _ => rfl
  (refine go_c (fn42 m f g) ?_; try exact True.intro)
  refine W_loopU (fun i : Nat => [(173, iv i)]) (fun w => []) (fun i => i ≤ m.rs.length ∧ ∀ x, x < i → rdOK m f ps hs x = true) (fun i => m.rs.length - i) 0 ⟨by omega, fun j hj => by omega⟩ (by rfl) (by rfl) (fun i hi => ?_)
  obtain ⟨hi, hall4⟩ := hi
  (refine sy1 ?_; try exact True.intro)
  (refine go0 ?_; try exact True.intro)
  refine W_condD (by rfl) (fun h5 => ?_) (fun h5 => ?_)
  · have hlt : i < m.rs.length := by omega
    have ok := roadB_ok (hok.r i hlt)
    have ofr := ok.f
    have otr := ok.t
    have g1 := hgr (gr m i).f.toNat (by omega)
    have g2 := hgr (gr m i).t.toNat (by omega)
    have hgR : m.rs.getD i dR = gr m i := rfl
    have c82 := fn82 m f g (fun w r k => partV w r k ps) hhol hV i hok hlt
    rw [rdS_eq hv1 6 (by omega)] at c82
    have hrr := redS_rng (f := f) hok hlt hv0 6
    have erd : rdOK m f ps hs i = !(usB m f (evL m.ws.length) i && decide (redS m f ps i 6 < gi hs (gr m i).t.toNat - gi hs (gr m i).f.toNat)) := rfl
    obtain ⟨rv, hrv⟩ : ∃ rv, rv = if usB m f (evL m.ws.length) i = true then redS m f ps i 6 else -1 := ⟨_, rfl⟩
    rw [← hrv] at c82
    have hrv2 : ∀ d : Int, (decide (0 ≤ rv) && decide (rv < d)) = (usB m f (evL m.ws.length) i && decide (redS m f ps i 6 < d)) := fun d => by
      rw [hrv]
      cases usB m f (evL m.ws.length) i
      · rfl
      · rw [if_pos rfl, decide_eq_true (by omega)]
    rw [← hrv2] at erd
    have hrl : -1 ≤ rv ∧ rv ≤ 9223372036854775807 := by
      rw [hrv]; split <;> omega
    clear hrv2 hrv
    have g1' : -35184372088832 ≤ hs.getD (gr m i).f.toNat 0 ∧ hs.getD (gr m i).f.toNat 0 ≤ 35184372088832 := g1
    have g2' : -35184372088832 ≤ hs.getD (gr m i).t.toNat 0 ∧ hs.getD (gr m i).t.toNat 0 ≤ 35184372088832 := g2
    (refine gofc hgR c82 ?_; try exact True.intro)
    (refine gof hgR ?_; try exact True.intro)
    refine W_cond (by rfl) (fun hz => ?_) (fun hz => ?_)
    · have hz : (decide (0 ≤ rv) && decide (rv < gi hs (gr m i).t.toNat - gi hs (gr m i).f.toNat)) = true := hz
      rw [hz] at erd
      obtain ⟨e1, e2⟩ := no (rgt_no4 hlt erd)
      rw [e1, e2]
      (refine go0 ?_; try exact True.intro)
      exact W_ret ⟨[_, _], ⟨rfl, rfl, rfl⟩, rfl⟩
    · have hz : (decide (0 ≤ rv) && decide (rv < gi hs (gr m i).t.toNat - gi hs (gr m i).f.toNat)) = false := hz
      rw [hz] at erd
      (refine go0 ?_; try exact True.intro)
      refine ⟨i + 1, ⟨by omega, fun x hx => ?_⟩, by omega, by rfl, ?_⟩
      · rcases Nat.lt_or_ge x i with g | g
        · exact hall4 x g
        · rw [show x = i by omega, erd]; rfl
      · (refine syE ?_; try exact True.intro)
  · have hyes : rgtB m f ps hs = true := rgt_yes hall hsum h3 (fun x hx => hall4 x (by omega))
    have e1 : bdE m f fr to ps hs = 0 := by rw [bde, if_pos hyes]
    have e2 : bdV m f fr to ps hs = gi hs to.toNat - gi hs fr.toNat := by unfold bdV; rw [if_pos e1]
    have g1 : -35184372088832 ≤ hs.getD fr.toNat 0 ∧ hs.getD fr.toNat 0 ≤ 35184372088832 := hgr fr.toNat (by omega)
    have g2 : -35184372088832 ≤ hs.getD to.toNat 0 ∧ hs.getD to.toNat 0 ≤ 35184372088832 := hgr to.toNat (by omega)
    rw [e1, e2]
    (refine go0 ?_; try exact True.intro)
    exact W_ret ⟨[_, _], ⟨rfl, rfl, rfl⟩, rfl⟩
end Go.Proofs.YtcfomfajpmlleaaGreat.R

namespace Go.Proofs.YtcfomfajpmlleaaGreat.R
open Go Sy
set_option maxRecDepth 100000
set_option maxHeartbeats 4000000
set_option linter.unusedVariables false
set_option linter.unusedSimpArgs false
end Go.Proofs.YtcfomfajpmlleaaGreat.R

namespace Go.Proofs.YtcfomfajpmlleaaGreat.R
open Go Sy
set_option maxRecDepth 100000
set_option maxHeartbeats 4000000
set_option linter.unusedVariables false
set_option linter.unusedSimpArgs false
structure ChYes (m : Mp) (f : Nat → Int) (fr to : Int) (s : List Int) (n : Int) : Prop where
  v : chV m f fr to = some (s, n)
  b : bestS m f fr to = some (s, n)
  ok : OkM m
  z : szE f = 0
  f : 0 ≤ fr ∧ fr < m.n
  t : 0 ≤ to ∧ to < m.n
theorem bnH_len {m : Mp} (h : OkM m) (f : Nat → Int) (fr to : Int) (hf : 0 ≤ fr ∧ fr < m.n) : ((bnH m f fr to).length : Int) = m.n := by
  obtain ⟨k1, k2⟩ := edgC_ok h false (c := rdC m f) (fun i hi => (rdC_rng h f hi).1)
  have hDB : Dst (edgC m false (rdC m f)) fr.toNat m.n.toNat (bnD m f fr) := dst_dst k1 (by omega)
  unfold bnH
  rw [mnL_len, hDB.len]
  omega
end Go.Proofs.YtcfomfajpmlleaaGreat.R

namespace Go.Proofs.YtcfomfajpmlleaaGreat.R
open Go Sy
set_option linter.unusedVariables false
def sF {α : Type} (g : α → Int) : List α → Int
  | [] => 0
  | x :: l => g x + sF g l
theorem sF_app {α : Type} (g : α → Int) : ∀ (l k : List α), sF g (l ++ k) = sF g l + sF g k
  | [], k => by simp [sF]
  | x :: l, k => by simp only [List.cons_append, sF, sF_app g l k]; omega
theorem sF_le {α : Type} {g h : α → Int} : ∀ {l : List α}, (∀ x ∈ l, g x ≤ h x) → sF g l ≤ sF h l
  | [], _ => Int.le_refl _
  | x :: l, hh => by
    have h1 := hh x List.mem_cons_self
    have h2 := sF_le (l := l) fun y hy => hh y (List.mem_cons_of_mem _ hy)
    simp only [sF]; omega
theorem sF_congr {α : Type} {g h : α → Int} {l : List α} (hh : ∀ x ∈ l, g x = h x) : sF g l = sF h l :=
  Int.le_antisymm (sF_le fun x hx => by rw [hh x hx]; exact Int.le_refl _) (sF_le fun x hx => by rw [hh x hx]; exact Int.le_refl _)
theorem sF_add {α : Type} (g h : α → Int) : ∀ (l : List α), sF (fun x => g x + h x) l = sF g l + sF h l
  | [] => rfl
  | x :: l => by simp only [sF, sF_add g h l]; omega
theorem sF_zero {α : Type} : ∀ (l : List α), sF (fun _ => (0 : Int)) l = 0
  | [] => rfl
  | x :: l => by simp only [sF, sF_zero l]; rfl
theorem sF_nn {α : Type} {g : α → Int} {l : List α} (h : ∀ x ∈ l, 0 ≤ g x) : 0 ≤ sF g l := by
  have := sF_le (g := fun _ => (0 : Int)) (h := g) (l := l) h
  have h2 := sF_zero l
  omega
theorem sF_swap {α β : Type} (g : α → β → Int) : ∀ (l : List α) (k : List β), sF (fun x => sF (fun y => g x y) k) l = sF (fun y => sF (fun x => g x y) l) k
  | [], k => by simp only [sF, sF_zero]
  | x :: l, k => by
    simp only [sF]
    rw [sF_swap g l k, ← sF_add]
theorem sF_one {α : Type} {g : α → Int} : ∀ {l : List α} {x : α}, x ∈ l → (∀ y ∈ l, 0 ≤ g y) → g x ≤ sF g l
  | [], x, h, _ => by cases h
  | y :: l, x, h, hn => by
    simp only [sF]
    have h0 := sF_nn (l := l) fun z hz => hn z (List.mem_cons_of_mem _ hz)
    rcases List.mem_cons.1 h with rfl | h
    · omega
    · have := sF_one h fun z hz => hn z (List.mem_cons_of_mem _ hz)
      have := hn y List.mem_cons_self
      omega
theorem sF_uniq {α : Type} {q : α → Bool} {v : α → Int} {B : Int} (hB : 0 ≤ B) : ∀ {l : List α}, l.Pairwise (fun x y => ¬ (q x = true ∧ q y = true)) → (∀ x ∈ l, q x = true → v x ≤ B) → sF (fun x => if q x = true then v x else 0) l ≤ B
  | [], _, _ => hB
  | x :: l, hp, hv => by
    obtain ⟨h1, h2⟩ := List.pairwise_cons.1 hp
    simp only [sF]
    by_cases c : q x = true
    · rw [if_pos c]
      have h3 : sF (fun x => if q x = true then v x else 0) l = 0 := (sF_congr fun y hy => if_neg (fun z => h1 y hy ⟨c, z⟩)).trans (sF_zero l)
      have := hv x List.mem_cons_self c
      omega
    · rw [if_neg c]
      have := sF_uniq hB h2 fun y hy => hv y (List.mem_cons_of_mem _ hy)
      omega
theorem sF_foldl {α : Type} (g : α → Int) : ∀ (l : List α) (a : Int), l.foldl (fun n x => n + g x) a = a + sF g l
  | [], a => by simp [sF]
  | x :: l, a => by simp only [List.foldl_cons, sF, sF_foldl g l]; omega
theorem sumR_sF (m : Mp) (l : List Int) : sumR m l = sF (fun x => (gr m x.toNat).c) l := by
  unfold sumR; rw [sF_foldl]; omega
theorem costL_sF (m : Mp) (l : List Int) : costL m l = sF (fun x => (gw m x.toNat).c) l := by
  unfold costL; rw [sF_foldl]; omega
def ldP (m : Mp) (f : Nat → Int) (ps : List Prt) (road k : Nat) : Int := if ldsB m f road k = true then minP m f ps road k m.ws.length else 0
theorem redS_sF (m : Mp) (f : Nat → Int) (ps : List Prt) (road : Nat) : ∀ n, redS m f ps road n = (gr m road).c + sF (ldP m f ps road) (List.range n)
  | 0 => by show (gr m road).c = _ + 0; omega
  | n + 1 => by
    rw [redS_succ, redS_sF m f ps road n, List.range_succ, sF_app]
    unfold redK ldP
    simp only [sF]
    split <;> omega
theorem minP_le {m : Mp} {f : Nat → Int} {ps : List Prt} {road k : Nat} : ∀ n w, w < n → hpsB m f w road k = true → minP m f ps road k n ≤ partV w road k ps
  | 0, w, h, _ => by omega
  | n + 1, w, h, hh => by
    rw [minP_succ]
    unfold minS
    by_cases q : w = n
    · subst q
      rw [if_pos hh]; omega
    · have := minP_le n w (by omega) hh (ps := ps)
      split <;> omega
theorem lds_help2 {m : Mp} {f : Nat → Int} {s : List Int} {road k : Nat} (hk : k < 6) (hs : ∀ x ∈ s, 0 ≤ x) (hu : usB m f s road = true) (h : (gr m road).lim k < f k) : ∃ x ∈ s, hpsB m f x.toNat road k = true := by
  have h3 := usN_iff.1 hu k hk
  apply Classical.byContradiction
  intro hno
  have h4 : limL m s road k ≤ f k - 1 := limL_iff.2 ⟨by omega, fun x hx hq => by
    apply Classical.byContradiction
    intro hl
    refine hno ⟨x, hx, ?_⟩
    unfold hpsB
    rw [Bool.and_eq_true, Bool.and_eq_true, beq_iff_eq, decide_eq_true_eq, decide_eq_true_eq]
    exact ⟨hq, by omega⟩⟩
  omega
theorem partV_cons {w r k : Int} {p : Prt} {ps : List Prt} (h : ∀ q ∈ p :: ps, 0 ≤ q.v) : partV w r k (p :: ps) ≤ (if prB w r k p = true then p.v else 0) + partV w r k ps := by
  have := partV_nn (w := w) (r := r) (k := k) (ps := ps) fun q hq => h q (List.mem_cons_of_mem _ hq)
  simp only [partV]
  split <;> omega
theorem spW_sF (w : Nat) : ∀ (ps : List Prt) (a : Int), ps.foldl (spS w) a = a + sF (fun p => if p.w.toNat = w then p.v else 0) ps
  | [], a => by simp [sF]
  | p :: ps, a => by
    rw [List.foldl_cons, spW_sF w ps]
    simp only [sF]
    unfold spS
    split <;> omega
theorem pays_le {w : Nat} {l : List Int} (hl : l.Nodup) : ∀ {ps : List Prt}, (∀ p ∈ ps, 0 ≤ p.v) → sF (fun x => sF (fun k : Nat => partV w x k ps) (List.range 6)) l ≤ sF (fun p => if p.w.toNat = w then p.v else 0) ps
  | [], _ => by
    have : sF (fun x => sF (fun k : Nat => partV w x k []) (List.range 6)) l = 0 := (sF_congr fun x _ => sF_zero (List.range 6)).trans (sF_zero l)
    rw [this]; exact Int.le_refl _
  | p :: ps, h => by
    have ih := pays_le hl (ps := ps) (w := w) fun q hq => h q (List.mem_cons_of_mem _ hq)
    have hv := h p List.mem_cons_self
    have h1 : sF (fun x => sF (fun k : Nat => partV w x k (p :: ps)) (List.range 6)) l ≤ sF (fun x => sF (fun k : Nat => (if prB w x k p = true then p.v else 0) + partV w x k ps) (List.range 6)) l :=
      sF_le fun x _ => sF_le fun k _ => partV_cons h
    have h2 : sF (fun x => sF (fun k : Nat => (if prB w x k p = true then p.v else 0) + partV w x k ps) (List.range 6)) l = sF (fun x => sF (fun k : Nat => if prB w x k p = true then p.v else 0) (List.range 6)) l + sF (fun x => sF (fun k : Nat => partV w x k ps) (List.range 6)) l := by
      rw [← sF_add]
      exact sF_congr fun x _ => sF_add _ _ _
    have h3 : sF (fun x => sF (fun k : Nat => if prB w x k p = true then p.v else 0) (List.range 6)) l ≤ if p.w.toNat = w then p.v else 0 := by
      have e : ∀ x ∈ l, sF (fun k : Nat => if prB w x k p = true then p.v else 0) (List.range 6) ≤ if (p.r == x && p.w == (w : Int)) = true then (if p.w.toNat = w then p.v else 0) else 0 := fun x _ => by
        by_cases c : (p.r == x && p.w == (w : Int)) = true
        · rw [if_pos c]
          rw [Bool.and_eq_true, beq_iff_eq, beq_iff_eq] at c
          rw [if_pos (by omega)]
          refine sF_uniq (q := fun k : Nat => prB w x k p) (v := fun _ => p.v) hv ?_ (fun _ _ _ => Int.le_refl _)
          refine (rng_pair (n := 6) (R := fun a b => a ≠ b) fun a b hab => by omega).imp fun {a b} hab hh => ?_
          unfold prB at hh
          simp only [Bool.and_eq_true, beq_iff_eq] at hh
          have := hh.1.2; have := hh.2.2
          omega
        · rw [if_neg c]
          have : sF (fun k : Nat => if prB w x k p = true then p.v else 0) (List.range 6) = 0 := (sF_congr fun k _ => if_neg (fun z => by
            unfold prB at z
            simp only [Bool.and_eq_true, beq_iff_eq] at z
            exact c (by rw [Bool.and_eq_true, beq_iff_eq, beq_iff_eq]; exact ⟨z.1.2, z.1.1⟩))).trans (sF_zero (List.range 6))
          omega
      refine Int.le_trans (sF_le e) ?_
      refine sF_uniq (q := fun x => p.r == x && p.w == (w : Int)) (v := fun _ => if p.w.toNat = w then p.v else 0) (by split <;> omega) ?_ (fun _ _ _ => Int.le_refl _)
      refine List.Pairwise.imp (fun {a b} hab hh => ?_) hl
      simp only [Bool.and_eq_true, beq_iff_eq] at hh
      exact hab (hh.1.1.symm.trans hh.2.1)
    simp only [sF]
    omega
theorem way_nodup {m : Mp} {f : Nat → Int} {s left : List Int} {to a : Int} {l : List Int} (h : Way m f s left to a l) : l.Nodup := by
  have hD : ∀ j i, i < j → j ≤ l.length → gi left (atP m a l j).toNat < gi left (atP m a l i).toNat := fun j => by
    induction j with
    | zero => intro i hi _; omega
    | succ j ih =>
      intro i hi hj
      have h1 := h.d j (by omega)
      rw [← atP_succ m a l j] at h1
      rcases Nat.lt_or_ge i j with q | q
      · have := ih i q (by omega); omega
      · rw [show i = j by omega]; exact h1
  unfold List.Nodup
  rw [List.pairwise_iff_getElem]
  intro i j hi hj hij e
  have e1 : gi l i = l[i] := by simp [gi, List.getD, hi]
  have e2 : gi l j = l[j] := by simp [gi, List.getD, hj]
  have f1 := h.f i hi
  have f2 := h.f j hj
  rw [e1] at f1
  rw [e2, ← e] at f2
  have h3 := hD j i hij (by omega)
  rw [← f1, ← f2] at h3
  omega
theorem rgt_parts {m : Mp} {f : Nat → Int} {ps : List Prt} {hs : List Int} (h : rgtB m f ps hs = true) : (∀ p ∈ ps, PrtOK m f p) ∧ (∀ w, w < m.ws.length → spW ps w ≤ (gw m w).c) ∧ ∀ i, i < m.rs.length → usB m f (evL m.ws.length) i = true → gi hs (gr m i).t.toNat - gi hs (gr m i).f.toNat ≤ redS m f ps i 6 := by
  have h1 := rgt_all h
  refine ⟨fun p hp => ?_, fun w hw => ?_, fun i hi hu => ?_⟩
  · obtain ⟨j, hj, rfl⟩ := List.mem_iff_getElem.1 hp
    have := okP_ok (h1 j hj)
    have e : ps.getD j dP = ps[j] := by simp [List.getD, hj]
    rwa [e] at this
  · apply Classical.byContradiction
    intro q
    have := rgt_no2 (f := f) (ps := ps) (hs := hs) hw (by omega)
    rw [this] at h; cases h
  · apply Classical.byContradiction
    intro q
    have := rgt_no4 (f := f) (ps := ps) (hs := hs) hi (by unfold rdOK; rw [hu, decide_eq_true (by omega)]; rfl)
    rw [this] at h; cases h
theorem pt_sum {m : Mp} {g : Int → Int} {hs : List Int} {fr : Int} {l : List Int} {a : Int} (hp : Pt m fr l a) (h : ∀ x ∈ l, gi hs (gr m x.toNat).t.toNat - gi hs (gr m x.toNat).f.toNat ≤ g x) : gi hs a.toNat - gi hs fr.toNat ≤ sF g l := by
  induction hp with
  | nil => simp [sF]
  | snoc h1 h2 h3 ih =>
    rename_i l a i
    have e := ih fun x hx => h x (List.mem_append_left _ hx)
    have e2 := h (i : Int) (by simp)
    rw [Int.toNat_natCast, h3] at e2
    rw [sF_app]
    simp only [sF]
    omega
theorem proof_le {m : Mp} {f : Nat → Int} {ps : List Prt} {hs : List Int} {fr to : Int} {s : List Int} {n : Int} (h : OkM m) (hf : 0 ≤ fr ∧ fr < m.n) (ht : 0 ≤ to ∧ to < m.n) (hb : bestS m f fr to = some (s, n)) (hr : rgtB m f ps hs = true) : gi hs to.toNat - gi hs fr.toNat ≤ n := by
  obtain ⟨b1, b2, b3, b4, _⟩ := best_way h hf ht hb
  obtain ⟨r1, r2, r3⟩ := rgt_parts hr
  have hnn : ∀ p ∈ ps, 0 ≤ p.v := fun p hp => (r1 p hp).v.1
  have hrng := b2.p.rng
  have hmem := b1.mem
  have hnd := way_nodup b2
  have h1 := pt_sum (g := fun x => redS m f ps x.toNat 6) b2.p (fun x hx => by
    have hx2 := hrng x hx
    exact r3 x.toNat (by omega) (usB_mono (srt_ev b1) (b2.u x hx)))
  have h2 : sF (fun x => redS m f ps x.toNat 6) (wayS m f fr to s) ≤ sF (fun x => (gr m x.toNat).c + sF (fun w => sF (fun k : Nat => partV w x k ps) (List.range 6)) s) (wayS m f fr to s) := sF_le fun x hx => by
    have hx2 := hrng x hx
    rw [redS_sF, ← sF_swap (fun (k : Nat) w => partV w x k ps)]
    have : sF (ldP m f ps x.toNat) (List.range 6) ≤ sF (fun k : Nat => sF (fun w => partV w x k ps) s) (List.range 6) := sF_le fun k hk => by
      have hk := List.mem_range.1 hk
      unfold ldP
      by_cases q : ldsB m f x.toNat k = true
      · rw [if_pos q]
        unfold ldsB at q
        rw [Bool.and_eq_true, decide_eq_true_eq] at q
        obtain ⟨w, hw, hh⟩ := lds_help2 hk (fun y hy => (hmem y hy).1) (b2.u x hx) q.2
        have hw2 := hmem w hw
        have g1 := minP_le (ps := ps) m.ws.length w.toNat (by omega) hh
        rw [show ((w.toNat : Nat) : Int) = w by omega, show ((x.toNat : Nat) : Int) = x by omega] at g1
        have g2 := sF_one (g := fun w => partV w x k ps) hw fun y _ => partV_nn hnn
        exact Int.le_trans g1 g2
      · rw [if_neg q]
        exact sF_nn fun y _ => partV_nn hnn
    omega
  rw [sF_add, ← sumR_sF, sF_swap (fun x w => sF (fun k : Nat => partV w x k ps) (List.range 6))] at h2
  have h3 : sF (fun w => sF (fun x => sF (fun k : Nat => partV w x k ps) (List.range 6)) (wayS m f fr to s)) s ≤ costL m s := by
    rw [costL_sF]
    refine sF_le fun w hw => ?_
    have hw2 := hmem w hw
    have g1 := pays_le (w := w.toNat) hnd hnn
    rw [show ((w.toNat : Nat) : Int) = w by omega] at g1
    have g2 := r2 w.toNat (by omega)
    unfold spW at g2
    rw [spW_sF] at g2
    omega
  omega
end Go.Proofs.YtcfomfajpmlleaaGreat.R

namespace Go.Proofs.YtcfomfajpmlleaaGreat.R
open Go Sy
set_option linter.unusedVariables false
theorem spW_even {m : Mp} (f : Nat → Int) (w : Nat) : ∀ n, sF (fun p : Prt => if p.w.toNat = w then p.v else 0) (evA m f n) = if w < n then ((hlW m f w m.rs.length).length : Int) * evQ m f w else 0
  | 0 => by rw [if_neg (by omega)]; rfl
  | n + 1 => by
    rw [evA_succ, sF_app, spW_even f w n]
    have key : ∀ (l : List Ld) (q : Int), sF (fun p : Prt => if p.w.toNat = w then p.v else 0) (l.map (evP n q)) = if w = n then (l.length : Int) * q else 0 := fun l q => by
      induction l with
      | nil => simp [sF]
      | cons x l ih =>
        simp only [List.map_cons, sF, ih, List.length_cons]
        have e1 : (evP n q x).w.toNat = n := rfl
        have e2 : (evP n q x).v = q := rfl
        rw [e1, e2]
        by_cases c : w = n
        · rw [if_pos c.symm, if_pos c, if_pos c]; push_cast; rw [Int.add_mul]; omega
        · rw [if_neg (fun z => c z.symm), if_neg c, if_neg c]; rfl
    unfold evW
    rw [key]
    by_cases c : w = n
    · subst c
      rw [if_neg (by omega), if_pos rfl, if_pos (by omega)]; omega
    · rw [if_neg c]
      by_cases d : w < n
      · rw [if_pos d, if_pos (by omega)]; omega
      · rw [if_neg d, if_neg (by omega)]; rfl
theorem dist_bound2 {es : List Edg} {s n : Nat} {os : List Int} {M : Int} (hr : ∀ e ∈ es, e.x < n ∧ e.y < n) (hM : 0 ≤ M) (hp : ∀ e ∈ es, 0 ≤ e.c → 1 ≤ e.c ∧ e.c ≤ M) (h : Dst es s n os) (hf : Fix es os) : ∀ (k y : Nat), rk os n y ≤ k → y < n → gi os y < far → gi os y ≤ k * M
  | 0, y, hk, hy, hl => by
    rcases last_road hr h hf hy hl with rfl | ⟨e, he, h1, h2, h3⟩
    · rw [h.src]; simp
    · have := rk_lt (os := os) (x := e.x) (y := y) (hr e he).1 (by have := hp e he h2; omega)
      omega
  | k + 1, y, hk, hy, hl => by
    have e : ((k + 1 : Nat) : Int) * M = k * M + M := by push_cast; rw [Int.add_mul]; omega
    rw [e]
    rcases last_road hr h hf hy hl with rfl | ⟨e, he, h1, h2, h3⟩
    · rw [h.src]
      have : 0 ≤ (k : Int) * M := Int.mul_nonneg (by omega) hM
      omega
    · have hc := hp e he h2
      have := rk_lt (os := os) (x := e.x) (y := y) (hr e he).1 (by omega)
      have := dist_bound2 hr hM hp h hf k e.x (by omega) (hr e he).1 (by omega)
      omega
theorem reach_fin {es fs : List Edg} {s n : Nat} {os : List Int} {M : Int} (hr : ∀ e ∈ es, e.x < n ∧ e.y < n) (hM : 0 ≤ M) (hn : (n : Int) * M + M < far) (hp : ∀ e ∈ es, 0 ≤ e.c → 1 ≤ e.c ∧ e.c ≤ M) (h : Dst es s n os) (hf : Fix es os)
    (hm : ∀ e ∈ fs, 0 ≤ e.c → ∃ e' ∈ es, e'.x = e.x ∧ e'.y = e.y ∧ 0 ≤ e'.c) {y : Nat} {d : Int} (hw : Wk fs s y d) : gi os y < far := by
  induction hw with
  | nil => rw [h.src]; decide
  | snoc h1 h2 h3 ih =>
    obtain ⟨e', q1, q2, q3, q4⟩ := hm _ h2 h3
    have hx := hr e' q1
    rw [← q2] at ih
    have g1 := dist_bound2 hr hM hp h hf n e'.x (rk_le _ _ _) hx.1 ih
    have g2 := hf e' q1 q4 ih
    have g3 := (hp e' q1 q4).2
    rw [← q3]
    omega
theorem edC_c (m : Mp) (bk : Bool) (c : Nat → Int) (i : Nat) : (edC m bk c i).c = c i := by unfold edC; split <;> rfl
structure EvD (m : Mp) (f : Nat → Int) (fr : Int) : Prop where
  r : ∀ e ∈ edgC m false (rdC m f), e.x < m.n.toNat ∧ e.y < m.n.toNat
  p : ∀ e ∈ edgC m false (rdC m f), 0 ≤ e.c → 1 ≤ e.c ∧ e.c ≤ 7516192768
  d : Dst (edgC m false (rdC m f)) fr.toNat m.n.toNat (bnD m f fr)
  x : Fix (edgC m false (rdC m f)) (bnD m f fr)
theorem evd {m : Mp} (h : OkM m) (f : Nat → Int) {fr : Int} (hf : 0 ≤ fr ∧ fr < m.n) : EvD m f fr := by
  obtain ⟨k1, k2⟩ := edgC_ok h false (c := rdC m f) (fun i hi => (rdC_rng h f hi).1)
  refine ⟨k1, fun e he hc => ?_, dst_dst k1 (by omega), dst_fix k1 k2 (by omega)⟩
  obtain ⟨i, hi, rfl⟩ := List.mem_map.1 he
  have hi := List.mem_range.1 hi
  have := redS_small (f := f) h (evA_le h f) hi
  rw [edC_c] at hc ⊢
  unfold rdC at hc ⊢
  by_cases q : usB m f (evL m.ws.length) i = true
  · rw [if_pos q]; omega
  · rw [if_neg q] at hc; omega
theorem most_fin {m : Mp} (h : OkM m) {f : Nat → Int} {fr to : Int} {s : List Int} {n : Int} (hf : 0 ≤ fr ∧ fr < m.n) (ht : 0 ≤ to ∧ to < m.n) (hb : bestS m f fr to = some (s, n)) : 0 ≤ gi (bnD m f fr) to.toNat ∧ gi (bnD m f fr) to.toNat ≤ 481036337152 := by
  have D := evd h f hf
  have hn := h.n
  obtain ⟨_, b2, b3, _⟩ := best_some hb
  obtain ⟨c1, c2⟩ := dL_dst h f s true ht
  unfold okS dL at b3
  rw [decide_eq_true_eq] at b3
  rcases c1.ach fr.toNat (by omega) with h3 | ⟨_, h3⟩
  · have h3 : gi (dstC m true (cU m f s) to) fr.toNat = 1125899906842624 := h3
    omega
  · have h4 := h3.rev
    have h5 := reach_fin D.r (M := 7516192768) (by omega) (by show _ < (1125899906842624 : Int); omega) D.p D.d D.x (fun e he hc => by
      obtain ⟨i, hi, rfl, hu⟩ := edge_us he hc
      refine ⟨edC m false (rdC m f) i, List.mem_map.2 ⟨i, List.mem_range.2 hi, rfl⟩, rfl, rfl, ?_⟩
      have hu2 := usB_mono (srt_ev b2) hu
      have := redS_small (f := f) h (evA_le h f) hi
      rw [edC_c]
      unfold rdC
      rw [if_pos hu2]; omega) h4
    have h6 := dist_bound2 D.r (M := 7516192768) (by omega) D.p D.d D.x m.n.toNat to.toNat (rk_le _ _ _) (by omega) h5
    have h7 := (D.d.le (y := to.toNat) (by omega)).1
    omega
theorem bnH_at {m : Mp} (h : OkM m) (f : Nat → Int) {fr : Int} (to : Int) (hf : 0 ≤ fr ∧ fr < m.n) {i : Nat} (hi : i < m.n.toNat) : gi (bnH m f fr to) i = min (gi (bnD m f fr) i) (gi (bnD m f fr) to.toNat) := by
  have D := evd h f hf
  have hl := D.d.len
  unfold bnH mnL
  rw [List.take_of_length_le (by omega), List.drop_of_length_le (by omega), List.append_nil]
  simp [gi, List.getD, hl, hi]
theorem even_right {m : Mp} (h : OkM m) {f : Nat → Int} {fr to : Int} {s : List Int} {n : Int} (hf : 0 ≤ fr ∧ fr < m.n) (ht : 0 ≤ to ∧ to < m.n) (hb : bestS m f fr to = some (s, n)) : rgtB m f (evA m f m.ws.length) (bnH m f fr to) = true := by
  have D := evd h f hf
  have hm := most_fin h hf ht hb
  refine rgt_yes (fun i hi => ?_) (fun w hw => ?_) (fun i hi => ?_) (fun i hi => ?_)
  · unfold okP
    rw [evA_dup m f _ i hi, Bool.not_false, Bool.and_true, prtB_iff]
    have hmem : (evA m f m.ws.length).getD i dP ∈ evA m f m.ws.length := getD_mem' dP _ i hi
    obtain ⟨w, r, k, e⟩ := evA_mem hmem
    have hq := evQ_rng h f e.lw
    have lw := e.lw; have lr := e.lr; have lk := e.lk
    rw [e.e]
    exact ⟨by show 0 ≤ (w : Int) ∧ (w : Int) < _; omega, by show 0 ≤ (r : Int) ∧ (r : Int) < _; omega, by show 0 ≤ (k : Int) ∧ (k : Int) ≤ 5; omega, hq, e.l, e.h⟩
  · unfold spW
    rw [spW_sF, spW_even, if_pos hw]
    have hc := (workB_ok (h.w w hw)).c
    unfold evQ
    have := Int.mul_ediv_self_le (x := (gw m w).c) (k := ((hlW m f w m.rs.length).length : Int))
    by_cases z : ((hlW m f w m.rs.length).length : Int) = 0
    · rw [z, Int.zero_mul]; omega
    · have := this z; omega
  · have hl := (D.d.le hi).1
    rw [bnH_at h f to hf hi]
    unfold hgB
    rw [decide_eq_true_eq]
    omega
  · have ok := roadB_ok (h.r i hi)
    have hft := ok.f; have htt := ok.t
    unfold rdOK
    rw [Bool.not_eq_true', Bool.and_eq_false_iff, decide_eq_false_iff_not]
    by_cases hu : usB m f (evL m.ws.length) i = true
    · right
      rw [bnH_at h f to hf (by omega), bnH_at h f to hf (by omega)]
      have hrd := redS_small (f := f) h (evA_le h f) hi
      have hc : rdC m f i = redS m f (evA m f m.ws.length) i 6 := by unfold rdC; rw [if_pos hu]
      have hfx := D.x (edC m false (rdC m f) i) (List.mem_map.2 ⟨i, List.mem_range.2 hi, rfl⟩) (by rw [edC_c, hc]; omega)
      have ex : (edC m false (rdC m f) i).x = (gr m i).f.toNat := rfl
      have ey : (edC m false (rdC m f) i).y = (gr m i).t.toNat := rfl
      rw [ex, ey, edC_c, hc] at hfx
      have hfx : gi (bnD m f fr) (gr m i).f.toNat < 1125899906842624 → _ := hfx
      omega
    · left; rw [← Bool.not_eq_true]; exact hu
theorem even_worth {m : Mp} (h : OkM m) {f : Nat → Int} {fr to : Int} (hf : 0 ≤ fr ∧ fr < m.n) (ht : 0 ≤ to ∧ to < m.n) {s : List Int} {n : Int} (hb : bestS m f fr to = some (s, n)) : gi (bnH m f fr to) to.toNat - gi (bnH m f fr to) fr.toNat = gi (bnD m f fr) to.toNat := by
  have D := evd h f hf
  have hm := most_fin h hf ht hb
  rw [bnH_at h f to hf (by omega), bnH_at h f to hf (by omega), D.d.src]
  omega
end Go.Proofs.YtcfomfajpmlleaaGreat.R

