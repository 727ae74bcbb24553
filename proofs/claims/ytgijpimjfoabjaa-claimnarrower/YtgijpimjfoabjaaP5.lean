/- ClaimNarrower: with narrower bands about a history that fits, or with one more reading of it, the statement about the verdicts holds, for every argument that the statement allows. -/
import Derived.Test.YtgijpimjfoabjaaP4
import Derived.Test.YtgijpimjfoabjaaRows
import Derived.ShutString
/- Narrower logs: the plain law. -/
namespace Go.Proofs.Ytgijpimjfoabjaa
open Go Sy
set_option maxRecDepth 100000
set_option linter.unusedVariables false
theorem Fit.far {l : Log} {h : Hist} (f : Fit l h) {k : Nat} (hk : k < 4) : ∀ (d m : Nat), m + d < mins l → vAt h m k - drift l k * d ≤ vAt h (m + d) k ∧ vAt h (m + d) k ≤ vAt h m k + drift l k * d
  | 0, m, _ => by simp
  | d + 1, m, hd => by
    have h1 := f.far hk d m (by omega)
    have h2 := f.vst (m + d) k hd hk
    have h3 : drift l k * ((d + 1 : Nat) : Int) = drift l k * d + drift l k := by rw [Int.natCast_add, Int.mul_add]; simp
    have e : m + (d + 1) = m + d + 1 := by omega
    rw [h3, e]
    unfold vAt at *
    omega
/-- a log about a history that fits the other one, and within its bands -/
structure Nar (l x : Log) (H : Hist) : Prop where
  dr : ∀ k, drift x k = drift l k
  g : Good x
  s : t0 x = t0 l
  e : tn x = tn l
  pin : ∀ r ∈ x.rs, r.place.lo ≤ H.pl.getD (r.at_ - t0 l).toNat 0 ∧ H.pl.getD (r.at_ - t0 l).toNat 0 ≤ r.place.hi
  vin : ∀ r ∈ x.rs, ∀ k, k < 4 → (vals r k).lo ≤ vAt H (r.at_ - t0 l).toNat k ∧ vAt H (r.at_ - t0 l).toNat k ≤ (vals r k).hi
  sub : ∀ r ∈ l.rs, ∃ r' ∈ x.rs, r'.at_ = r.at_ ∧ (r.place.lo ≤ r'.place.lo ∧ r'.place.hi ≤ r.place.hi) ∧ ∀ k, k < 4 → (vals r k).lo ≤ (vals r' k).lo ∧ (vals r' k).hi ≤ (vals r k).hi
theorem Nar.mins {l x : Log} {H : Hist} (n : Nar l x H) : mins x = mins l := by
  unfold Go.Proofs.Ytgijpimjfoabjaa.mins; rw [n.s, n.e]
theorem at_in {l : Log} (g : Good l) {r : Reading} (hr : r ∈ l.rs) : t0 l ≤ r.at_ ∧ r.at_ ≤ tn l := by
  obtain ⟨i, hi, rfl⟩ := rd_mem hr
  exact ⟨g.mono i 0 (by omega) hi, g.mono (l.rs.length - 1) i (by omega) (by omega)⟩
theorem Nar.in_ {l x : Log} {H : Hist} (n : Nar l x H) (g : Good l) (f : Fit l H) {m : Nat} (hm : m < Go.Proofs.Ytgijpimjfoabjaa.mins l) :
    ((plS x m).lo ≤ H.pl.getD m 0 ∧ H.pl.getD m 0 ≤ (plS x m).hi) ∧ ∀ k, k < 4 → (vlS x k m).lo ≤ vAt H m k ∧ vAt H m k ≤ (vlS x k m).hi := by
  have hmx : m < Go.Proofs.Ytgijpimjfoabjaa.mins x := by rw [n.mins]; exact hm
  have hb := pl_bound g hm
  have hp := f.pin m hm
  have hat : ∀ r ∈ x.rs, t0 l ≤ r.at_ ∧ (r.at_ - t0 l).toNat < Go.Proofs.Ytgijpimjfoabjaa.mins l := fun r hr => by
    have := at_in n.g hr
    rw [n.s, n.e] at this
    unfold Go.Proofs.Ytgijpimjfoabjaa.mins
    omega
  refine ⟨⟨?_, ?_⟩, fun k hk => ⟨?_, ?_⟩⟩
  · unfold plS cplace
    rw [n.s]
    refine pLo_le _ _ (by omega) fun r hr ht => ?_
    have h1 := (n.pin r hr).1
    have h2 := hat r hr
    have h3 := f.mono (i := (r.at_ - t0 l).toNat) (j := m) (by omega) hm
    omega
  · unfold plS cplace
    rw [n.s]
    refine pHi_ge _ _ (by omega) fun r hr ht => ?_
    have h1 := (n.pin r hr).2
    have h2 := hat r hr
    have h3 := f.mono (i := m) (j := (r.at_ - t0 l).toNat) (by omega) h2.2
    omega
  · refine vlS_lo_le n.g hk hmx fun r hr => ?_
    have h1 := (n.vin r hr k hk).1
    have h2 := hat r hr
    rw [n.dr, n.s]
    generalize ha : (r.at_ - t0 l).toNat = a at *
    by_cases hc : a ≤ m
    · have h3 := (f.far hk (m - a) a (by omega)).1
      rw [show a + (m - a) = m by omega] at h3
      rw [show away r (t0 l + m) = ((m - a : Nat) : Int) by unfold away; omega]
      omega
    · have h3 := (f.far hk (a - m) m (by omega)).2
      rw [show m + (a - m) = a by omega] at h3
      rw [show away r (t0 l + m) = ((a - m : Nat) : Int) by unfold away; omega]
      omega
  · refine vlS_hi_ge n.g hk hmx fun r hr => ?_
    have h1 := (n.vin r hr k hk).2
    have h2 := hat r hr
    rw [n.dr, n.s]
    generalize ha : (r.at_ - t0 l).toNat = a at *
    by_cases hc : a ≤ m
    · have h3 := (f.far hk (m - a) a (by omega)).2
      rw [show a + (m - a) = m by omega] at h3
      rw [show away r (t0 l + m) = ((m - a : Nat) : Int) by unfold away; omega]
      omega
    · have h3 := (f.far hk (a - m) m (by omega)).1
      rw [show m + (a - m) = a by omega] at h3
      rw [show away r (t0 l + m) = ((a - m : Nat) : Int) by unfold away; omega]
      omega
theorem cchk_of {x : Log} (g : Good x) (h : ∀ m, m < mins x → (plS x m).lo ≤ (plS x m).hi ∧ ∀ k, k < 4 → (vlS x k m).lo ≤ (vlS x k m).hi) : cchk x = 0 := by
  have h2 := g.n2
  have h64 := g.n64
  have hs := g.span
  have hD : okD4 x = true := all_range.2 fun k hk => by have := g.dr k hk; simpa using this
  have hR : (List.range x.rs.length).all (okR x) = true := all_range.2 fun i hi => by
    have h1 := g.at0 i hi
    have h3 := g.pl i hi
    have h4 : ((List.range 4).all fun k => okBand (vals (rd x i) k)) = true := all_range.2 fun k hk => g.vl i k hi hk
    have h5 : 0 < i → (rd x (i - 1)).at_ < (rd x i).at_ := fun hp => by
      have := g.inc (i - 1) (by omega)
      rw [show i - 1 + 1 = i by omega] at this
      exact this
    simp only [okR, Bool.and_eq_true, Bool.not_eq_true', Bool.and_eq_false_iff, decide_eq_true_eq, decide_eq_false_iff_not]
    refine ⟨⟨⟨h1, ?_⟩, h3⟩, h4⟩
    by_cases hp : 0 < i
    · have := h5 hp
      exact .inr (by omega)
    · exact .inl hp
  have hP : okB (fun i => cplace x (t0 x + i)) (mins x) = true := all_range.2 fun i hi => decide_eq_true (h i hi).1
  have hV : ((List.range 4).all fun k => okB (fun i => cvalue x k (t0 x + i)) (mins x)) = true := all_range.2 fun k hk => all_range.2 fun i hi => decide_eq_true ((h i hi).2 k hk)
  unfold cchk
  rw [if_neg (by omega), if_neg (by omega), hD, if_neg (by simp), hR, if_neg (by simp), if_neg (by omega), hP, if_neg (by simp), hV, if_neg (by simp)]
theorem Nar.chk {l x : Log} {H : Hist} (n : Nar l x H) (g : Good l) (f : Fit l H) : cchk x = 0 :=
  cchk_of n.g fun m hm => by
    have := n.in_ g f (by rw [← n.mins]; exact hm)
    exact ⟨by omega, fun k hk => by have := this.2 k hk; omega⟩
theorem Nar.fit {l x : Log} {H h : Hist} (n : Nar l x H) (g : Good l) (f : Fit x h) : Fit l h := by
  have e := n.mins
  refine ⟨by rw [f.np, e], by rw [f.nv, e], fun m hm => ?_, fun m hm => f.pup m (by omega), fun m k hm hk => ?_, fun m k hm hk => by have := f.vst m k (by omega) hk; rw [n.dr] at this; exact this⟩
  · have hp := f.pin m (by omega)
    have hb := pl_bound n.g (m := m) (by omega)
    have h1 : (plS l m).lo ≤ (plS x m).lo := by
      refine pLo_le _ _ (by omega) fun r hr ht => ?_
      obtain ⟨r', hr', h1, h2, _⟩ := n.sub r hr
      have := pLo_mem (t := t0 x + m) (r := r') (by rw [n.s]; omega) x.rs (-1073741824) hr'
      change r'.place.lo ≤ (plS x m).lo at this
      omega
    have h2 : (plS x m).hi ≤ (plS l m).hi := by
      refine pHi_ge _ _ (by omega) fun r hr ht => ?_
      obtain ⟨r', hr', h1, h2, _⟩ := n.sub r hr
      have := pHi_mem (t := t0 x + m) (r := r') (by rw [n.s]; omega) x.rs 1073741824 hr'
      change (plS x m).hi ≤ r'.place.hi at this
      omega
    omega
  · have hv := f.vin m k (by omega) hk
    have h1 : (vlS l k m).lo ≤ (vlS x k m).lo := vlS_lo_le g hk hm fun r hr => by
      obtain ⟨r', hr', h1, _, h2⟩ := n.sub r hr
      have := vlS_lo_ge n.g hk (m := m) (by omega) hr'
      rw [n.dr, n.s, show away r' (t0 l + m) = away r (t0 l + m) by unfold away; rw [h1]] at this
      have := h2 k hk
      omega
    have h2 : (vlS x k m).hi ≤ (vlS l k m).hi := vlS_hi_ge g hk hm fun r hr => by
      obtain ⟨r', hr', h1, _, h2⟩ := n.sub r hr
      have := vlS_hi_le n.g hk (m := m) (by omega) hr'
      rw [n.dr, n.s, show away r' (t0 l + m) = away r (t0 l + m) by unfold away; rw [h1]] at this
      have := h2 k hk
      omega
    omega
theorem Nar.dam {l x : Log} {H h : Hist} (n : Nar l x H) (c : Clm) : Dam x c h ↔ Dam l c h := by
  unfold Dam
  rw [n.mins, n.s]
theorem Nar.ver {l x : Log} {H : Hist} {c : Clm} (n : Nar l x H) (hc : cchk l = 0) (ok : OkC c) (f : Fit l H) : (verR l c = 1 → verR x c = 1) ∧ (verR l c = 2 → verR x c = 2) := by
  have g := (good_of_cchk hc).1
  have hx := n.chk g f
  exact ⟨fun h => (proven_iff hx ok).2 fun h' f' => (n.dam c).2 ((proven_iff hc ok).1 h h' (n.fit g f')),
    fun h => (excluded_iff hx ok).2 fun h' f' => fun d => (excluded_iff hc ok).1 h h' (n.fit g f') ((n.dam c).1 d)⟩
theorem verR_three (l : Log) (c : Clm) : verR l c = 0 ∨ verR l c = 1 ∨ verR l c = 2 := by
  unfold verR verF
  split
  · simp
  · split <;> simp
/-- what a history says at a reading -/
theorem Fit.rd_in {l : Log} {H : Hist} (f : Fit l H) (g : Good l) {r : Reading} (hr : r ∈ l.rs) :
    (r.place.lo ≤ H.pl.getD (r.at_ - t0 l).toNat 0 ∧ H.pl.getD (r.at_ - t0 l).toNat 0 ≤ r.place.hi) ∧ ∀ k, k < 4 → (vals r k).lo ≤ vAt H (r.at_ - t0 l).toNat k ∧ vAt H (r.at_ - t0 l).toNat k ≤ (vals r k).hi := by
  have ha := at_in g hr
  obtain ⟨a, he⟩ : ∃ a : Nat, r.at_ = t0 l + a := ⟨(r.at_ - t0 l).toNat, by omega⟩
  have hm : a < mins l := by unfold mins; omega
  rw [show (r.at_ - t0 l).toNat = a by omega]
  have hp := f.pin a hm
  have h1 : r.place.lo ≤ (plS l a).lo := pLo_mem (t := t0 l + a) (by omega) _ _ hr
  have h2 : (plS l a).hi ≤ r.place.hi := pHi_mem (t := t0 l + a) (by omega) _ _ hr
  refine ⟨by omega, fun k hk => ?_⟩
  have hv := f.vin a k hm hk
  have h3 := vlS_lo_ge g hk hm hr
  have h4 := vlS_hi_le g hk hm hr
  rw [show away r (t0 l + a) = 0 by unfold away; omega] at h3 h4
  unfold vAt
  omega
def narF (b : Band) (x p q : Int) : Band := ⟨b.lo + ((x - b.lo) * p).tdiv 255, b.hi - ((b.hi - x) * q).tdiv 255⟩
theorem part_le {d p : Int} (hd : 0 ≤ d) (hp : 0 ≤ p ∧ p ≤ 255) : 0 ≤ (d * p).tdiv 255 ∧ (d * p).tdiv 255 ≤ d := by
  have h1 : 0 ≤ d * p := Int.mul_nonneg hd hp.1
  have h2 : d * p ≤ d * 255 := Int.mul_le_mul_of_nonneg_left hp.2 hd
  rw [Int.tdiv_eq_ediv_of_nonneg h1]
  omega
theorem nar_in {b : Band} {x p q : Int} (h : b.lo ≤ x ∧ x ≤ b.hi) (hp : 0 ≤ p ∧ p ≤ 255) (hq : 0 ≤ q ∧ q ≤ 255) : b.lo ≤ (narF b x p q).lo ∧ (narF b x p q).lo ≤ x ∧ x ≤ (narF b x p q).hi ∧ (narF b x p q).hi ≤ b.hi := by
  have h1 := part_le (d := x - b.lo) (by omega) hp
  have h2 := part_le (d := b.hi - x) (by omega) hq
  simp only [narF]
  omega
def nrR (r : Reading) (H : Hist) (m : Nat) (p q : Int) (j : Nat) : Reading :=
  ⟨r.at_, narF r.place (H.pl.getD m 0) p q, if 0 < j then narF r.v0 (vAt H m 0) p q else r.v0, if 1 < j then narF r.v1 (vAt H m 1) p q else r.v1, if 2 < j then narF r.v2 (vAt H m 2) p q else r.v2, if 3 < j then narF r.v3 (vAt H m 3) p q else r.v3⟩
theorem nrR_vals (r : Reading) (H : Hist) (m : Nat) (p q : Int) {k : Nat} (hk : k < 4) : vals (nrR r H m p q 4) k = narF (vals r k) (vAt H m k) p q := by
  rcases k with _ | _ | _ | _ | k <;> first | rfl | omega
def narX (l : Log) (H : Hist) (i : Nat) (p q : Int) : Log := { l with rs := l.rs.set i (nrR (rd l i) H ((rd l i).at_ - t0 l).toNat p q 4) }
theorem rd_set (l : Log) (i : Nat) (r : Reading) (hi : i < l.rs.length) (j : Nat) : rd { l with rs := l.rs.set i r } j = if j = i then r else rd l j := by
  simp only [rd, List.getD_eq_getElem?_getD, List.getElem?_set]
  by_cases h : j = i
  · subst h; simp [hi]
  · rw [if_neg (fun e => h e.symm), if_neg h]
theorem okBand_of {b c : Band} (h : okBand b = true) (h1 : b.lo ≤ c.lo) (h2 : c.lo ≤ c.hi) (h3 : c.hi ≤ b.hi) : okBand c = true := by
  rw [okBand_iff] at *
  omega
theorem narX_nar {l : Log} {H : Hist} {i : Nat} {p q : Int} (g : Good l) (f : Fit l H) (hi : i < l.rs.length) (hp : 0 ≤ p ∧ p ≤ 255) (hq : 0 ≤ q ∧ q ≤ 255) : Nar l (narX l H i p q) H := by
  have hr := f.rd_in g (mem_rd hi)
  have hn1 := nar_in hr.1 hp hq
  have hn2 := fun k hk => nar_in (hr.2 k hk) hp hq
  have hrd : ∀ j, rd (narX l H i p q) j = if j = i then nrR (rd l i) H ((rd l i).at_ - t0 l).toNat p q 4 else rd l j := rd_set l i _ hi
  have hat : ∀ j, (rd (narX l H i p q) j).at_ = (rd l j).at_ := fun j => by
    rw [hrd]; split
    · rename_i h; rw [h]; rfl
    · rfl
  have hlen : (narX l H i p q).rs.length = l.rs.length := by simp [narX]
  have hs : t0 (narX l H i p q) = t0 l := hat 0
  have he : tn (narX l H i p q) = tn l := by unfold tn; rw [hlen]; exact hat _
  have hmem : ∀ r ∈ (narX l H i p q).rs, r = nrR (rd l i) H ((rd l i).at_ - t0 l).toNat p q 4 ∨ r ∈ l.rs := fun r h => by
    rcases List.mem_or_eq_of_mem_set h with h | h
    · exact .inr h
    · exact .inl h
  refine ⟨fun k => rfl, ⟨by rw [hlen]; exact g.n2, by rw [hlen]; exact g.n64, fun j hj => by rw [hat]; exact g.at0 j (by omega), fun j hj => by rw [hat, hat]; exact g.inc j (by omega), fun j hj => ?_, fun j k hj hk => ?_, by rw [hs, he]; exact g.span, g.dr⟩, hs, he, fun r h => ?_, fun r h k hk => ?_, fun r h => ?_⟩
  · rw [hrd]; split
    · exact okBand_of (g.pl i hi) hn1.1 (by have := hn1; simp only [nrR]; omega) hn1.2.2.2
    · exact g.pl j (by omega)
  · rw [hrd]; split
    · have := hn2 k hk
      rw [nrR_vals _ _ _ _ _ hk]
      exact okBand_of (g.vl i k hi hk) this.1 (by omega) this.2.2.2
    · exact g.vl j k (by omega) hk
  · rcases hmem r h with rfl | h
    · exact hn1.2.imp id (fun h => h.1)
    · exact (f.rd_in g h).1
  · rcases hmem r h with rfl | h
    · rw [nrR_vals _ _ _ _ _ hk]
      exact (hn2 k hk).2.imp id (fun h => h.1)
    · exact (f.rd_in g h).2 k hk
  · obtain ⟨j, hj, rfl⟩ := rd_mem h
    refine ⟨rd (narX l H i p q) j, mem_rd (by rw [hlen]; exact hj), hat j, ?_⟩
    rw [hrd]
    by_cases e : j = i
    · subst e
      rw [if_pos rfl]
      refine ⟨⟨hn1.1, hn1.2.2.2⟩, fun k hk => ?_⟩
      rw [nrR_vals _ _ _ _ _ hk]
      exact ⟨(hn2 k hk).1, (hn2 k hk).2.2.2⟩
    · rw [if_neg e]
      exact ⟨⟨Int.le_refl _, Int.le_refl _⟩, fun k hk => ⟨Int.le_refl _, Int.le_refl _⟩⟩
/-- one more reading -/
def oneR (l : Log) (H : Hist) (i m : Nat) (p q : Int) (j : Nat) : Reading :=
  ⟨(rd l i).at_ + 1, narF (plS l m) (H.pl.getD m 0) p q, if 0 < j then narF (vlS l 0 m) (vAt H m 0) p q else dB, if 1 < j then narF (vlS l 1 m) (vAt H m 1) p q else dB, if 2 < j then narF (vlS l 2 m) (vAt H m 2) p q else dB, if 3 < j then narF (vlS l 3 m) (vAt H m 3) p q else dB⟩
theorem oneR_vals (l : Log) (H : Hist) (i m : Nat) (p q : Int) {k : Nat} (hk : k < 4) : vals (oneR l H i m p q 4) k = narF (vlS l k m) (vAt H m k) p q := by
  rcases k with _ | _ | _ | _ | k <;> first | rfl | omega
def narY (l : Log) (H : Hist) (i : Nat) (p q : Int) : Log := { l with rs := l.rs.take (i + 1) ++ [oneR l H i (((rd l i).at_ - t0 l).toNat + 1) p q 4] ++ l.rs.drop (i + 1) }
theorem rd_ins (l : Log) (i : Nat) (r : Reading) (hi : i < l.rs.length) (j : Nat) : rd { l with rs := l.rs.take (i + 1) ++ [r] ++ l.rs.drop (i + 1) } j = if j ≤ i then rd l j else if j = i + 1 then r else rd l (j - 1) := by
  have h1 : (l.rs.take (i + 1)).length = i + 1 := by simp; omega
  simp only [rd, List.getD_eq_getElem?_getD]
  by_cases a : j ≤ i
  · rw [if_pos a, List.append_assoc, List.getElem?_append_left (by omega), List.getElem?_take_of_lt (by omega)]
  · rw [if_neg a, List.append_assoc, List.getElem?_append_right (by omega), h1]
    by_cases b : j = i + 1
    · rw [if_pos b, b]; simp
    · rw [if_neg b, List.getElem?_append_right (by simp; omega), List.getElem?_drop]
      simp only [List.length_singleton]
      rw [show i + 1 + (j - (i + 1) - 1) = j - 1 by omega]
theorem narY_nar {l : Log} {H : Hist} {i : Nat} {p q : Int} (g : Good l) (f : Fit l H) (hi : i + 1 < l.rs.length) (hgap : (rd l (i + 1)).at_ ≠ (rd l i).at_ + 1) (h64 : l.rs.length ≠ 64) (hp : 0 ≤ p ∧ p ≤ 255) (hq : 0 ≤ q ∧ q ≤ 255)
    (hb : ∀ k, k < 4 → -1073741824 ≤ (vals (oneR l H i (((rd l i).at_ - t0 l).toNat + 1) p q 4) k).lo ∧ (vals (oneR l H i (((rd l i).at_ - t0 l).toNat + 1) p q 4) k).hi ≤ 1073741824) : Nar l (narY l H i p q) H := by
  have hinc := g.inc i hi
  have hai := at_in g (mem_rd (l := l) (i := i) (by omega))
  have hai2 := at_in g (mem_rd hi)
  have h64' := g.n64
  have h2 := g.n2
  generalize ha : ((rd l i).at_ - t0 l).toNat = a at *
  have hm : a + 1 < mins l := by unfold mins; omega
  have hn1 := nar_in (f.pin (a + 1) hm) hp hq
  have hn2 := fun k hk => nar_in (f.vin (a + 1) k hm hk) hp hq
  have hpb := pl_bound g hm
  have hrd : ∀ j, rd (narY l H i p q) j = if j ≤ i then rd l j else if j = i + 1 then oneR l H i (a + 1) p q 4 else rd l (j - 1) := fun j => by
    have := rd_ins l i (oneR l H i (a + 1) p q 4) (by omega) j
    rw [← this, narY, ha]
  have hlen : (narY l H i p q).rs.length = l.rs.length + 1 := by simp [narY]; omega
  have hs : t0 (narY l H i p q) = t0 l := by unfold t0; rw [hrd, if_pos (by omega)]
  have he : tn (narY l H i p q) = tn l := by unfold tn; rw [hlen, hrd, if_neg (by omega), if_neg (by omega)]; rfl
  have hmem : ∀ r ∈ (narY l H i p q).rs, r = oneR l H i (a + 1) p q 4 ∨ r ∈ l.rs := fun r h => by
    obtain ⟨j, hj, rfl⟩ := rd_mem h
    rw [hrd]
    split
    · exact .inr (mem_rd (by omega))
    · split
      · exact .inl rfl
      · exact .inr (mem_rd (by omega))
  have hR : (oneR l H i (a + 1) p q 4).at_ = (rd l i).at_ + 1 := rfl
  have hI : ((oneR l H i (a + 1) p q 4).at_ - t0 l).toNat = a + 1 := by rw [hR]; omega
  refine ⟨fun k => rfl, ⟨by omega, by omega, fun j hj => ?_, fun j hj => ?_, fun j hj => ?_, fun j k hj hk => ?_, by rw [hs, he]; exact g.span, g.dr⟩, hs, he, fun r h => ?_, fun r h k hk => ?_, fun r h => ?_⟩
  · rw [hrd]
    split
    · exact g.at0 j (by omega)
    · split
      · have h1 := g.at0 i (by omega)
        have h2 := g.at0 (i + 1) (by omega)
        rw [hR]; omega
      · exact g.at0 (j - 1) (by omega)
  · rw [hrd, hrd]
    by_cases c1 : j + 1 ≤ i
    · rw [if_pos (by omega), if_pos c1]; exact g.inc j (by omega)
    · by_cases c2 : j = i
      · subst c2; rw [if_pos (by omega), if_neg (by omega), if_pos rfl, hR]; omega
      · by_cases c3 : j = i + 1
        · subst c3; rw [if_neg (by omega), if_pos rfl, if_neg (by omega), if_neg (by omega), hR, Nat.add_sub_cancel]; omega
        · rw [if_neg (by omega), if_neg (by omega), if_neg (by omega), if_neg (by omega)]
          have := g.inc (j - 1) (by omega)
          rw [show j - 1 + 1 = j by omega] at this
          rw [Nat.add_sub_cancel]
          exact this
  · rw [hrd]
    split
    · exact g.pl j (by omega)
    · split
      · rw [okBand_iff]
        simp only [oneR]
        omega
      · exact g.pl (j - 1) (by omega)
  · rw [hrd]
    split
    · exact g.vl j k (by omega) hk
    · split
      · have h1 := hn2 k hk
        have h2 := hb k hk
        rw [oneR_vals _ _ _ _ _ _ hk] at *
        rw [okBand_iff]
        unfold vAt at *
        omega
      · exact g.vl (j - 1) k (by omega) hk
  · rcases hmem r h with rfl | h
    · rw [hI]; exact hn1.2.imp id (fun h => h.1)
    · exact (f.rd_in g h).1
  · rcases hmem r h with rfl | h
    · rw [hI, oneR_vals _ _ _ _ _ _ hk]; exact (hn2 k hk).2.imp id (fun h => h.1)
    · exact (f.rd_in g h).2 k hk
  · refine ⟨r, ?_, rfl, ⟨Int.le_refl _, Int.le_refl _⟩, fun k hk => ⟨Int.le_refl _, Int.le_refl _⟩⟩
    show r ∈ l.rs.take (i + 1) ++ [_] ++ l.rs.drop (i + 1)
    have : r ∈ l.rs.take (i + 1) ++ l.rs.drop (i + 1) := by rw [List.take_append_drop]; exact h
    simp only [List.mem_append] at this ⊢
    rcases this with h | h
    · exact .inl (.inl h)
    · exact .inr h
end Go.Proofs.Ytgijpimjfoabjaa

/- ClaimNarrower: the walk. -/
namespace Go.Proofs.Ytgijpimjfoabjaa
open Go Sy
set_option maxRecDepth 100000
set_option maxHeartbeats 4000000
set_option linter.unusedVariables false
set_option linter.unusedSimpArgs false
theorem dLog (l : Log) : List.drop 1 (cLog l) = [iv l.d0, iv l.d1, iv l.d2, iv l.d3] := rfl
theorem vwC {m' : Nat → Option Blk} (c : Clm) : List.map (view m' 3) (cC c) = cC c := rfl
attribute [push_cast] dLog vwC
theorem nrR_at (r : Reading) (H : Hist) (m : Nat) (p q : Int) {k : Nat} (hk : k < 4) : vals (nrR r H m p q k) k = vals r k := by
  rcases k with _ | _ | _ | _ | k <;> first | rfl | omega
theorem nrR_set (r : Reading) (H : Hist) (m : Nat) (p q : Int) {k : Nat} (hk : k < 4) : setL (cR (nrR r H m p q k)) (3 + k * 2) (cBand (narF (vals r k) (vAt H m k) p q)) = cR (nrR r H m p q (k + 1)) := by
  rcases k with _ | _ | _ | _ | k <;> first | rfl | omega
theorem oneR_set (l : Log) (H : Hist) (i m : Nat) (p q : Int) {k : Nat} (hk : k < 4) : List.take (3 + k * 2) (cR (oneR l H i m p q k)) ++ cBand (narF (vlS l k m) (vAt H m k) p q) ++ List.drop (3 + k * 2 + 2) (cR (oneR l H i m p q k)) = cR (oneR l H i m p q (k + 1)) := by
  rcases k with _ | _ | _ | _ | k <;> first | rfl | omega
theorem oneR_at (l : Log) (H : Hist) (i m : Nat) (p q : Int) {k : Nat} (hk : k < 4) : vals (oneR l H i m p q (k + 1)) k = narF (vlS l k m) (vAt H m k) p q := by
  rcases k with _ | _ | _ | _ | k <;> first | rfl | omega
theorem getD_set {α : Type} (d : α) (l : List α) (i : Nat) (x : α) (h : i < l.length) : (l.set i x).getD i d = x := by
  simp [List.getD_eq_getElem?_getD, h]
theorem fn15 (b : Band) (x p q : Int) (hb : b.lo ≤ x ∧ x ≤ b.hi) (h1 : -1125899906842624 ≤ b.lo) (h2 : b.hi ≤ 1125899906842624) (hp : 0 ≤ p ∧ p ≤ 255) (hq : 0 ≤ q ∧ q ≤ 255) : Sy.Fn Try.prog 15 [.agg (cBand b), iv x, u8v p, u8v q] (.agg (cBand (narF b x p q))) := by
  refine Fn_of_W mixed Xt15 rfl ?_
  have e1 := part_le (d := x - b.lo) (by omega) hp
  have e2 := part_le (d := b.hi - x) (by omega) hq
  have m1 : 0 ≤ (x - b.lo) * p := Int.mul_nonneg (by omega) hp.1
  have m2 : (x - b.lo) * p ≤ (x - b.lo) * 255 := Int.mul_le_mul_of_nonneg_left hp.2 (by omega)
  have m3 : 0 ≤ (b.hi - x) * q := Int.mul_nonneg (by omega) hq.1
  have m4 : (b.hi - x) * q ≤ (b.hi - x) * 255 := Int.mul_le_mul_of_nonneg_left hq.2 (by omega)
  have w1 := wrapU8 p hp
  have w2 := wrapU8 q hq
  repeat' (first | refine WK_go ?_ | refine W_seqL ?_ | refine W_seq ?_ | (refine W_regL ?_; simp (maxSteps := 400000) (disch := omega) only [push_cast, ↓reduceIte, reduceCtorEq, Nat.reduceAdd, Nat.reduceSub, Nat.reduceEqDiff, Nat.reduceLeDiff, Nat.reduceLT, Nat.reduceBEq, Nat.reduceDiv, Nat.reduceMod, Nat.reducePow, Nat.reduceMul, Int.reduceToNat, Int.reduceLT, Int.reduceLE, w1, w2]) | refine W_block ?_ | (refine W_skip ?_; simp (maxSteps := 400000) (disch := omega) only [push_cast, ↓reduceIte, reduceCtorEq, Nat.reduceAdd, Nat.reduceSub, Nat.reduceEqDiff, Nat.reduceLeDiff, Nat.reduceLT, Nat.reduceBEq, Nat.reduceDiv, Nat.reduceMod, Nat.reducePow, Nat.reduceMul, Int.reduceToNat, Int.reduceLT, Int.reduceLE, w1, w2]) | (refine W_exit ?_; simp (maxSteps := 400000) (disch := omega) only [push_cast, ↓reduceIte, reduceCtorEq, Nat.reduceAdd, Nat.reduceSub, Nat.reduceEqDiff, Nat.reduceLeDiff, Nat.reduceLT, Nat.reduceBEq, Nat.reduceDiv, Nat.reduceMod, Nat.reducePow, Nat.reduceMul, Int.reduceToNat, Int.reduceLT, Int.reduceLE, w1, w2]) | refine And.intro (by omega) ?_ | refine And.intro (by intro hq; (try simp only [Bool.and_eq_true, Bool.or_eq_true, Bool.and_eq_false_iff, Bool.or_eq_false_iff, decide_eq_true_eq, decide_eq_false_iff_not, Bool.not_eq_true', Bool.not_eq_false', beq_iff_eq, beq_eq_false_iff_ne, ne_eq] at hq); omega) ?_ | fail)
  exact W_ret ⟨[_], ⟨⟨by simp, rfl⟩, rfl⟩, rfl⟩
theorem fn3 (l : Log) (c : Clm) (ps : List Int) (p q a : Int) (hl : l.rs.length ≤ 140737488355328) (hps : ps.length ≤ 140737488355328) (hpp : ∀ x ∈ ps, 0 ≤ x ∧ x ≤ 255) (hp : 0 ≤ p ∧ p ≤ 255) (hq : 0 ≤ q ∧ q ≤ 255) (ha : 0 ≤ a ∧ a ≤ 255) : Sy.Fn Try.prog 3 [aLog l, aC c, .sl 1 0 cU ps, u8v p, u8v q, u8v a] (bv true) := by
  refine Fn_of_W mixed Xt3 rfl ?_
  have c11 := fn11 l c hl
  by_cases hg : (!greatF l && decide (chkLog l = 0) && decide (chkC c = 0)) = true
  case neg =>
    rw [Bool.not_eq_true] at hg
    rw [hg] at c11
    repeat' (first | refine WK_go ?_ | refine W_seqL ?_ | refine W_seq ?_ | (refine W_regL ?_; simp (maxSteps := 400000) (disch := omega) only [push_cast, ↓reduceIte, reduceCtorEq, Nat.reduceAdd, Nat.reduceSub, Nat.reduceEqDiff, Nat.reduceLeDiff, Nat.reduceLT, Nat.reduceBEq, Nat.reduceDiv, Nat.reduceMod, Nat.reducePow, Nat.reduceMul, Int.reduceToNat, Int.reduceLT, Int.reduceLE]) | refine W_block ?_ | (refine W_skip ?_; simp (maxSteps := 400000) (disch := omega) only [push_cast, ↓reduceIte, reduceCtorEq, Nat.reduceAdd, Nat.reduceSub, Nat.reduceEqDiff, Nat.reduceLeDiff, Nat.reduceLT, Nat.reduceBEq, Nat.reduceDiv, Nat.reduceMod, Nat.reducePow, Nat.reduceMul, Int.reduceToNat, Int.reduceLT, Int.reduceLE]) | (refine W_exit ?_; simp (maxSteps := 400000) (disch := omega) only [push_cast, ↓reduceIte, reduceCtorEq, Nat.reduceAdd, Nat.reduceSub, Nat.reduceEqDiff, Nat.reduceLeDiff, Nat.reduceLT, Nat.reduceBEq, Nat.reduceDiv, Nat.reduceMod, Nat.reducePow, Nat.reduceMul, Int.reduceToNat, Int.reduceLT, Int.reduceLE]) | refine And.intro (by omega) ?_ | refine And.intro (by intro hq; (try simp only [Bool.and_eq_true, Bool.or_eq_true, Bool.and_eq_false_iff, Bool.or_eq_false_iff, decide_eq_true_eq, decide_eq_false_iff_not, Bool.not_eq_true', Bool.not_eq_false', beq_iff_eq, beq_eq_false_iff_ne, ne_eq] at hq); omega) ?_ | (refine CallC.now (c11) ?_; simp (maxSteps := 400000) (disch := omega) only [push_cast, ↓reduceIte, reduceCtorEq, Nat.reduceAdd, Nat.reduceSub, Nat.reduceEqDiff, Nat.reduceLeDiff, Nat.reduceLT, Nat.reduceBEq, Nat.reduceDiv, Nat.reduceMod, Nat.reducePow, Nat.reduceMul, Int.reduceToNat, Int.reduceLT, Int.reduceLE]) | fail)
    refine W_cond (by rfl) (fun _ => ?_) (fun hv => by simp at hv)
    repeat' (first | refine WK_go ?_ | refine W_seqL ?_ | refine W_seq ?_ | (refine W_regL ?_; simp (maxSteps := 400000) (disch := omega) only [push_cast, ↓reduceIte, reduceCtorEq, Nat.reduceAdd, Nat.reduceSub, Nat.reduceEqDiff, Nat.reduceLeDiff, Nat.reduceLT, Nat.reduceBEq, Nat.reduceDiv, Nat.reduceMod, Nat.reducePow, Nat.reduceMul, Int.reduceToNat, Int.reduceLT, Int.reduceLE]) | refine W_block ?_ | (refine W_skip ?_; simp (maxSteps := 400000) (disch := omega) only [push_cast, ↓reduceIte, reduceCtorEq, Nat.reduceAdd, Nat.reduceSub, Nat.reduceEqDiff, Nat.reduceLeDiff, Nat.reduceLT, Nat.reduceBEq, Nat.reduceDiv, Nat.reduceMod, Nat.reducePow, Nat.reduceMul, Int.reduceToNat, Int.reduceLT, Int.reduceLE]) | (refine W_exit ?_; simp (maxSteps := 400000) (disch := omega) only [push_cast, ↓reduceIte, reduceCtorEq, Nat.reduceAdd, Nat.reduceSub, Nat.reduceEqDiff, Nat.reduceLeDiff, Nat.reduceLT, Nat.reduceBEq, Nat.reduceDiv, Nat.reduceMod, Nat.reducePow, Nat.reduceMul, Int.reduceToNat, Int.reduceLT, Int.reduceLE]) | refine And.intro (by omega) ?_ | refine And.intro (by intro hq; (try simp only [Bool.and_eq_true, Bool.or_eq_true, Bool.and_eq_false_iff, Bool.or_eq_false_iff, decide_eq_true_eq, decide_eq_false_iff_not, Bool.not_eq_true', Bool.not_eq_false', beq_iff_eq, beq_eq_false_iff_ne, ne_eq] at hq); omega) ?_ | (refine CallC.now (fn12) ?_; simp (maxSteps := 400000) (disch := omega) only [push_cast, ↓reduceIte, reduceCtorEq, Nat.reduceAdd, Nat.reduceSub, Nat.reduceEqDiff, Nat.reduceLeDiff, Nat.reduceLT, Nat.reduceBEq, Nat.reduceDiv, Nat.reduceMod, Nat.reducePow, Nat.reduceMul, Int.reduceToNat, Int.reduceLT, Int.reduceLE]) | fail)
    exact W_ret ⟨[_], ⟨rfl, rfl⟩, rfl⟩
  rw [hg] at c11
  simp only [Bool.and_eq_true, Bool.not_eq_true', decide_eq_true_eq] at hg
  obtain ⟨⟨hg, hc⟩, hcc⟩ := hg
  rw [← chk_eq] at hc
  have ok := chkC_ok hcc
  have hlen := great_no hg
  have h3 : l.rs.length ≤ 1000000 := by omega
  have hlc : chkLC l c = 0 := by unfold chkLC; rw [if_pos hc]; exact hcc
  repeat' (first | refine WK_go ?_ | refine W_seqL ?_ | refine W_seq ?_ | (refine W_regL ?_; simp (maxSteps := 400000) (disch := omega) only [push_cast, ↓reduceIte, reduceCtorEq, Nat.reduceAdd, Nat.reduceSub, Nat.reduceEqDiff, Nat.reduceLeDiff, Nat.reduceLT, Nat.reduceBEq, Nat.reduceDiv, Nat.reduceMod, Nat.reducePow, Nat.reduceMul, Int.reduceToNat, Int.reduceLT, Int.reduceLE]) | refine W_block ?_ | (refine W_skip ?_; simp (maxSteps := 400000) (disch := omega) only [push_cast, ↓reduceIte, reduceCtorEq, Nat.reduceAdd, Nat.reduceSub, Nat.reduceEqDiff, Nat.reduceLeDiff, Nat.reduceLT, Nat.reduceBEq, Nat.reduceDiv, Nat.reduceMod, Nat.reducePow, Nat.reduceMul, Int.reduceToNat, Int.reduceLT, Int.reduceLE]) | (refine W_exit ?_; simp (maxSteps := 400000) (disch := omega) only [push_cast, ↓reduceIte, reduceCtorEq, Nat.reduceAdd, Nat.reduceSub, Nat.reduceEqDiff, Nat.reduceLeDiff, Nat.reduceLT, Nat.reduceBEq, Nat.reduceDiv, Nat.reduceMod, Nat.reducePow, Nat.reduceMul, Int.reduceToNat, Int.reduceLT, Int.reduceLE]) | refine And.intro (by omega) ?_ | refine And.intro (by intro hq; (try simp only [Bool.and_eq_true, Bool.or_eq_true, Bool.and_eq_false_iff, Bool.or_eq_false_iff, decide_eq_true_eq, decide_eq_false_iff_not, Bool.not_eq_true', Bool.not_eq_false', beq_iff_eq, beq_eq_false_iff_ne, ne_eq] at hq); omega) ?_ | (refine CallC.now (c11) ?_; simp (maxSteps := 400000) (disch := omega) only [push_cast, ↓reduceIte, reduceCtorEq, Nat.reduceAdd, Nat.reduceSub, Nat.reduceEqDiff, Nat.reduceLeDiff, Nat.reduceLT, Nat.reduceBEq, Nat.reduceDiv, Nat.reduceMod, Nat.reducePow, Nat.reduceMul, Int.reduceToNat, Int.reduceLT, Int.reduceLE]) | fail)
  refine W_cond (by rfl) (fun _ => ?_) (fun hv => ?_)
  · repeat' (first | refine WK_go ?_ | refine W_seqL ?_ | refine W_seq ?_ | (refine W_regL ?_; simp (maxSteps := 400000) (disch := omega) only [push_cast, ↓reduceIte, reduceCtorEq, Nat.reduceAdd, Nat.reduceSub, Nat.reduceEqDiff, Nat.reduceLeDiff, Nat.reduceLT, Nat.reduceBEq, Nat.reduceDiv, Nat.reduceMod, Nat.reducePow, Nat.reduceMul, Int.reduceToNat, Int.reduceLT, Int.reduceLE]) | refine W_block ?_ | (refine W_skip ?_; simp (maxSteps := 400000) (disch := omega) only [push_cast, ↓reduceIte, reduceCtorEq, Nat.reduceAdd, Nat.reduceSub, Nat.reduceEqDiff, Nat.reduceLeDiff, Nat.reduceLT, Nat.reduceBEq, Nat.reduceDiv, Nat.reduceMod, Nat.reducePow, Nat.reduceMul, Int.reduceToNat, Int.reduceLT, Int.reduceLE]) | (refine W_exit ?_; simp (maxSteps := 400000) (disch := omega) only [push_cast, ↓reduceIte, reduceCtorEq, Nat.reduceAdd, Nat.reduceSub, Nat.reduceEqDiff, Nat.reduceLeDiff, Nat.reduceLT, Nat.reduceBEq, Nat.reduceDiv, Nat.reduceMod, Nat.reducePow, Nat.reduceMul, Int.reduceToNat, Int.reduceLT, Int.reduceLE]) | refine And.intro (by omega) ?_ | refine And.intro (by intro hq; (try simp only [Bool.and_eq_true, Bool.or_eq_true, Bool.and_eq_false_iff, Bool.or_eq_false_iff, decide_eq_true_eq, decide_eq_false_iff_not, Bool.not_eq_true', Bool.not_eq_false', beq_iff_eq, beq_eq_false_iff_ne, ne_eq] at hq); omega) ?_ | (refine CallC.now (fn12) ?_; simp (maxSteps := 400000) (disch := omega) only [push_cast, ↓reduceIte, reduceCtorEq, Nat.reduceAdd, Nat.reduceSub, Nat.reduceEqDiff, Nat.reduceLeDiff, Nat.reduceLT, Nat.reduceBEq, Nat.reduceDiv, Nat.reduceMod, Nat.reducePow, Nat.reduceMul, Int.reduceToNat, Int.reduceLT, Int.reduceLE]) | fail)
    exact W_ret ⟨[_], ⟨rfl, rfl⟩, rfl⟩
  simp only [Bool.or_eq_false_iff, decide_eq_false_iff_not] at hv
  have hps2 : ps.length ≤ 2000 := by omega
  have g := (good_of_cchk hc).1
  have hmm := mins_pos g
  have c13 := fn13 l ps h3 hc hpp
  have c14 := fn14 l c h3
  rw [hlc, if_pos rfl] at c14
  have hf := (hist_fit (ps := ps) hc hpp (mins l) (Nat.le_refl _)).fit
  have hn1 := hf.np
  have hn2 := hf.nv
  generalize hist l ps (mins l) = H at *
  repeat' (first | refine WK_go ?_ | refine W_seqL ?_ | refine W_seq ?_ | (refine W_regL ?_; simp (maxSteps := 400000) (disch := omega) only [push_cast, ↓reduceIte, reduceCtorEq, Nat.reduceAdd, Nat.reduceSub, Nat.reduceEqDiff, Nat.reduceLeDiff, Nat.reduceLT, Nat.reduceBEq, Nat.reduceDiv, Nat.reduceMod, Nat.reducePow, Nat.reduceMul, Int.reduceToNat, Int.reduceLT, Int.reduceLE]) | refine W_block ?_ | (refine W_skip ?_; simp (maxSteps := 400000) (disch := omega) only [push_cast, ↓reduceIte, reduceCtorEq, Nat.reduceAdd, Nat.reduceSub, Nat.reduceEqDiff, Nat.reduceLeDiff, Nat.reduceLT, Nat.reduceBEq, Nat.reduceDiv, Nat.reduceMod, Nat.reducePow, Nat.reduceMul, Int.reduceToNat, Int.reduceLT, Int.reduceLE]) | (refine W_exit ?_; simp (maxSteps := 400000) (disch := omega) only [push_cast, ↓reduceIte, reduceCtorEq, Nat.reduceAdd, Nat.reduceSub, Nat.reduceEqDiff, Nat.reduceLeDiff, Nat.reduceLT, Nat.reduceBEq, Nat.reduceDiv, Nat.reduceMod, Nat.reducePow, Nat.reduceMul, Int.reduceToNat, Int.reduceLT, Int.reduceLE]) | refine And.intro (by omega) ?_ | refine And.intro (by intro hq; (try simp only [Bool.and_eq_true, Bool.or_eq_true, Bool.and_eq_false_iff, Bool.or_eq_false_iff, decide_eq_true_eq, decide_eq_false_iff_not, Bool.not_eq_true', Bool.not_eq_false', beq_iff_eq, beq_eq_false_iff_ne, ne_eq] at hq); omega) ?_ | (refine CallC.now (c13) ?_; simp (maxSteps := 400000) (disch := omega) only [push_cast, ↓reduceIte, reduceCtorEq, Nat.reduceAdd, Nat.reduceSub, Nat.reduceEqDiff, Nat.reduceLeDiff, Nat.reduceLT, Nat.reduceBEq, Nat.reduceDiv, Nat.reduceMod, Nat.reducePow, Nat.reduceMul, Int.reduceToNat, Int.reduceLT, Int.reduceLE]) | (refine CallC.now (c14) ?_; simp (maxSteps := 400000) (disch := omega) only [push_cast, ↓reduceIte, reduceCtorEq, Nat.reduceAdd, Nat.reduceSub, Nat.reduceEqDiff, Nat.reduceLeDiff, Nat.reduceLT, Nat.reduceBEq, Nat.reduceDiv, Nat.reduceMod, Nat.reducePow, Nat.reduceMul, Int.reduceToNat, Int.reduceLT, Int.reduceLE]) | fail)
  refine ⟨rfl, trivial, Reading, dR, cR, [], rfl, by omega, fun x _ => ⟨rfl, rfl⟩, rfl, ?_⟩
  simp (maxSteps := 400000) (disch := omega) only [push_cast, ↓reduceIte, reduceCtorEq, Nat.reduceAdd, Nat.reduceSub, Nat.reduceEqDiff, Nat.reduceLeDiff, Nat.reduceLT, Nat.reduceBEq, Nat.reduceDiv, Nat.reduceMod, Nat.reducePow, Nat.reduceMul, Int.reduceToNat, Int.reduceLT, Int.reduceLE]
  refine ⟨rfl, ⟨Nat.le_of_ble_eq_true rfl, rfl⟩, trivial, l.rs, rfl, by first | omega | (simp; omega), by first | omega | (simp; omega), ?_⟩
  simp (maxSteps := 400000) (disch := omega) only [push_cast, ↓reduceIte, reduceCtorEq, Nat.reduceAdd, Nat.reduceSub, Nat.reduceEqDiff, Nat.reduceLeDiff, Nat.reduceLT, Nat.reduceBEq, Nat.reduceDiv, Nat.reduceMod, Nat.reducePow, Nat.reduceMul, Int.reduceToNat, Int.reduceLT, Int.reduceLE]
  repeat' (first | refine WK_go ?_ | refine W_seqL ?_ | refine W_seq ?_ | (refine W_regL ?_; simp (maxSteps := 400000) (disch := omega) only [push_cast, ↓reduceIte, reduceCtorEq, Nat.reduceAdd, Nat.reduceSub, Nat.reduceEqDiff, Nat.reduceLeDiff, Nat.reduceLT, Nat.reduceBEq, Nat.reduceDiv, Nat.reduceMod, Nat.reducePow, Nat.reduceMul, Int.reduceToNat, Int.reduceLT, Int.reduceLE]) | refine W_block ?_ | (refine W_skip ?_; simp (maxSteps := 400000) (disch := omega) only [push_cast, ↓reduceIte, reduceCtorEq, Nat.reduceAdd, Nat.reduceSub, Nat.reduceEqDiff, Nat.reduceLeDiff, Nat.reduceLT, Nat.reduceBEq, Nat.reduceDiv, Nat.reduceMod, Nat.reducePow, Nat.reduceMul, Int.reduceToNat, Int.reduceLT, Int.reduceLE]) | (refine W_exit ?_; simp (maxSteps := 400000) (disch := omega) only [push_cast, ↓reduceIte, reduceCtorEq, Nat.reduceAdd, Nat.reduceSub, Nat.reduceEqDiff, Nat.reduceLeDiff, Nat.reduceLT, Nat.reduceBEq, Nat.reduceDiv, Nat.reduceMod, Nat.reducePow, Nat.reduceMul, Int.reduceToNat, Int.reduceLT, Int.reduceLE]) | refine And.intro (by omega) ?_ | refine And.intro (by intro hq; (try simp only [Bool.and_eq_true, Bool.or_eq_true, Bool.and_eq_false_iff, Bool.or_eq_false_iff, decide_eq_true_eq, decide_eq_false_iff_not, Bool.not_eq_true', Bool.not_eq_false', beq_iff_eq, beq_eq_false_iff_ne, ne_eq] at hq); omega) ?_ | fail)
  have h2 := g.n2
  refine ⟨by omega, ?_⟩
  have hmo1 := Int.emod_nonneg a (show (l.rs.length : Int) ≠ 0 by omega)
  have hmo2 := Int.emod_lt_of_pos a (show (0 : Int) < l.rs.length by omega)
  rw [Int.tmod_eq_emod_of_nonneg ha.1]
  obtain ⟨i, hi, hil⟩ : ∃ i : Nat, a % (l.rs.length : Int) = i ∧ i < l.rs.length := ⟨(a % (l.rs.length : Int)).toNat, by omega, by omega⟩
  rw [hi]
  have hr : l.rs.getD i dR = rd l i := rfl
  have hr0 : l.rs.getD 0 dR = rd l 0 := rfl
  have hti := g.at0 i hil
  have ht0 := g.at0 0 (by omega)
  have hai := at_in g (mem_rd hil)
  have ht0e : (rd l 0).at_ = t0 l := rfl
  obtain ⟨m, hm⟩ : ∃ m : Nat, (rd l i).at_ - t0 l = m := ⟨((rd l i).at_ - t0 l).toNat, by omega⟩
  have hml : m < mins l := by unfold mins; omega
  have hin := hf.rd_in g (mem_rd hil)
  rw [show ((rd l i).at_ - t0 l).toNat = m by omega] at hin
  have hob := okBand_iff.1 (g.pl i hil)
  have c15 := fn15 (rd l i).place (H.pl.getD m 0) p q hin.1 (by omega) (by omega) hp hq
  repeat' (first | refine WK_go ?_ | refine W_seqL ?_ | refine W_seq ?_ | (refine W_regL ?_; simp (maxSteps := 400000) (disch := omega) only [push_cast, ↓reduceIte, reduceCtorEq, Nat.reduceAdd, Nat.reduceSub, Nat.reduceEqDiff, Nat.reduceLeDiff, Nat.reduceLT, Nat.reduceBEq, Nat.reduceDiv, Nat.reduceMod, Nat.reducePow, Nat.reduceMul, Int.reduceToNat, Int.reduceLT, Int.reduceLE, hr, hr0, ht0e, hm]) | refine W_block ?_ | (refine W_skip ?_; simp (maxSteps := 400000) (disch := omega) only [push_cast, ↓reduceIte, reduceCtorEq, Nat.reduceAdd, Nat.reduceSub, Nat.reduceEqDiff, Nat.reduceLeDiff, Nat.reduceLT, Nat.reduceBEq, Nat.reduceDiv, Nat.reduceMod, Nat.reducePow, Nat.reduceMul, Int.reduceToNat, Int.reduceLT, Int.reduceLE, hr, hr0, ht0e, hm]) | (refine W_exit ?_; simp (maxSteps := 400000) (disch := omega) only [push_cast, ↓reduceIte, reduceCtorEq, Nat.reduceAdd, Nat.reduceSub, Nat.reduceEqDiff, Nat.reduceLeDiff, Nat.reduceLT, Nat.reduceBEq, Nat.reduceDiv, Nat.reduceMod, Nat.reducePow, Nat.reduceMul, Int.reduceToNat, Int.reduceLT, Int.reduceLE, hr, hr0, ht0e, hm]) | refine And.intro (by omega) ?_ | refine And.intro (by intro hq; (try simp only [Bool.and_eq_true, Bool.or_eq_true, Bool.and_eq_false_iff, Bool.or_eq_false_iff, decide_eq_true_eq, decide_eq_false_iff_not, Bool.not_eq_true', Bool.not_eq_false', beq_iff_eq, beq_eq_false_iff_ne, ne_eq] at hq); omega) ?_ | (refine CallC.now (c15) ?_; simp (maxSteps := 400000) (disch := omega) only [push_cast, ↓reduceIte, reduceCtorEq, Nat.reduceAdd, Nat.reduceSub, Nat.reduceEqDiff, Nat.reduceLeDiff, Nat.reduceLT, Nat.reduceBEq, Nat.reduceDiv, Nat.reduceMod, Nat.reducePow, Nat.reduceMul, Int.reduceToNat, Int.reduceLT, Int.reduceLE, hr, hr0, ht0e, hm]) | fail)
  refine ⟨rfl, ⟨Nat.le_of_ble_eq_true rfl, rfl⟩, hil, nrR (rd l i) H m p q 0, rfl, rfl, ?_⟩
  simp (maxSteps := 400000) (disch := omega) only [push_cast, ↓reduceIte, reduceCtorEq, Nat.reduceAdd, Nat.reduceSub, Nat.reduceEqDiff, Nat.reduceLeDiff, Nat.reduceLT, Nat.reduceBEq, Nat.reduceDiv, Nat.reduceMod, Nat.reducePow, Nat.reduceMul, Int.reduceToNat, Int.reduceLT, Int.reduceLE]
  repeat' (first | refine WK_go ?_ | refine W_seqL ?_ | refine W_seq ?_ | (refine W_regL ?_; simp (maxSteps := 400000) (disch := omega) only [push_cast, ↓reduceIte, reduceCtorEq, Nat.reduceAdd, Nat.reduceSub, Nat.reduceEqDiff, Nat.reduceLeDiff, Nat.reduceLT, Nat.reduceBEq, Nat.reduceDiv, Nat.reduceMod, Nat.reducePow, Nat.reduceMul, Int.reduceToNat, Int.reduceLT, Int.reduceLE]) | refine W_block ?_ | (refine W_skip ?_; simp (maxSteps := 400000) (disch := omega) only [push_cast, ↓reduceIte, reduceCtorEq, Nat.reduceAdd, Nat.reduceSub, Nat.reduceEqDiff, Nat.reduceLeDiff, Nat.reduceLT, Nat.reduceBEq, Nat.reduceDiv, Nat.reduceMod, Nat.reducePow, Nat.reduceMul, Int.reduceToNat, Int.reduceLT, Int.reduceLE]) | (refine W_exit ?_; simp (maxSteps := 400000) (disch := omega) only [push_cast, ↓reduceIte, reduceCtorEq, Nat.reduceAdd, Nat.reduceSub, Nat.reduceEqDiff, Nat.reduceLeDiff, Nat.reduceLT, Nat.reduceBEq, Nat.reduceDiv, Nat.reduceMod, Nat.reducePow, Nat.reduceMul, Int.reduceToNat, Int.reduceLT, Int.reduceLE]) | refine And.intro (by omega) ?_ | refine And.intro (by intro hq; (try simp only [Bool.and_eq_true, Bool.or_eq_true, Bool.and_eq_false_iff, Bool.or_eq_false_iff, decide_eq_true_eq, decide_eq_false_iff_not, Bool.not_eq_true', Bool.not_eq_false', beq_iff_eq, beq_eq_false_iff_ne, ne_eq] at hq); omega) ?_ | fail)
  refine W_loopU (fun k : Nat => [(19, iv k)]) (fun k => [(28, .row 1 43 11 dR cR (l.rs.set i (nrR (rd l i) H m p q k)))]) (fun k => k ≤ 4) (fun k => 4 - k) 0 (by omega) (by rfl) (by rfl) (fun k hk => ?_)
  simp (maxSteps := 400000) (disch := omega) only [push_cast, ↓reduceIte, reduceCtorEq, Nat.reduceAdd, Nat.reduceSub, Nat.reduceEqDiff, Nat.reduceLeDiff, Nat.reduceLT, Nat.reduceBEq, Nat.reduceDiv, Nat.reduceMod, Nat.reducePow, Nat.reduceMul, Int.reduceToNat, Int.reduceLT, Int.reduceLE]
  repeat' (first | refine WK_go ?_ | refine W_seqL ?_ | refine W_seq ?_ | (refine W_regL ?_; simp (maxSteps := 400000) (disch := omega) only [push_cast, ↓reduceIte, reduceCtorEq, Nat.reduceAdd, Nat.reduceSub, Nat.reduceEqDiff, Nat.reduceLeDiff, Nat.reduceLT, Nat.reduceBEq, Nat.reduceDiv, Nat.reduceMod, Nat.reducePow, Nat.reduceMul, Int.reduceToNat, Int.reduceLT, Int.reduceLE]) | refine W_block ?_ | (refine W_skip ?_; simp (maxSteps := 400000) (disch := omega) only [push_cast, ↓reduceIte, reduceCtorEq, Nat.reduceAdd, Nat.reduceSub, Nat.reduceEqDiff, Nat.reduceLeDiff, Nat.reduceLT, Nat.reduceBEq, Nat.reduceDiv, Nat.reduceMod, Nat.reducePow, Nat.reduceMul, Int.reduceToNat, Int.reduceLT, Int.reduceLE]) | (refine W_exit ?_; simp (maxSteps := 400000) (disch := omega) only [push_cast, ↓reduceIte, reduceCtorEq, Nat.reduceAdd, Nat.reduceSub, Nat.reduceEqDiff, Nat.reduceLeDiff, Nat.reduceLT, Nat.reduceBEq, Nat.reduceDiv, Nat.reduceMod, Nat.reducePow, Nat.reduceMul, Int.reduceToNat, Int.reduceLT, Int.reduceLE]) | refine And.intro (by omega) ?_ | refine And.intro (by intro hq; (try simp only [Bool.and_eq_true, Bool.or_eq_true, Bool.and_eq_false_iff, Bool.or_eq_false_iff, decide_eq_true_eq, decide_eq_false_iff_not, Bool.not_eq_true', Bool.not_eq_false', beq_iff_eq, beq_eq_false_iff_ne, ne_eq] at hq); omega) ?_ | fail)
  refine W_condD (by rfl) (fun h6 => ?_) (fun h6 => ?_)
  · have hk4 : k < 4 := by omega
    have hgs := getD_set dR l.rs i (nrR (rd l i) H m p q k) hil
    have hgl : (l.rs.set i (nrR (rd l i) H m p q k)).length = l.rs.length := List.length_set ..
    have hav := nrR_at (rd l i) H m p q hk4
    have hob := okBand_iff.1 (g.vl i k hil hk4)
    have c15 := fn15 (vals (rd l i) k) (vAt H m k) p q (hin.2 k hk4) (by omega) (by omega) hp hq
    have hnv := nV (H.va.getD m dV4) k hk4
    repeat' (first | refine WK_go ?_ | refine W_seqL ?_ | refine W_seq ?_ | (refine W_regL ?_; simp (maxSteps := 400000) (disch := omega) only [push_cast, ↓reduceIte, reduceCtorEq, Nat.reduceAdd, Nat.reduceSub, Nat.reduceEqDiff, Nat.reduceLeDiff, Nat.reduceLT, Nat.reduceBEq, Nat.reduceDiv, Nat.reduceMod, Nat.reducePow, Nat.reduceMul, Int.reduceToNat, Int.reduceLT, Int.reduceLE, hgs, hgl, hav, hnv]) | refine W_block ?_ | (refine W_skip ?_; simp (maxSteps := 400000) (disch := omega) only [push_cast, ↓reduceIte, reduceCtorEq, Nat.reduceAdd, Nat.reduceSub, Nat.reduceEqDiff, Nat.reduceLeDiff, Nat.reduceLT, Nat.reduceBEq, Nat.reduceDiv, Nat.reduceMod, Nat.reducePow, Nat.reduceMul, Int.reduceToNat, Int.reduceLT, Int.reduceLE, hgs, hgl, hav, hnv]) | (refine W_exit ?_; simp (maxSteps := 400000) (disch := omega) only [push_cast, ↓reduceIte, reduceCtorEq, Nat.reduceAdd, Nat.reduceSub, Nat.reduceEqDiff, Nat.reduceLeDiff, Nat.reduceLT, Nat.reduceBEq, Nat.reduceDiv, Nat.reduceMod, Nat.reducePow, Nat.reduceMul, Int.reduceToNat, Int.reduceLT, Int.reduceLE, hgs, hgl, hav, hnv]) | refine And.intro (by omega) ?_ | refine And.intro (by intro hq; (try simp only [Bool.and_eq_true, Bool.or_eq_true, Bool.and_eq_false_iff, Bool.or_eq_false_iff, decide_eq_true_eq, decide_eq_false_iff_not, Bool.not_eq_true', Bool.not_eq_false', beq_iff_eq, beq_eq_false_iff_ne, ne_eq] at hq); omega) ?_ | (refine CallC.now (c15) ?_; simp (maxSteps := 400000) (disch := omega) only [push_cast, ↓reduceIte, reduceCtorEq, Nat.reduceAdd, Nat.reduceSub, Nat.reduceEqDiff, Nat.reduceLeDiff, Nat.reduceLT, Nat.reduceBEq, Nat.reduceDiv, Nat.reduceMod, Nat.reducePow, Nat.reduceMul, Int.reduceToNat, Int.reduceLT, Int.reduceLE, hgs, hgl, hav, hnv]) | fail)
    refine ⟨rfl, ⟨Nat.le_of_ble_eq_true rfl, rfl⟩, ⟨hil, by omega⟩, nrR (rd l i) H m p q (k + 1), by rw [hgs]; exact (nrR_set (rd l i) H m p q hk4).symm, rfl, ?_⟩
    simp (maxSteps := 400000) (disch := omega) only [push_cast, ↓reduceIte, reduceCtorEq, Nat.reduceAdd, Nat.reduceSub, Nat.reduceEqDiff, Nat.reduceLeDiff, Nat.reduceLT, Nat.reduceBEq, Nat.reduceDiv, Nat.reduceMod, Nat.reducePow, Nat.reduceMul, Int.reduceToNat, Int.reduceLT, Int.reduceLE, List.set_set]
    repeat' (first | refine WK_go ?_ | refine W_seqL ?_ | refine W_seq ?_ | (refine W_regL ?_; simp (maxSteps := 400000) (disch := omega) only [push_cast, ↓reduceIte, reduceCtorEq, Nat.reduceAdd, Nat.reduceSub, Nat.reduceEqDiff, Nat.reduceLeDiff, Nat.reduceLT, Nat.reduceBEq, Nat.reduceDiv, Nat.reduceMod, Nat.reducePow, Nat.reduceMul, Int.reduceToNat, Int.reduceLT, Int.reduceLE]) | refine W_block ?_ | (refine W_skip ?_; simp (maxSteps := 400000) (disch := omega) only [push_cast, ↓reduceIte, reduceCtorEq, Nat.reduceAdd, Nat.reduceSub, Nat.reduceEqDiff, Nat.reduceLeDiff, Nat.reduceLT, Nat.reduceBEq, Nat.reduceDiv, Nat.reduceMod, Nat.reducePow, Nat.reduceMul, Int.reduceToNat, Int.reduceLT, Int.reduceLE]) | (refine W_exit ?_; simp (maxSteps := 400000) (disch := omega) only [push_cast, ↓reduceIte, reduceCtorEq, Nat.reduceAdd, Nat.reduceSub, Nat.reduceEqDiff, Nat.reduceLeDiff, Nat.reduceLT, Nat.reduceBEq, Nat.reduceDiv, Nat.reduceMod, Nat.reducePow, Nat.reduceMul, Int.reduceToNat, Int.reduceLT, Int.reduceLE]) | refine And.intro (by omega) ?_ | refine And.intro (by intro hq; (try simp only [Bool.and_eq_true, Bool.or_eq_true, Bool.and_eq_false_iff, Bool.or_eq_false_iff, decide_eq_true_eq, decide_eq_false_iff_not, Bool.not_eq_true', Bool.not_eq_false', beq_iff_eq, beq_eq_false_iff_ne, ne_eq] at hq); omega) ?_ | fail)
    refine ⟨k + 1, by omega, by omega, by rfl, ?_⟩
    simp (maxSteps := 400000) (disch := omega) only [push_cast, ↓reduceIte, reduceCtorEq, Nat.reduceAdd, Nat.reduceSub, Nat.reduceEqDiff, Nat.reduceLeDiff, Nat.reduceLT, Nat.reduceBEq, Nat.reduceDiv, Nat.reduceMod, Nat.reducePow, Nat.reduceMul, Int.reduceToNat, Int.reduceLT, Int.reduceLE, S.mk.injEq, List.cons.injEq, Prod.mk.injEq, AV.v.injEq, Value.int.injEq, Value.bool.injEq, Blk.cells.injEq]
  obtain rfl : k = 4 := by omega
  have hX : narX l H i p q = ⟨l.rs.set i (nrR (rd l i) H m p q 4), l.d0, l.d1, l.d2, l.d3⟩ := by
    unfold narX; rw [hm]; rfl
  have nx := narX_nar (p := p) (q := q) g hf hil hp hq
  have hxc := nx.chk g hf
  have hxv := nx.ver hc ok hf
  have hxl : chkLC (narX l H i p q) c = 0 := by unfold chkLC; rw [if_pos hxc]; exact hcc
  have hlx : (narX l H i p q).rs.length = l.rs.length := by simp [narX]
  have c14x := fn14 (narX l H i p q) c (by omega)
  rw [hxl, if_pos rfl] at c14x
  rw [hX] at c14x
  generalize hv2 : verR (narX l H i p q) c = v2 at *
  rw [hX] at hv2
  rw [hv2] at c14x
  have hvc := verR_three l c
  repeat' (first | refine WK_go ?_ | refine W_seqL ?_ | refine W_seq ?_ | (refine W_regL ?_; simp (maxSteps := 400000) (disch := omega) only [push_cast, ↓reduceIte, reduceCtorEq, Nat.reduceAdd, Nat.reduceSub, Nat.reduceEqDiff, Nat.reduceLeDiff, Nat.reduceLT, Nat.reduceBEq, Nat.reduceDiv, Nat.reduceMod, Nat.reducePow, Nat.reduceMul, Int.reduceToNat, Int.reduceLT, Int.reduceLE]) | refine W_block ?_ | (refine W_skip ?_; simp (maxSteps := 400000) (disch := omega) only [push_cast, ↓reduceIte, reduceCtorEq, Nat.reduceAdd, Nat.reduceSub, Nat.reduceEqDiff, Nat.reduceLeDiff, Nat.reduceLT, Nat.reduceBEq, Nat.reduceDiv, Nat.reduceMod, Nat.reducePow, Nat.reduceMul, Int.reduceToNat, Int.reduceLT, Int.reduceLE]) | (refine W_exit ?_; simp (maxSteps := 400000) (disch := omega) only [push_cast, ↓reduceIte, reduceCtorEq, Nat.reduceAdd, Nat.reduceSub, Nat.reduceEqDiff, Nat.reduceLeDiff, Nat.reduceLT, Nat.reduceBEq, Nat.reduceDiv, Nat.reduceMod, Nat.reducePow, Nat.reduceMul, Int.reduceToNat, Int.reduceLT, Int.reduceLE]) | refine And.intro (by omega) ?_ | refine And.intro (by intro hq; (try simp only [Bool.and_eq_true, Bool.or_eq_true, Bool.and_eq_false_iff, Bool.or_eq_false_iff, decide_eq_true_eq, decide_eq_false_iff_not, Bool.not_eq_true', Bool.not_eq_false', beq_iff_eq, beq_eq_false_iff_ne, ne_eq] at hq); omega) ?_ | ((refine CallC.go _ (fun _ => ⟨trivial, c14x⟩) rfl ?_; simp (maxSteps := 400000) (disch := omega) only [push_cast, ↓reduceIte, reduceCtorEq, Nat.reduceAdd, Nat.reduceSub, Nat.reduceEqDiff, Nat.reduceLeDiff, Nat.reduceLT, Nat.reduceBEq, Nat.reduceDiv, Nat.reduceMod, Nat.reducePow, Nat.reduceMul, Int.reduceToNat, Int.reduceLT, Int.reduceLE])) | fail)
  refine W_cond (by rfl) (fun hb => ?_) (fun _ => ?_)
  · exfalso
    simp only [Bool.or_eq_true, Bool.and_eq_true, bne_iff_ne, ne_eq, not_true_eq_false, false_or] at hb
    omega
  have e1 : ((i : Int) + 1).toNat = i + 1 := by omega
  have hr1 : l.rs.getD ((i : Int) + 1).toNat dR = rd l (i + 1) := by rw [e1]; rfl
  have h64 := g.n64
  have hr2 : i + 1 < l.rs.length → 0 ≤ (rd l (i + 1)).at_ ∧ (rd l (i + 1)).at_ ≤ 1099511627776 := fun h => g.at0 (i + 1) h
  repeat' (first | refine WK_go ?_ | refine W_seqL ?_ | refine W_seq ?_ | (refine W_regL ?_; simp (maxSteps := 400000) (disch := omega) only [push_cast, ↓reduceIte, reduceCtorEq, Nat.reduceAdd, Nat.reduceSub, Nat.reduceEqDiff, Nat.reduceLeDiff, Nat.reduceLT, Nat.reduceBEq, Nat.reduceDiv, Nat.reduceMod, Nat.reducePow, Nat.reduceMul, Int.reduceToNat, Int.reduceLT, Int.reduceLE, hr, hr1]) | refine W_block ?_ | (refine W_skip ?_; simp (maxSteps := 400000) (disch := omega) only [push_cast, ↓reduceIte, reduceCtorEq, Nat.reduceAdd, Nat.reduceSub, Nat.reduceEqDiff, Nat.reduceLeDiff, Nat.reduceLT, Nat.reduceBEq, Nat.reduceDiv, Nat.reduceMod, Nat.reducePow, Nat.reduceMul, Int.reduceToNat, Int.reduceLT, Int.reduceLE, hr, hr1]) | (refine W_exit ?_; simp (maxSteps := 400000) (disch := omega) only [push_cast, ↓reduceIte, reduceCtorEq, Nat.reduceAdd, Nat.reduceSub, Nat.reduceEqDiff, Nat.reduceLeDiff, Nat.reduceLT, Nat.reduceBEq, Nat.reduceDiv, Nat.reduceMod, Nat.reducePow, Nat.reduceMul, Int.reduceToNat, Int.reduceLT, Int.reduceLE, hr, hr1]) | refine And.intro (by omega) ?_ | refine And.intro (by intro hq; (try simp only [Bool.and_eq_true, Bool.or_eq_true, Bool.and_eq_false_iff, Bool.or_eq_false_iff, decide_eq_true_eq, decide_eq_false_iff_not, Bool.not_eq_true', Bool.not_eq_false', beq_iff_eq, beq_eq_false_iff_ne, ne_eq] at hq); omega) ?_ | fail)
  refine W_cond (by rfl) (fun _ => ?_) (fun hb => ?_)
  · repeat' (first | refine WK_go ?_ | refine W_seqL ?_ | refine W_seq ?_ | (refine W_regL ?_; simp (maxSteps := 400000) (disch := omega) only [push_cast, ↓reduceIte, reduceCtorEq, Nat.reduceAdd, Nat.reduceSub, Nat.reduceEqDiff, Nat.reduceLeDiff, Nat.reduceLT, Nat.reduceBEq, Nat.reduceDiv, Nat.reduceMod, Nat.reducePow, Nat.reduceMul, Int.reduceToNat, Int.reduceLT, Int.reduceLE]) | refine W_block ?_ | (refine W_skip ?_; simp (maxSteps := 400000) (disch := omega) only [push_cast, ↓reduceIte, reduceCtorEq, Nat.reduceAdd, Nat.reduceSub, Nat.reduceEqDiff, Nat.reduceLeDiff, Nat.reduceLT, Nat.reduceBEq, Nat.reduceDiv, Nat.reduceMod, Nat.reducePow, Nat.reduceMul, Int.reduceToNat, Int.reduceLT, Int.reduceLE]) | (refine W_exit ?_; simp (maxSteps := 400000) (disch := omega) only [push_cast, ↓reduceIte, reduceCtorEq, Nat.reduceAdd, Nat.reduceSub, Nat.reduceEqDiff, Nat.reduceLeDiff, Nat.reduceLT, Nat.reduceBEq, Nat.reduceDiv, Nat.reduceMod, Nat.reducePow, Nat.reduceMul, Int.reduceToNat, Int.reduceLT, Int.reduceLE]) | refine And.intro (by omega) ?_ | refine And.intro (by intro hq; (try simp only [Bool.and_eq_true, Bool.or_eq_true, Bool.and_eq_false_iff, Bool.or_eq_false_iff, decide_eq_true_eq, decide_eq_false_iff_not, Bool.not_eq_true', Bool.not_eq_false', beq_iff_eq, beq_eq_false_iff_ne, ne_eq] at hq); omega) ?_ | (refine CallC.now (fn12) ?_; simp (maxSteps := 400000) (disch := omega) only [push_cast, ↓reduceIte, reduceCtorEq, Nat.reduceAdd, Nat.reduceSub, Nat.reduceEqDiff, Nat.reduceLeDiff, Nat.reduceLT, Nat.reduceBEq, Nat.reduceDiv, Nat.reduceMod, Nat.reducePow, Nat.reduceMul, Int.reduceToNat, Int.reduceLT, Int.reduceLE]) | fail)
    exact W_ret ⟨[_], ⟨rfl, rfl⟩, rfl⟩
  simp only [Bool.or_eq_false_iff, beq_eq_false_iff_ne, ne_eq] at hb
  obtain ⟨⟨hb1, hb2⟩, hb3⟩ := hb
  have hi1 : i + 1 < l.rs.length := by omega
  have hinc := g.inc i hi1
  have hai2 := at_in g (mem_rd hi1)
  have hm1 : m + 1 < mins l := by unfold mins; omega
  have c16 := r16 l (m + 1) g hm1
  rw [places_get hm1] at c16
  change Sy.Fn _ _ _ (.agg (cBand (plS l (m + 1)))) at c16
  have em1 : ((m : Int) + 1).toNat = m + 1 := by omega
  have hpin := hf.pin (m + 1) hm1
  have hpb := pl_bound g hm1
  have c15' := fn15 (plS l (m + 1)) (H.pl.getD (m + 1) 0) p q hpin (by omega) (by omega) hp hq
  repeat' (first | refine WK_go ?_ | refine W_seqL ?_ | refine W_seq ?_ | (refine W_regL ?_; simp (maxSteps := 400000) (disch := omega) only [push_cast, ↓reduceIte, reduceCtorEq, Nat.reduceAdd, Nat.reduceSub, Nat.reduceEqDiff, Nat.reduceLeDiff, Nat.reduceLT, Nat.reduceBEq, Nat.reduceDiv, Nat.reduceMod, Nat.reducePow, Nat.reduceMul, Int.reduceToNat, Int.reduceLT, Int.reduceLE, hr, em1]) | refine W_block ?_ | (refine W_skip ?_; simp (maxSteps := 400000) (disch := omega) only [push_cast, ↓reduceIte, reduceCtorEq, Nat.reduceAdd, Nat.reduceSub, Nat.reduceEqDiff, Nat.reduceLeDiff, Nat.reduceLT, Nat.reduceBEq, Nat.reduceDiv, Nat.reduceMod, Nat.reducePow, Nat.reduceMul, Int.reduceToNat, Int.reduceLT, Int.reduceLE, hr, em1]) | (refine W_exit ?_; simp (maxSteps := 400000) (disch := omega) only [push_cast, ↓reduceIte, reduceCtorEq, Nat.reduceAdd, Nat.reduceSub, Nat.reduceEqDiff, Nat.reduceLeDiff, Nat.reduceLT, Nat.reduceBEq, Nat.reduceDiv, Nat.reduceMod, Nat.reducePow, Nat.reduceMul, Int.reduceToNat, Int.reduceLT, Int.reduceLE, hr, em1]) | refine And.intro (by omega) ?_ | refine And.intro (by intro hq; (try simp only [Bool.and_eq_true, Bool.or_eq_true, Bool.and_eq_false_iff, Bool.or_eq_false_iff, decide_eq_true_eq, decide_eq_false_iff_not, Bool.not_eq_true', Bool.not_eq_false', beq_iff_eq, beq_eq_false_iff_ne, ne_eq] at hq); omega) ?_ | (refine CallC.now (c16) ?_; simp (maxSteps := 400000) (disch := omega) only [push_cast, ↓reduceIte, reduceCtorEq, Nat.reduceAdd, Nat.reduceSub, Nat.reduceEqDiff, Nat.reduceLeDiff, Nat.reduceLT, Nat.reduceBEq, Nat.reduceDiv, Nat.reduceMod, Nat.reducePow, Nat.reduceMul, Int.reduceToNat, Int.reduceLT, Int.reduceLE, hr, em1]) | (refine CallC.now (c15') ?_; simp (maxSteps := 400000) (disch := omega) only [push_cast, ↓reduceIte, reduceCtorEq, Nat.reduceAdd, Nat.reduceSub, Nat.reduceEqDiff, Nat.reduceLeDiff, Nat.reduceLT, Nat.reduceBEq, Nat.reduceDiv, Nat.reduceMod, Nat.reducePow, Nat.reduceMul, Int.reduceToNat, Int.reduceLT, Int.reduceLE, hr, em1]) | fail)
  refine W_loopU (fun k : Nat => [(23, iv k)]) (fun k => [(150, .cells (cR (oneR l H i (m + 1) p q k)))]) (fun k => k ≤ 4 ∧ ∀ j, j < k → -1073741824 ≤ (narF (vlS l j (m + 1)) (vAt H (m + 1) j) p q).lo ∧ (narF (vlS l j (m + 1)) (vAt H (m + 1) j) p q).hi ≤ 1073741824) (fun k => 4 - k) 0 ⟨by omega, fun j hj => by omega⟩ (by rfl) (by rfl) (fun k hkk => ?_)
  obtain ⟨hk, hbs⟩ := hkk
  simp (maxSteps := 400000) (disch := omega) only [push_cast, ↓reduceIte, reduceCtorEq, Nat.reduceAdd, Nat.reduceSub, Nat.reduceEqDiff, Nat.reduceLeDiff, Nat.reduceLT, Nat.reduceBEq, Nat.reduceDiv, Nat.reduceMod, Nat.reducePow, Nat.reduceMul, Int.reduceToNat, Int.reduceLT, Int.reduceLE]
  repeat' (first | refine WK_go ?_ | refine W_seqL ?_ | refine W_seq ?_ | (refine W_regL ?_; simp (maxSteps := 400000) (disch := omega) only [push_cast, ↓reduceIte, reduceCtorEq, Nat.reduceAdd, Nat.reduceSub, Nat.reduceEqDiff, Nat.reduceLeDiff, Nat.reduceLT, Nat.reduceBEq, Nat.reduceDiv, Nat.reduceMod, Nat.reducePow, Nat.reduceMul, Int.reduceToNat, Int.reduceLT, Int.reduceLE]) | refine W_block ?_ | (refine W_skip ?_; simp (maxSteps := 400000) (disch := omega) only [push_cast, ↓reduceIte, reduceCtorEq, Nat.reduceAdd, Nat.reduceSub, Nat.reduceEqDiff, Nat.reduceLeDiff, Nat.reduceLT, Nat.reduceBEq, Nat.reduceDiv, Nat.reduceMod, Nat.reducePow, Nat.reduceMul, Int.reduceToNat, Int.reduceLT, Int.reduceLE]) | (refine W_exit ?_; simp (maxSteps := 400000) (disch := omega) only [push_cast, ↓reduceIte, reduceCtorEq, Nat.reduceAdd, Nat.reduceSub, Nat.reduceEqDiff, Nat.reduceLeDiff, Nat.reduceLT, Nat.reduceBEq, Nat.reduceDiv, Nat.reduceMod, Nat.reducePow, Nat.reduceMul, Int.reduceToNat, Int.reduceLT, Int.reduceLE]) | refine And.intro (by omega) ?_ | refine And.intro (by intro hq; (try simp only [Bool.and_eq_true, Bool.or_eq_true, Bool.and_eq_false_iff, Bool.or_eq_false_iff, decide_eq_true_eq, decide_eq_false_iff_not, Bool.not_eq_true', Bool.not_eq_false', beq_iff_eq, beq_eq_false_iff_ne, ne_eq] at hq); omega) ?_ | fail)
  refine W_condD (by rfl) (fun h6 => ?_) (fun h6 => ?_)
  · have hk4 : k < 4 := by omega
    have c17 := r17 l (m + 1) k g hm1 hk4
    rw [values_get hm1] at c17
    change Sy.Fn _ _ _ (.agg (cBand (vlS l k (m + 1)))) at c17
    have hvin := hf.vin (m + 1) k hm1 hk4
    have hvb := vlS_bound g hk4 hm1
    have c15v := fn15 (vlS l k (m + 1)) (vAt H (m + 1) k) p q hvin (by omega) (by omega) hp hq
    have hnv := nV (H.va.getD (m + 1) dV4) k hk4
    have hos := oneR_set l H i (m + 1) p q hk4
    have hoa := oneR_at l H i (m + 1) p q hk4
    repeat' (first | refine WK_go ?_ | refine W_seqL ?_ | refine W_seq ?_ | (refine W_regL ?_; simp (maxSteps := 400000) (disch := omega) only [push_cast, ↓reduceIte, reduceCtorEq, Nat.reduceAdd, Nat.reduceSub, Nat.reduceEqDiff, Nat.reduceLeDiff, Nat.reduceLT, Nat.reduceBEq, Nat.reduceDiv, Nat.reduceMod, Nat.reducePow, Nat.reduceMul, Int.reduceToNat, Int.reduceLT, Int.reduceLE, em1, hnv, hos, hoa]) | refine W_block ?_ | (refine W_skip ?_; simp (maxSteps := 400000) (disch := omega) only [push_cast, ↓reduceIte, reduceCtorEq, Nat.reduceAdd, Nat.reduceSub, Nat.reduceEqDiff, Nat.reduceLeDiff, Nat.reduceLT, Nat.reduceBEq, Nat.reduceDiv, Nat.reduceMod, Nat.reducePow, Nat.reduceMul, Int.reduceToNat, Int.reduceLT, Int.reduceLE, em1, hnv, hos, hoa]) | (refine W_exit ?_; simp (maxSteps := 400000) (disch := omega) only [push_cast, ↓reduceIte, reduceCtorEq, Nat.reduceAdd, Nat.reduceSub, Nat.reduceEqDiff, Nat.reduceLeDiff, Nat.reduceLT, Nat.reduceBEq, Nat.reduceDiv, Nat.reduceMod, Nat.reducePow, Nat.reduceMul, Int.reduceToNat, Int.reduceLT, Int.reduceLE, em1, hnv, hos, hoa]) | refine And.intro (by omega) ?_ | refine And.intro (by intro hq; (try simp only [Bool.and_eq_true, Bool.or_eq_true, Bool.and_eq_false_iff, Bool.or_eq_false_iff, decide_eq_true_eq, decide_eq_false_iff_not, Bool.not_eq_true', Bool.not_eq_false', beq_iff_eq, beq_eq_false_iff_ne, ne_eq] at hq); omega) ?_ | (refine CallC.now (c17) ?_; simp (maxSteps := 400000) (disch := omega) only [push_cast, ↓reduceIte, reduceCtorEq, Nat.reduceAdd, Nat.reduceSub, Nat.reduceEqDiff, Nat.reduceLeDiff, Nat.reduceLT, Nat.reduceBEq, Nat.reduceDiv, Nat.reduceMod, Nat.reducePow, Nat.reduceMul, Int.reduceToNat, Int.reduceLT, Int.reduceLE, em1, hnv, hos, hoa]) | (refine CallC.now (c15v) ?_; simp (maxSteps := 400000) (disch := omega) only [push_cast, ↓reduceIte, reduceCtorEq, Nat.reduceAdd, Nat.reduceSub, Nat.reduceEqDiff, Nat.reduceLeDiff, Nat.reduceLT, Nat.reduceBEq, Nat.reduceDiv, Nat.reduceMod, Nat.reducePow, Nat.reduceMul, Int.reduceToNat, Int.reduceLT, Int.reduceLE, em1, hnv, hos, hoa]) | fail)
    refine W_cond (by rfl) (fun _ => ?_) (fun hb => ?_)
    · repeat' (first | refine WK_go ?_ | refine W_seqL ?_ | refine W_seq ?_ | (refine W_regL ?_; simp (maxSteps := 400000) (disch := omega) only [push_cast, ↓reduceIte, reduceCtorEq, Nat.reduceAdd, Nat.reduceSub, Nat.reduceEqDiff, Nat.reduceLeDiff, Nat.reduceLT, Nat.reduceBEq, Nat.reduceDiv, Nat.reduceMod, Nat.reducePow, Nat.reduceMul, Int.reduceToNat, Int.reduceLT, Int.reduceLE]) | refine W_block ?_ | (refine W_skip ?_; simp (maxSteps := 400000) (disch := omega) only [push_cast, ↓reduceIte, reduceCtorEq, Nat.reduceAdd, Nat.reduceSub, Nat.reduceEqDiff, Nat.reduceLeDiff, Nat.reduceLT, Nat.reduceBEq, Nat.reduceDiv, Nat.reduceMod, Nat.reducePow, Nat.reduceMul, Int.reduceToNat, Int.reduceLT, Int.reduceLE]) | (refine W_exit ?_; simp (maxSteps := 400000) (disch := omega) only [push_cast, ↓reduceIte, reduceCtorEq, Nat.reduceAdd, Nat.reduceSub, Nat.reduceEqDiff, Nat.reduceLeDiff, Nat.reduceLT, Nat.reduceBEq, Nat.reduceDiv, Nat.reduceMod, Nat.reducePow, Nat.reduceMul, Int.reduceToNat, Int.reduceLT, Int.reduceLE]) | refine And.intro (by omega) ?_ | refine And.intro (by intro hq; (try simp only [Bool.and_eq_true, Bool.or_eq_true, Bool.and_eq_false_iff, Bool.or_eq_false_iff, decide_eq_true_eq, decide_eq_false_iff_not, Bool.not_eq_true', Bool.not_eq_false', beq_iff_eq, beq_eq_false_iff_ne, ne_eq] at hq); omega) ?_ | (refine CallC.now (fn12) ?_; simp (maxSteps := 400000) (disch := omega) only [push_cast, ↓reduceIte, reduceCtorEq, Nat.reduceAdd, Nat.reduceSub, Nat.reduceEqDiff, Nat.reduceLeDiff, Nat.reduceLT, Nat.reduceBEq, Nat.reduceDiv, Nat.reduceMod, Nat.reducePow, Nat.reduceMul, Int.reduceToNat, Int.reduceLT, Int.reduceLE]) | fail)
      exact W_ret ⟨[_], ⟨rfl, rfl⟩, rfl⟩
    simp only [Bool.or_eq_false_iff, decide_eq_false_iff_not] at hb
    repeat' (first | refine WK_go ?_ | refine W_seqL ?_ | refine W_seq ?_ | (refine W_regL ?_; simp (maxSteps := 400000) (disch := omega) only [push_cast, ↓reduceIte, reduceCtorEq, Nat.reduceAdd, Nat.reduceSub, Nat.reduceEqDiff, Nat.reduceLeDiff, Nat.reduceLT, Nat.reduceBEq, Nat.reduceDiv, Nat.reduceMod, Nat.reducePow, Nat.reduceMul, Int.reduceToNat, Int.reduceLT, Int.reduceLE]) | refine W_block ?_ | (refine W_skip ?_; simp (maxSteps := 400000) (disch := omega) only [push_cast, ↓reduceIte, reduceCtorEq, Nat.reduceAdd, Nat.reduceSub, Nat.reduceEqDiff, Nat.reduceLeDiff, Nat.reduceLT, Nat.reduceBEq, Nat.reduceDiv, Nat.reduceMod, Nat.reducePow, Nat.reduceMul, Int.reduceToNat, Int.reduceLT, Int.reduceLE]) | (refine W_exit ?_; simp (maxSteps := 400000) (disch := omega) only [push_cast, ↓reduceIte, reduceCtorEq, Nat.reduceAdd, Nat.reduceSub, Nat.reduceEqDiff, Nat.reduceLeDiff, Nat.reduceLT, Nat.reduceBEq, Nat.reduceDiv, Nat.reduceMod, Nat.reducePow, Nat.reduceMul, Int.reduceToNat, Int.reduceLT, Int.reduceLE]) | refine And.intro (by omega) ?_ | refine And.intro (by intro hq; (try simp only [Bool.and_eq_true, Bool.or_eq_true, Bool.and_eq_false_iff, Bool.or_eq_false_iff, decide_eq_true_eq, decide_eq_false_iff_not, Bool.not_eq_true', Bool.not_eq_false', beq_iff_eq, beq_eq_false_iff_ne, ne_eq] at hq); omega) ?_ | fail)
    refine ⟨k + 1, ⟨by omega, fun j hj => ?_⟩, by omega, by rfl, ?_⟩
    · by_cases hjk : j = k
      · subst hjk; omega
      · exact hbs j (by omega)
    simp (maxSteps := 400000) (disch := omega) only [push_cast, ↓reduceIte, reduceCtorEq, Nat.reduceAdd, Nat.reduceSub, Nat.reduceEqDiff, Nat.reduceLeDiff, Nat.reduceLT, Nat.reduceBEq, Nat.reduceDiv, Nat.reduceMod, Nat.reducePow, Nat.reduceMul, Int.reduceToNat, Int.reduceLT, Int.reduceLE, S.mk.injEq, List.cons.injEq, Prod.mk.injEq, AV.v.injEq, Value.int.injEq, Value.bool.injEq, Blk.cells.injEq]
  obtain rfl : k = 4 := by omega
  have hmi : ((rd l i).at_ - t0 l).toNat = m := by omega
  have hY : narY l H i p q = ⟨l.rs.take (i + 1) ++ [oneR l H i (m + 1) p q 4] ++ l.rs.drop (i + 1), l.d0, l.d1, l.d2, l.d3⟩ := by
    unfold narY; rw [hmi]
  have ny := narY_nar (p := p) (q := q) g hf hi1 hb2 (by omega) hp hq (fun k hk => by rw [hmi, oneR_vals _ _ _ _ _ _ hk]; exact hbs k hk)
  have hyc := ny.chk g hf
  have hyv := ny.ver hc ok hf
  have hyl : chkLC (narY l H i p q) c = 0 := by unfold chkLC; rw [if_pos hyc]; exact hcc
  have hly : (narY l H i p q).rs.length = l.rs.length + 1 := by simp [narY]; omega
  have c14y := fn14 (narY l H i p q) c (by omega)
  rw [hyl, if_pos rfl] at c14y
  generalize hv3 : verR (narY l H i p q) c = v3 at *
  rw [hY] at c14y
  repeat' (first | refine WK_go ?_ | refine W_seqL ?_ | refine W_seq ?_ | (refine W_regL ?_; simp (maxSteps := 400000) (disch := omega) only [push_cast, ↓reduceIte, reduceCtorEq, Nat.reduceAdd, Nat.reduceSub, Nat.reduceEqDiff, Nat.reduceLeDiff, Nat.reduceLT, Nat.reduceBEq, Nat.reduceDiv, Nat.reduceMod, Nat.reducePow, Nat.reduceMul, Int.reduceToNat, Int.reduceLT, Int.reduceLE]) | refine W_block ?_ | (refine W_skip ?_; simp (maxSteps := 400000) (disch := omega) only [push_cast, ↓reduceIte, reduceCtorEq, Nat.reduceAdd, Nat.reduceSub, Nat.reduceEqDiff, Nat.reduceLeDiff, Nat.reduceLT, Nat.reduceBEq, Nat.reduceDiv, Nat.reduceMod, Nat.reducePow, Nat.reduceMul, Int.reduceToNat, Int.reduceLT, Int.reduceLE]) | (refine W_exit ?_; simp (maxSteps := 400000) (disch := omega) only [push_cast, ↓reduceIte, reduceCtorEq, Nat.reduceAdd, Nat.reduceSub, Nat.reduceEqDiff, Nat.reduceLeDiff, Nat.reduceLT, Nat.reduceBEq, Nat.reduceDiv, Nat.reduceMod, Nat.reducePow, Nat.reduceMul, Int.reduceToNat, Int.reduceLT, Int.reduceLE]) | refine And.intro (by omega) ?_ | refine And.intro (by intro hq; (try simp only [Bool.and_eq_true, Bool.or_eq_true, Bool.and_eq_false_iff, Bool.or_eq_false_iff, decide_eq_true_eq, decide_eq_false_iff_not, Bool.not_eq_true', Bool.not_eq_false', beq_iff_eq, beq_eq_false_iff_ne, ne_eq] at hq); omega) ?_ | fail)
  refine ⟨rfl, trivial, Reading, dR, cR, [], rfl, by omega, fun x _ => ⟨rfl, rfl⟩, rfl, ?_⟩
  simp (maxSteps := 400000) (disch := omega) only [push_cast, ↓reduceIte, reduceCtorEq, Nat.reduceAdd, Nat.reduceSub, Nat.reduceEqDiff, Nat.reduceLeDiff, Nat.reduceLT, Nat.reduceBEq, Nat.reduceDiv, Nat.reduceMod, Nat.reducePow, Nat.reduceMul, Int.reduceToNat, Int.reduceLT, Int.reduceLE]
  refine ⟨by omega, ?_⟩
  rw [e1]
  refine ⟨rfl, ⟨Nat.le_of_ble_eq_true rfl, rfl⟩, trivial, (l.rs.take (i + 1)), rfl, by first | omega | (simp; omega), by first | omega | (simp; omega), ?_⟩
  simp (maxSteps := 400000) (disch := omega) only [push_cast, ↓reduceIte, reduceCtorEq, Nat.reduceAdd, Nat.reduceSub, Nat.reduceEqDiff, Nat.reduceLeDiff, Nat.reduceLT, Nat.reduceBEq, Nat.reduceDiv, Nat.reduceMod, Nat.reducePow, Nat.reduceMul, Int.reduceToNat, Int.reduceLT, Int.reduceLE]
  repeat' (first | refine WK_go ?_ | refine W_seqL ?_ | refine W_seq ?_ | (refine W_regL ?_; simp (maxSteps := 400000) (disch := omega) only [push_cast, ↓reduceIte, reduceCtorEq, Nat.reduceAdd, Nat.reduceSub, Nat.reduceEqDiff, Nat.reduceLeDiff, Nat.reduceLT, Nat.reduceBEq, Nat.reduceDiv, Nat.reduceMod, Nat.reducePow, Nat.reduceMul, Int.reduceToNat, Int.reduceLT, Int.reduceLE]) | refine W_block ?_ | (refine W_skip ?_; simp (maxSteps := 400000) (disch := omega) only [push_cast, ↓reduceIte, reduceCtorEq, Nat.reduceAdd, Nat.reduceSub, Nat.reduceEqDiff, Nat.reduceLeDiff, Nat.reduceLT, Nat.reduceBEq, Nat.reduceDiv, Nat.reduceMod, Nat.reducePow, Nat.reduceMul, Int.reduceToNat, Int.reduceLT, Int.reduceLE]) | (refine W_exit ?_; simp (maxSteps := 400000) (disch := omega) only [push_cast, ↓reduceIte, reduceCtorEq, Nat.reduceAdd, Nat.reduceSub, Nat.reduceEqDiff, Nat.reduceLeDiff, Nat.reduceLT, Nat.reduceBEq, Nat.reduceDiv, Nat.reduceMod, Nat.reducePow, Nat.reduceMul, Int.reduceToNat, Int.reduceLT, Int.reduceLE]) | refine And.intro (by omega) ?_ | refine And.intro (by intro hq; (try simp only [Bool.and_eq_true, Bool.or_eq_true, Bool.and_eq_false_iff, Bool.or_eq_false_iff, decide_eq_true_eq, decide_eq_false_iff_not, Bool.not_eq_true', Bool.not_eq_false', beq_iff_eq, beq_eq_false_iff_ne, ne_eq] at hq); omega) ?_ | fail)
  refine ⟨rfl, trivial, Reading, dR, cR, [oneR l H i (m + 1) p q 4], rfl, by omega, fun x _ => ⟨rfl, rfl⟩, rfl, ?_⟩
  simp (maxSteps := 400000) (disch := omega) only [push_cast, ↓reduceIte, reduceCtorEq, Nat.reduceAdd, Nat.reduceSub, Nat.reduceEqDiff, Nat.reduceLeDiff, Nat.reduceLT, Nat.reduceBEq, Nat.reduceDiv, Nat.reduceMod, Nat.reducePow, Nat.reduceMul, Int.reduceToNat, Int.reduceLT, Int.reduceLE]
  refine ⟨rfl, ⟨Nat.le_of_ble_eq_true rfl, rfl⟩, trivial, [oneR l H i (m + 1) p q 4], rfl, by first | omega | (simp; omega), by first | omega | (simp; omega), ?_⟩
  simp (maxSteps := 400000) (disch := omega) only [push_cast, ↓reduceIte, reduceCtorEq, Nat.reduceAdd, Nat.reduceSub, Nat.reduceEqDiff, Nat.reduceLeDiff, Nat.reduceLT, Nat.reduceBEq, Nat.reduceDiv, Nat.reduceMod, Nat.reducePow, Nat.reduceMul, Int.reduceToNat, Int.reduceLT, Int.reduceLE]
  repeat' (first | refine WK_go ?_ | refine W_seqL ?_ | refine W_seq ?_ | (refine W_regL ?_; simp (maxSteps := 400000) (disch := omega) only [push_cast, ↓reduceIte, reduceCtorEq, Nat.reduceAdd, Nat.reduceSub, Nat.reduceEqDiff, Nat.reduceLeDiff, Nat.reduceLT, Nat.reduceBEq, Nat.reduceDiv, Nat.reduceMod, Nat.reducePow, Nat.reduceMul, Int.reduceToNat, Int.reduceLT, Int.reduceLE]) | refine W_block ?_ | (refine W_skip ?_; simp (maxSteps := 400000) (disch := omega) only [push_cast, ↓reduceIte, reduceCtorEq, Nat.reduceAdd, Nat.reduceSub, Nat.reduceEqDiff, Nat.reduceLeDiff, Nat.reduceLT, Nat.reduceBEq, Nat.reduceDiv, Nat.reduceMod, Nat.reducePow, Nat.reduceMul, Int.reduceToNat, Int.reduceLT, Int.reduceLE]) | (refine W_exit ?_; simp (maxSteps := 400000) (disch := omega) only [push_cast, ↓reduceIte, reduceCtorEq, Nat.reduceAdd, Nat.reduceSub, Nat.reduceEqDiff, Nat.reduceLeDiff, Nat.reduceLT, Nat.reduceBEq, Nat.reduceDiv, Nat.reduceMod, Nat.reducePow, Nat.reduceMul, Int.reduceToNat, Int.reduceLT, Int.reduceLE]) | refine And.intro (by omega) ?_ | refine And.intro (by intro hq; (try simp only [Bool.and_eq_true, Bool.or_eq_true, Bool.and_eq_false_iff, Bool.or_eq_false_iff, decide_eq_true_eq, decide_eq_false_iff_not, Bool.not_eq_true', Bool.not_eq_false', beq_iff_eq, beq_eq_false_iff_ne, ne_eq] at hq); omega) ?_ | fail)
  rw [e1]
  refine ⟨rfl, ⟨Nat.le_of_ble_eq_true rfl, rfl⟩, trivial, (l.rs.drop (i + 1)), rfl, by first | omega | (simp; omega), by first | omega | (simp; omega), ?_⟩
  simp (maxSteps := 400000) (disch := omega) only [push_cast, ↓reduceIte, reduceCtorEq, Nat.reduceAdd, Nat.reduceSub, Nat.reduceEqDiff, Nat.reduceLeDiff, Nat.reduceLT, Nat.reduceBEq, Nat.reduceDiv, Nat.reduceMod, Nat.reducePow, Nat.reduceMul, Int.reduceToNat, Int.reduceLT, Int.reduceLE]
  repeat' (first | refine WK_go ?_ | refine W_seqL ?_ | refine W_seq ?_ | (refine W_regL ?_; simp (maxSteps := 400000) (disch := omega) only [push_cast, ↓reduceIte, reduceCtorEq, Nat.reduceAdd, Nat.reduceSub, Nat.reduceEqDiff, Nat.reduceLeDiff, Nat.reduceLT, Nat.reduceBEq, Nat.reduceDiv, Nat.reduceMod, Nat.reducePow, Nat.reduceMul, Int.reduceToNat, Int.reduceLT, Int.reduceLE]) | refine W_block ?_ | (refine W_skip ?_; simp (maxSteps := 400000) (disch := omega) only [push_cast, ↓reduceIte, reduceCtorEq, Nat.reduceAdd, Nat.reduceSub, Nat.reduceEqDiff, Nat.reduceLeDiff, Nat.reduceLT, Nat.reduceBEq, Nat.reduceDiv, Nat.reduceMod, Nat.reducePow, Nat.reduceMul, Int.reduceToNat, Int.reduceLT, Int.reduceLE]) | (refine W_exit ?_; simp (maxSteps := 400000) (disch := omega) only [push_cast, ↓reduceIte, reduceCtorEq, Nat.reduceAdd, Nat.reduceSub, Nat.reduceEqDiff, Nat.reduceLeDiff, Nat.reduceLT, Nat.reduceBEq, Nat.reduceDiv, Nat.reduceMod, Nat.reducePow, Nat.reduceMul, Int.reduceToNat, Int.reduceLT, Int.reduceLE]) | refine And.intro (by omega) ?_ | refine And.intro (by intro hq; (try simp only [Bool.and_eq_true, Bool.or_eq_true, Bool.and_eq_false_iff, Bool.or_eq_false_iff, decide_eq_true_eq, decide_eq_false_iff_not, Bool.not_eq_true', Bool.not_eq_false', beq_iff_eq, beq_eq_false_iff_ne, ne_eq] at hq); omega) ?_ | ((refine CallC.go _ (fun _ => ⟨trivial, c14y⟩) rfl ?_; simp (maxSteps := 400000) (disch := omega) only [push_cast, ↓reduceIte, reduceCtorEq, Nat.reduceAdd, Nat.reduceSub, Nat.reduceEqDiff, Nat.reduceLeDiff, Nat.reduceLT, Nat.reduceBEq, Nat.reduceDiv, Nat.reduceMod, Nat.reducePow, Nat.reduceMul, Int.reduceToNat, Int.reduceLT, Int.reduceLE])) | ((refine CallC.go _ (fun _ => ⟨trivial, fn12⟩) rfl ?_; simp (maxSteps := 400000) (disch := omega) only [push_cast, ↓reduceIte, reduceCtorEq, Nat.reduceAdd, Nat.reduceSub, Nat.reduceEqDiff, Nat.reduceLeDiff, Nat.reduceLT, Nat.reduceBEq, Nat.reduceDiv, Nat.reduceMod, Nat.reducePow, Nat.reduceMul, Int.reduceToNat, Int.reduceLT, Int.reduceLE])) | fail)
  have hlast : (verR l c == 0 || v3 == verR l c) = true := by
    simp only [Bool.or_eq_true, beq_iff_eq]
    omega
  rw [hlast]
  exact W_ret ⟨[_], ⟨rfl, rfl⟩, rfl⟩
end Go.Proofs.Ytgijpimjfoabjaa

/- ClaimNarrower: for every input the law returns true; each argument reads behind the call as it read before. -/
namespace Go.Proofs.Ytgijpimjfoabjaa
open Go Sy Go.ChangeShapes Go.WideShapes Go.RowKit
set_option maxRecDepth 100000
set_option linter.unusedVariables false
theorem own : ownKnob Try.prog.godebug = none := by kernel_rfl
theorem laidOut : laidOutB Try.prog = true := by kernel_rfl

theorem walk3 (W : World) (v0 v1 v2 v3 v4 v5 : Value) (l : Log) (c : Clm) (ps : List Int) (p : Int) (q : Int) (a : Int) (h0 : fsat (inW W) W (aLog l) v0) (h1 : fsat (inW W) W (aC c) v1) (h2 : fsat (inW W) W (.sl 1 0 cU ps) v2) (h3 : fsat (inW W) W (.v (.int .u8 p)) v3) (h4 : fsat (inW W) W (.v (.int .u8 q)) v4) (h5 : fsat (inW W) W (.v (.int .u8 a)) v5) (ol : OL l) (oc : OCl c) (ops : ps.length ≤ 140737488351232 ∧ ∀ x ∈ ps, 0 ≤ x ∧ x ≤ 255) (op : 0 ≤ p ∧ p ≤ 255) (oq : 0 ≤ q ∧ q ≤ 255) (oa : 0 ≤ a ∧ a ≤ 255) :
    Calls Try.prog 3 #[v0, v1, v2, v3, v4, v5] W fun e w' => e = .returned (.bool true) ∧ Below W.heap.size W w' := by
  have hf : Sy.Fn Try.prog 3 [aLog l, aC c, .sl 1 0 cU ps, .v (.int .u8 p), .v (.int .u8 q), .v (.int .u8 a)] (bv true) := fn3 l c ps p q a (by have := ol.n; omega) (by have := ops.1; omega) ops.2 op oq oa
  refine (hf.2 (inW W) W [v0, v1, v2, v3, v4, v5] (fun b hb => hb) ?_).mono ?_
  · simp only [fsatT]
    exact ⟨v0, _, rfl, h0, v1, _, rfl, h1, v2, _, rfl, h2, v3, _, rfl, h3, v4, _, rfl, h4, v5, _, rfl, h5, rfl⟩
  · rintro e w' ⟨v, rfl, hb, hv⟩
    simp only [fsat] at hv
    exact ⟨by rw [hv], hb⟩
theorem lifted3 (os : Os) (started : os.Started) (H : Type) (enc : TypeId × Value → H) :
    ReturnsInHanded {} Try.checked os 3 .any (Rows.claimNarrowerSpec.pre6 enc Try.prog Try.f3 Rows.claimNarrowerRow.domain false) (Rows.claimNarrowerSpec.post enc Try.prog Try.f3 false true false false) := by
  refine returnsInHanded_of_change_sized (C := Try.checked) own started (by kernel_rfl) Try.func3
    (ChangeSpec.witness6 (enc := enc) (C := Try.checked) false ⟨#[], #[.agg #[.slice none 0 0, .int .i64 0, .int .i64 0, .int .i64 0, .int .i64 0], .agg #[.int .i64 0, .int .i64 0, .int .i64 0, .int .i64 0, .int .i64 0, .int .i64 0, .int .i64 0], .slice none 0 0, .int .u8 0, .int .u8 0, .int .u8 0], []⟩ 8 (by kernel_rfl) (by kernel_rfl) (by kernel_rfl) (by kernel_rfl)) ?_
  intro W base args ds gs before hval0 hW hcnd hsz _
  have hval : ∀ (j : Nat) t v, Try.f3.params[j]? = some t → args[j]? = some v → Value.okWide Try.prog W .any base t v := hval0
  have hW' := hW
  obtain ⟨p, q, hA0, hV, rfl, hfz, hnd⟩ := hW
  have hA : DataW.TrodAll enc Try.prog W 0 (fun _ => true) true Try.f3.params.toList args.toList ds p := hA0
  rw [Try.params3] at hA hval
  obtain ⟨v0, vs0, d0, ds0, p0, q0, hargs, rfl, rfl, h0, r0⟩ := trodAll_cons hA
  obtain ⟨v1, vs1, d1, ds1, p1, q1, rfl, rfl, rfl, h1, r1⟩ := trodAll_cons r0
  obtain ⟨v2, vs2, d2, ds2, p2, q2, rfl, rfl, rfl, h2, r2⟩ := trodAll_cons r1
  obtain ⟨v3, vs3, d3, ds3, p3, q3, rfl, rfl, rfl, h3, r3⟩ := trodAll_cons r2
  obtain ⟨v4, vs4, d4, ds4, p4, q4, rfl, rfl, rfl, h4, r4⟩ := trodAll_cons r3
  obtain ⟨v5, vs5, d5, ds5, p5, q5, rfl, rfl, rfl, h5, r5⟩ := trodAll_cons r4
  obtain ⟨rfl, rfl, rfl⟩ := trodAll_nil r5
  obtain rfl : args = #[v0, v1, v2, v3, v4, v5] := by cases args; simp_all
  obtain ⟨rfl, rfl⟩ := trodVars_none hV
  have hs : ∀ (j : Nat) t (d : DataW H), [25, 27, 28, 5, 5, 5][j]? = some t → [d0, d1, d2, d3, d4, d5][j]? = some d → ∀ n ∈ d.weights Try.prog t, n ≤ reachBytes := fun j t d ht hd n hn => by
    have hall := List.all_eq_true.1 hsz n (DataW.weights_mem_each (j := j) (t := t) (d := d) (by rw [Try.params3]; simpa using (List.getElem?_append_left (l₂ := _) (by have := (List.getElem?_eq_some_iff.1 ht).1; simpa using this)).trans ht) (by simpa using (List.getElem?_append_left (l₂ := _) (by have := (List.getElem?_eq_some_iff.1 hd).1; simpa using this)).trans hd) n hn)
    simpa using hall
  have lt0 : ∀ x ∈ p0, x.block < W.heap.size := by obtain ⟨m, hm⟩ := h0; exact DataW.trod_lt m _ _ _ hm
  have lt1 : ∀ x ∈ p1, x.block < W.heap.size := by obtain ⟨m, hm⟩ := h1; exact DataW.trod_lt m _ _ _ hm
  have lt2 : ∀ x ∈ p2, x.block < W.heap.size := by obtain ⟨m, hm⟩ := h2; exact DataW.trod_lt m _ _ _ hm
  have lt3 : ∀ x ∈ p3, x.block < W.heap.size := by obtain ⟨m, hm⟩ := h3; exact DataW.trod_lt m _ _ _ hm
  have lt4 : ∀ x ∈ p4, x.block < W.heap.size := by obtain ⟨m, hm⟩ := h4; exact DataW.trod_lt m _ _ _ hm
  have lt5 : ∀ x ∈ p5, x.block < W.heap.size := by obtain ⟨m, hm⟩ := h5; exact DataW.trod_lt m _ _ _ hm
  obtain ⟨l, ol, s0⟩ := k25.arg (by kernel_rfl) (hval 0 25 v0 rfl rfl) h0 (hs 0 25 d0 rfl rfl)
  obtain ⟨c, oc, s1⟩ := k27'.arg (by kernel_rfl) (hval 1 27 v1 rfl rfl) h1 (hs 1 27 d1 rfl rfl)
  obtain ⟨ps, ops, s2⟩ := k28.arg1 (by kernel_rfl) (hval 2 28 v2 rfl rfl) h2 (hs 2 28 d2 rfl rfl)
  obtain ⟨p, op, s3⟩ := k5.arg1 (by kernel_rfl) (hval 3 5 v3 rfl rfl) h3 (hs 3 5 d3 rfl rfl)
  obtain ⟨q, oq, s4⟩ := k5.arg1 (by kernel_rfl) (hval 4 5 v4 rfl rfl) h4 (hs 4 5 d4 rfl rfl)
  obtain ⟨a, oa, s5⟩ := k5.arg1 (by kernel_rfl) (hval 5 5 v5 rfl rfl) h5 (hs 5 5 d5 rfl rfl)
  clear hA0 hval0
  refine (walk3 W v0 v1 v2 v3 v4 v5 l c ps p q a s0 s1 s2 s3 s4 s5 ol oc ops op oq oa).mono fun e W' ⟨he, bel⟩ => ?_
  subst he
  exact ⟨_, rfl, _, _, _, [], _, [], hW', trodAll_mk1 (shut_bool Try.underlying4 _), (trodAll_cons_mk (Below.trod laidOut (by kernel_rfl) (of_decide_eq_true (by kernel_rfl)) h0 bel lt0) (trodAll_cons_mk (Below.trod laidOut (by kernel_rfl) (of_decide_eq_true (by kernel_rfl)) h1 bel lt1) (trodAll_cons_mk (Below.trod laidOut (by kernel_rfl) (of_decide_eq_true (by kernel_rfl)) h2 bel lt2) (trodAll_cons_mk (Below.trod laidOut (by kernel_rfl) (of_decide_eq_true (by kernel_rfl)) h3 bel lt3) (trodAll_cons_mk (Below.trod laidOut (by kernel_rfl) (of_decide_eq_true (by kernel_rfl)) h4 bel lt4) (trodAll_cons_mk (Below.trod laidOut (by kernel_rfl) (of_decide_eq_true (by kernel_rfl)) h5 bel lt5) trodAll_mk0)))))), rfl, bel.frame _, fun h => by cases h⟩
theorem over3 : Rows.claimNarrowerRow.holds Try.pinned (OpenSpec.ofChange Rows.claimNarrowerSpec) :=
  OpenClaim.holds_of_wide 3 Try.f3 rfl rfl rfl rfl rfl rfl rfl ⟨rfl, rfl, rfl, rfl, rfl⟩ rfl rfl rfl rfl rfl (by kernel_rfl) Try.func3 (by kernel_rfl)
    (of_decide_eq_true (by kernel_rfl)) (by unfold Func.isWrapper; first | (rw [if_pos (by decide +kernel)]; kernel_rfl) | (rw [if_neg (by decide +kernel)]; exact ⟨rfl, rfl⟩))
    (fun os started H enc _ => lifted3 os started H enc)
theorem claim_narrower_holds : Rows.ClaimNarrowerSaid := over3
end Go.Proofs.Ytgijpimjfoabjaa

