/- Part 6 of the proof of: SchedulePlans: for every input the law returns true; each argument reads behind the call as it read before. -/
import Derived.Test.YtoiohkjomcbadaaP5
namespace Go.Proofs.Ytoiohkjomcbadaa
open Go Sy
set_option linter.unusedVariables false
def lastS (lg : List Rs) (i : Int) : Int := lg.foldl (fun acc r => if r.k = i then r.st else acc) (-1)
theorem lastS_snoc (lg : List Rs) (r : Rs) (i : Int) : lastS (lg ++ [r]) i = if r.k = i then r.st else lastS lg i := by
  unfold lastS; rw [List.foldl_append]; rfl
def stO (lg : List Rs) : Nat → Int := fun i => lastS lg i
theorem stO_snoc (lg : List Rs) (i : Nat) (b f n : Int) : stO (lg ++ [⟨i, b, f, n⟩]) = putF (stO lg) i n := by
  funext k
  unfold stO putF
  rw [lastS_snoc]
  dsimp only
  by_cases q : k = i
  · rw [if_pos (by omega), if_pos q]
  · rw [if_neg (by omega), if_neg q]
inductive LogOk (j : Jb) (L : List Af) : List Rs → Prop where
  | nil : LogOk j L []
  | first {lg : List Rs} {i : Nat} (h : LogOk j L lg) (hi : i < j.ts.length) (hk : ∀ r ∈ lg, r.k < i ∧ 0 ≤ r.st) : LogOk j L (lg ++ [⟨i, -1, 0, setN j i 0⟩])
  | raise {lg : List Rs} {a : Af} (h : LogOk j L lg) (ha : a ∈ L) (hp : ∀ i, i < j.ts.length → 0 ≤ stO lg i) (hr : stO lg a.b.toNat < stO lg a.a.toNat + a.g) : LogOk j L (lg ++ [⟨a.b.toNat, a.a, stO lg a.a.toNat + a.g, setN j a.b.toNat (stO lg a.a.toNat + a.g)⟩])
theorem setN_rng {j : Jb} (h : OkJ j) {i : Nat} (hi : i < j.ts.length) (fr : Int) : setN j i fr = -1 ∨ (0 ≤ setN j i fr ∧ fr ≤ setN j i fr ∧ setN j i fr ≤ 1099511627776 ∧ fitW (gt j.ts i).mi (setN j i fr) (gt j.ts i).ws) := by
  obtain ⟨hk, _⟩ := h.t i hi
  rcases fst_fit (mi := (gt j.ts i).mi) (fr := fr) hk.2.2 (Int.le_refl 0) hk.1 with q | ⟨q1, q2, q3⟩
  · exact .inl q
  · exact .inr ⟨q1, q2, fit_le hk.2.2 hk.1 q3, q3⟩
section
variable {j : Jb} {L : List Af} (h : OkJ j) (hL : ∀ a ∈ L, LkOk j.ts.length a)
include h hL
theorem log_rng {lg : List Rs} (hl : LogOk j L lg) : ∀ i, -1 ≤ stO lg i ∧ stO lg i ≤ 1099511627776 := by
  induction hl with
  | nil => intro i; exact ⟨Int.le_refl _, by show (-1 : Int) ≤ _; omega⟩
  | @first lg i hl hi hk ih =>
    intro k
    rw [stO_snoc]
    unfold putF
    have := setN_rng h hi 0
    have := ih k
    split <;> omega
  | @raise lg a hl ha hp hr ih =>
    intro k
    rw [stO_snoc]
    unfold putF
    obtain ⟨a1, a2, a3, a4, _⟩ := hL a ha
    have := setN_rng h (i := a.b.toNat) (by omega) (stO lg a.a.toNat + a.g)
    have := ih k
    split <;> omega
theorem log_low {lg : List Rs} (hl : LogOk j L lg) : Low j.ts L (stO lg) ∧ ((∃ r ∈ lg, r.st < 0) → ¬ ∃ p, Rgt j.ts L p) := by
  induction hl with
  | nil =>
    refine ⟨fun p hp i hi => ?_, fun ⟨r, hr, _⟩ => by cases hr⟩
    obtain ⟨w, hw, h1, _⟩ := hp.f i hi
    have := (h.t i hi).1.2.2.all w hw
    show (-1 : Int) ≤ p i
    omega
  | @first lg i hl hi hk ih =>
    have key : ∀ p, Rgt j.ts L p → 0 ≤ setN j i 0 ∧ setN j i 0 ≤ p i := fun p hp => by
      obtain ⟨hkk, _⟩ := h.t i hi
      have hf := hp.f i hi
      obtain ⟨w, hw, h1, _⟩ := hf
      have := hkk.2.2.all w hw
      exact fst_least hkk.2.2 (Int.le_refl 0) hkk.1 (by omega) (hp.f i hi)
    refine ⟨fun p hp k hk2 => ?_, fun ⟨r, hr, hneg⟩ ⟨p, hp⟩ => ?_⟩
    · rw [stO_snoc]
      unfold putF
      split
      · rename_i q; subst q; exact (key p hp).2
      · exact ih.1 p hp k hk2
    · rcases List.mem_append.1 hr with hr | hr
      · exact ih.2 ⟨r, hr, hneg⟩ ⟨p, hp⟩
      · rw [List.mem_singleton] at hr
        subst hr
        have := (key p hp).1
        dsimp only at hneg
        omega
  | @raise lg a hl ha hp hr ih =>
    obtain ⟨a1, a2, a3, a4, _⟩ := hL a ha
    have key := low_raise ih.1 ha (by omega) (by omega) (h.t a.b.toNat (by omega)).1
    refine ⟨?_, fun ⟨r, hr, hneg⟩ ⟨p, hp⟩ => ?_⟩
    · rw [stO_snoc]; exact key.2
    · rcases List.mem_append.1 hr with hr | hr
      · exact ih.2 ⟨r, hr, hneg⟩ ⟨p, hp⟩
      · rw [List.mem_singleton] at hr
        subst hr
        have h2 := key.1 p hp
        have e : setN j a.b.toNat (stO lg a.a.toNat + a.g) = fstW (j.ts.getD a.b.toNat dTk).mi (stO lg a.a.toNat + a.g) (j.ts.getD a.b.toNat dTk).ws := rfl
        dsimp only at hneg
        omega
omit hL in
theorem log_fit {lg : List Rs} (hl : LogOk j L lg) : ∀ i, i < j.ts.length → 0 ≤ stO lg i → fitW (gt j.ts i).mi (stO lg i) (gt j.ts i).ws := by
  induction hl with
  | nil => intro i _ h0; exact absurd h0 (by show ¬ (0 : Int) ≤ -1; omega)
  | @first lg i hl hi hk ih =>
    intro k hk2 h0
    rw [stO_snoc] at h0 ⊢
    unfold putF at h0 ⊢
    by_cases q : k = i
    · subst q
      rw [if_pos rfl] at h0 ⊢
      rcases setN_rng h hk2 0 with q | q
      · omega
      · exact q.2.2.2
    · rw [if_neg q] at h0 ⊢
      exact ih k hk2 h0
  | @raise lg a hl ha hp hr ih =>
    intro k hk2 h0
    rw [stO_snoc] at h0 ⊢
    unfold putF at h0 ⊢
    by_cases q : k = a.b.toNat
    · subst q
      rw [if_pos rfl] at h0 ⊢
      rcases setN_rng h hk2 (stO lg a.a.toNat + a.g) with q | q
      · omega
      · exact q.2.2.2
    · rw [if_neg q] at h0 ⊢
      exact ih k hk2 h0
end
structure EI (j : Jb) (L : List Af) (e : Es) : Prop where
  ss : e.ss = lsF j.ts.length (stO e.lg)
  lg : LogOk j L e.lg
theorem EI.len {j : Jb} {L : List Af} {e : Es} (h : EI j L e) : e.ss.length = j.ts.length := by rw [h.ss, lsF_len]
theorem EI.get {j : Jb} {L : List Af} {e : Es} (h : EI j L e) {i : Nat} (hi : i < j.ts.length) : gi e.ss i = stO e.lg i := by rw [h.ss, lsF_get hi]
def e1 (j : Jb) : Nat → Es
  | 0 => ⟨lsF j.ts.length fun _ => -1, [], false⟩
  | k + 1 => setE j k (-1) 0 (e1 j k)
structure E1 (j : Jb) (L : List Af) (k : Nat) (e : Es) : Prop extends EI j L e where
  len' : e.lg.length = k
  bef : ∀ r ∈ e.lg, r.k < k ∧ 0 ≤ r.st
  dd : e.dd = false
  pos : ∀ i, i < k → 0 ≤ stO e.lg i
theorem e1_ok {j : Jb} {L : List Af} : ∀ k, k ≤ j.ts.length → (∀ i, i < k → 0 ≤ setN j i 0) → E1 j L k (e1 j k)
  | 0, _, _ => ⟨⟨by unfold e1; rfl, .nil⟩, rfl, fun r hr => (by cases hr), rfl, fun i hi => (by omega)⟩
  | k + 1, hk, hp => by
    have h := e1_ok (L := L) k (by omega) (fun i hi => hp i (by omega))
    have hn := hp k (by omega)
    refine ⟨⟨?_, ?_⟩, ?_, fun r hr => ?_, ?_, fun i hi => ?_⟩
    · show (e1 j k).ss.set k (setN j k 0) = lsF _ (stO ((e1 j k).lg ++ [⟨k, -1, 0, setN j k 0⟩]))
      rw [stO_snoc, h.ss, lsF_set (by omega)]
    · exact .first h.lg (by omega) h.bef
    · show ((e1 j k).lg ++ [_]).length = k + 1
      rw [List.length_append, h.len']; rfl
    · rcases List.mem_append.1 (show r ∈ (e1 j k).lg ++ [⟨k, -1, 0, setN j k 0⟩] from hr) with hr | hr
      · have := h.bef r hr
        omega
      · rw [List.mem_singleton] at hr
        subst hr
        dsimp only
        omega
    · show (!decide (0 ≤ setN j k 0)) = false
      rw [decide_eq_true hn]; rfl
    · show 0 ≤ stO ((e1 j k).lg ++ [⟨k, -1, 0, setN j k 0⟩]) i
      rw [stO_snoc]
      unfold putF
      split
      · exact hn
      · exact h.pos i (by omega)
theorem e1_dead {j : Jb} {L : List Af} (h : OkJ j) (hL : ∀ a ∈ L, LkOk j.ts.length a) {k : Nat} (hk : k < j.ts.length) (hp : ∀ i, i < k → 0 ≤ setN j i 0) (hn : setN j k 0 < 0) : LogOk j L (e1 j (k + 1)).lg ∧ ¬ ∃ p, Rgt j.ts L p := by
  have h1 := e1_ok (L := L) k (by omega) hp
  have h2 : LogOk j L (e1 j (k + 1)).lg := .first h1.lg hk h1.bef
  refine ⟨h2, (log_low h hL h2).2 ⟨⟨k, -1, 0, setN j k 0⟩, List.mem_append_right _ List.mem_cons_self, hn⟩⟩
theorem raise_no {j : Jb} {a : Af} {e : Es} (hc : canE a e = false) : raiseE j a e = e := by unfold raiseE; rw [hc, if_neg (by decide)]
theorem raise_ei {j : Jb} {L : List Af} (hL : ∀ a ∈ L, LkOk j.ts.length a) {e : Es} (h : EI j L e) {a : Af} (ha : a ∈ L) (hp : ∀ i, i < j.ts.length → 0 ≤ stO e.lg i) : EI j L (raiseE j a e) := by
  obtain ⟨a1, a2, a3, a4, _⟩ := hL a ha
  cases hc : canE a e
  · rw [raise_no hc]; exact h
  · unfold raiseE
    rw [hc, if_pos rfl]
    have e1 := h.get (i := a.a.toNat) (by omega)
    have e2 := h.get (i := a.b.toNat) (by omega)
    have hr : stO e.lg a.b.toNat < stO e.lg a.a.toNat + a.g := by
      unfold canE at hc
      rw [decide_eq_true_eq, e1, e2] at hc
      exact hc
    refine ⟨?_, ?_⟩
    · show e.ss.set a.b.toNat (setN j a.b.toNat (gi e.ss a.a.toNat + a.g)) = lsF _ (stO (e.lg ++ [_]))
      rw [stO_snoc, h.ss, lsF_set (by omega)]
    · show LogOk j L (e.lg ++ [⟨a.b.toNat, a.a, gi e.ss a.a.toNat + a.g, setN j a.b.toNat (gi e.ss a.a.toNat + a.g)⟩])
      rw [e1]
      exact .raise h.lg ha hp hr
theorem raise_len {j : Jb} {a : Af} {e : Es} : (raiseE j a e).lg.length ≤ e.lg.length + 1 := by
  unfold raiseE
  split
  · show (e.lg ++ [_]).length ≤ _
    rw [List.length_append]; exact Nat.le_refl _
  · omega
theorem raise_eng {j : Jb} {L : List Af} (h : OkJ j) (hL : ∀ a ∈ L, LkOk j.ts.length a) {e : Es} (hE : EI j L e) {a : Af} (ha : a ∈ L) (hp : ∀ i, i < j.ts.length → 0 ≤ stO e.lg i) (hd : e.dd = false) :
    ((raiseE j a e).dd = true → ¬ ∃ p, Rgt j.ts L p) ∧ ((raiseE j a e).dd = false → eng j.ts (stO e.lg) (lkO a) = some (stO (raiseE j a e).lg) ∧ raiseB j a e = decide (stO e.lg (lkO a).b < stO e.lg (lkO a).a + (lkO a).g) ∧ ∀ i, i < j.ts.length → 0 ≤ stO (raiseE j a e).lg i) := by
  obtain ⟨a1, a2, a3, a4, _⟩ := hL a ha
  have q1 := hE.get (i := a.a.toNat) (by omega)
  have q2 := hE.get (i := a.b.toNat) (by omega)
  have hcb : canE a e = decide (stO e.lg a.b.toNat < stO e.lg a.a.toNat + a.g) := by unfold canE; rw [q1, q2]
  have hEI := raise_ei hL hE ha hp
  cases hc : canE a e
  · rw [raise_no hc]
    rw [hc] at hcb
    refine ⟨fun q => (by rw [hd] at q; cases q), fun _ => ⟨?_, ?_, hp⟩⟩
    · unfold eng
      rw [if_neg]
      exact of_decide_eq_false hcb.symm
    · unfold raiseB
      rw [hc, Bool.false_and]
      exact hcb
  · rw [hc] at hcb
    have hr : raiseE j a e = setE j a.b.toNat a.a (gi e.ss a.a.toNat + a.g) e := by unfold raiseE; rw [hc, if_pos rfl]
    have hdd : (raiseE j a e).dd = !decide (0 ≤ setN j a.b.toNat (stO e.lg a.a.toNat + a.g)) := by rw [hr, q1]; rfl
    have hlg : (raiseE j a e).lg = e.lg ++ [⟨a.b.toNat, a.a, stO e.lg a.a.toNat + a.g, setN j a.b.toNat (stO e.lg a.a.toNat + a.g)⟩] := by rw [hr, q1]; rfl
    constructor
    · intro hq
      rw [hdd, Bool.not_eq_true', decide_eq_false_iff_not] at hq
      refine (log_low h hL hEI.lg).2 ⟨⟨a.b.toNat, a.a, stO e.lg a.a.toNat + a.g, setN j a.b.toNat (stO e.lg a.a.toNat + a.g)⟩, ?_, by dsimp only; omega⟩
      rw [hlg]; exact List.mem_append_right _ List.mem_cons_self
    · intro hq
      rw [hdd, Bool.not_eq_false', decide_eq_true_eq] at hq
      refine ⟨?_, ?_, fun i hi => ?_⟩
      · unfold eng
        have hlt : stO e.lg (lkO a).b < stO e.lg (lkO a).a + (lkO a).g := of_decide_eq_true hcb.symm
        rw [if_pos hlt, if_neg (by show ¬ setN j a.b.toNat (stO e.lg a.a.toNat + a.g) < 0; omega), hlg, stO_snoc]
        rfl
      · unfold raiseB
        rw [hc, Bool.true_and, q1, decide_eq_true hq]
        exact hcb
      · rw [hlg, stO_snoc]
        unfold putF
        split
        · exact hq
        · exact hp i hi
theorem raise_st {j : Jb} {a : Af} {e : Es} (hd : (raiseE j a e).dd = false) (h : ∀ r ∈ e.lg, 0 ≤ r.st) : ∀ r ∈ (raiseE j a e).lg, 0 ≤ r.st := by
  cases hc : canE a e
  · rw [raise_no hc]; exact h
  · have hr : raiseE j a e = setE j a.b.toNat a.a (gi e.ss a.a.toNat + a.g) e := by unfold raiseE; rw [hc, if_pos rfl]
    rw [hr] at hd ⊢
    have hd' : (!decide (0 ≤ setN j a.b.toNat (gi e.ss a.a.toNat + a.g))) = false := hd
    rw [Bool.not_eq_false', decide_eq_true_eq] at hd'
    intro r hx
    rcases List.mem_append.1 (show r ∈ e.lg ++ [_] from hx) with hx | hx
    · exact h r hx
    · rw [List.mem_singleton] at hx
      subst hx
      exact hd'
theorem raise_dead {j : Jb} {L : List Af} (h : OkJ j) (hL : ∀ a ∈ L, LkOk j.ts.length a) {a : Af} (ha : a ∈ L) {e : Es} (h0 : e.dd = false) (hd : (raiseE j a e).dd = true) : ∃ r, (raiseE j a e).lg = e.lg ++ [r] ∧ r.st = -1 := by
  obtain ⟨a1, a2, a3, a4, _⟩ := hL a ha
  cases hc : canE a e
  · rw [raise_no hc, h0] at hd; cases hd
  · have hr : raiseE j a e = setE j a.b.toNat a.a (gi e.ss a.a.toNat + a.g) e := by unfold raiseE; rw [hc, if_pos rfl]
    rw [hr] at hd ⊢
    have hd' : (!decide (0 ≤ setN j a.b.toNat (gi e.ss a.a.toNat + a.g))) = true := hd
    rw [Bool.not_eq_true', decide_eq_false_iff_not] at hd'
    refine ⟨_, rfl, ?_⟩
    rcases setN_rng h (i := a.b.toNat) (by omega) (gi e.ss a.a.toNat + a.g) with q | q
    · exact q
    · omega
structure OI (j : Jb) (L : List Af) (e : Es) (P : Nat) (ag : Bool) : Prop where
  ei : EI j L e
  dd : e.dd = false
  pos : ∀ i, i < j.ts.length → 0 ≤ stO e.lg i
  st : ∀ r ∈ e.lg, 0 ≤ r.st
  len : e.lg.length ≤ j.ts.length + P * L.length
  bt : ag = true → Btw j.ts (lkL L) j.ts.length (stO e.lg) P
  fin : ag = false → ∀ x ∈ lkL L, stO e.lg x.a + x.g ≤ stO e.lg x.b
  mx : P ≤ 19300
structure PI (j : Jb) (L : List Af) (o : Nat → Int) (P q : Nat) (e : Es) (ag : Bool) : Prop where
  ei : EI j L e
  dd : e.dd = false
  pos : ∀ i, i < j.ts.length → 0 ≤ stO e.lg i
  st : ∀ r ∈ e.lg, 0 ≤ r.st
  len : e.lg.length ≤ j.ts.length + P * L.length + q
  ip : InP j.ts (lkL L) o q (stO e.lg) ag
section
variable {j : Jb} {L : List Af} (h : OkJ j) (hL : ∀ a ∈ L, LkOk j.ts.length a)
include h hL
omit h hL in
theorem oi_zero : (∀ i, i < j.ts.length → 0 ≤ setN j i 0) → OI j L (e1 j j.ts.length) 0 true := fun hp => by
  have h1 := e1_ok (L := L) j.ts.length (Nat.le_refl _) hp
  exact ⟨h1.toEI, h1.dd, h1.pos, fun r hr => (h1.bef r hr).2, by rw [h1.len']; omega, fun _ => btw_zero _ _ _ _, fun q => (by cases q), by omega⟩
theorem pi_step {o : Nat → Int} {P q : Nat} {e : Es} {ag : Bool} (hp : PI j L o P q e ag) (hq : q < L.length) {a : Af} (ha : L.getD q dAf = a) (hd : (raiseE j a e).dd = false) : PI j L o P (q + 1) (raiseE j a e) (raiseB j a e || ag) := by
  have hm : a ∈ L := by rw [← ha]; exact getD_mem' dAf L q hq
  obtain ⟨e1, e2, e3⟩ := (raise_eng h hL hp.ei hm hp.pos hp.dd).2 hd
  refine ⟨raise_ei hL hp.ei hm hp.pos, hd, e3, raise_st hd hp.st, ?_, ?_⟩
  · have := hp.len
    have := raise_len (j := j) (a := a) (e := e)
    omega
  · rw [e2]
    refine inp_step hp.ip ?_ ?_ e1
    · rw [List.getElem?_map]
      have : L[q]? = some a := by
        rw [List.getElem?_eq_getElem hq]
        congr 1
        rw [← ha]
        simp [List.getD, List.getElem?_eq_getElem hq]
      rw [this]; rfl
    · obtain ⟨a1, a2, a3, a4, _⟩ := hL a hm
      show a.b.toNat < _
      omega
omit hL in
theorem oi_bound {e : Es} {P : Nat} (ho : OI j L e P true) : P ≤ 19224 := by
  have hb := btw_max (ho.bt rfl) (W := 32) h.w
  have hn := h.n
  have h1 : j.ts.length * 32 * (j.ts.length + 1) ≤ 24 * 32 * 25 := Nat.mul_le_mul (Nat.mul_le_mul_right _ hn) (by omega)
  omega
theorem oi_next (hc : ∀ x s c, Wx (lkL L) x x s c → 0 < c → c ≤ j.ts.length → s ≤ 0) {e e' : Es} {P : Nat} {ag : Bool} (ho : OI j L e P true) (hp : PI j L (stO e.lg) P L.length e' ag) : OI j L e' (P + 1) ag := by
  have hb := oi_bound h ho
  have hip := hp.ip
  rw [show L.length = (lkL L).length by rw [List.length_map]] at hip
  refine ⟨hp.ei, hp.dd, hp.pos, hp.st, ?_, fun q => ?_, fun q => ?_, by omega⟩
  · have := hp.len
    rw [Nat.add_mul]
    omega
  · subst q
    exact btw_step (lk_in hL) hc (ho.bt rfl) hip
  · subst q
    obtain ⟨q1, q2⟩ := inp_end hip
    rw [q1]; exact q2
omit h hL in
theorem oi_end {e : Es} {P : Nat} (ho : OI j L e P false) : ∀ a ∈ L, stO e.lg a.a.toNat + a.g ≤ stO e.lg a.b.toNat := fun a ha => ho.fin rfl (lkO a) (List.mem_map.2 ⟨a, ha, rfl⟩)
end
end Go.Proofs.Ytoiohkjomcbadaa

namespace Go.Proofs.Ytoiohkjomcbadaa
open Go Sy
set_option maxRecDepth 100000
set_option maxHeartbeats 4000000
set_option linter.unusedVariables false
set_option linter.unusedSimpArgs false
structure RunOk (j : Jb) (L : List Af) (ok : Bool) (e : Es) : Prop where
  ei : EI j L e
  len : e.lg.length ≤ 10000000
  ys : ok = true → (∀ i, i < j.ts.length → 0 ≤ stO e.lg i) ∧ (∀ a ∈ L, stO e.lg a.a.toNat + a.g ≤ stO e.lg a.b.toNat) ∧ ∀ r ∈ e.lg, 0 ≤ r.st
  no : ok = false → (¬ ∃ p, Rgt j.ts L p) ∧ ∃ lg r, e.lg = lg ++ [r] ∧ r.st = -1 ∧ ∀ x ∈ lg, 0 ≤ x.st
theorem i71 (b : Nat) (j : Jb) (L : List Af) (h : OkJ j) (hL : ∀ a ∈ L, LkOk j.ts.length a) (hll : L.length ≤ 240) (hc : ∀ x s c, Wx (lkL L) x x s c → 0 < c → c ≤ j.ts.length → s ≤ 0) {tm : List (Nat × AV)} {R : Mem} {nx : Nat} (hR : Opq 60 R nx) :
    Inl Try.prog 71 [.own 14 0] ⟨tm, engE b j L (e1 j 0) ++ R, nx⟩ (MidX 60 tm nx R fun r B' => ∃ ok e, r = bv ok ∧ B' = engE b j L e ∧ RunOk j L ok e) := by
  refine Inl_opq mixed Xt71 rfl hR (engM_bas b j L _ _ _) (fun R' nx' hR' => ?_)
  have hN := hR'.n
  have hn := h.n
  have hs0 : (e1 j 0).ss.length = j.ts.length := (e1_ok (L := L) 0 (by omega) (fun i hi => by omega)).len
  obtain ⟨KK, hKK⟩ : ∃ KK : AV → Mem → Prop, KK = fun r B' => ∃ ok e, r = bv ok ∧ B' = engE b j L e ∧ RunOk j L ok e := ⟨_, rfl⟩
  rw [← hKK]
  have fin : ∀ (s' : S) (ok : Bool) (e : Es) (R2 : Mem), lk s'.tm 2 = bv ok → sameM (engE b j L e ++ R2) s'.mem → Ext nx' R' s'.nx R2 → RunOk j L ok e → FinX 60 [.t 2] nx' R' KK .r s' := fun s' ok e R2 h1 h2 h3 h4 =>
    ⟨[bv ok], _, R2, ⟨h1.symm, rfl⟩, h2, engM_bas _ _ _ _ _ _, h3, by rw [hKK]; exact ⟨ok, e, rfl, rfl, h4⟩⟩
  clear hKK
  have hsn : ∀ k, (e1 j k).ss.length = j.ts.length := fun k => by
    induction k with
    | zero => exact hs0
    | succ k ih => show ((e1 j k).ss.set k (setN j k 0)).length = _; rw [List.length_set, ih]
  have hln : ∀ k, (e1 j k).lg.length = k := fun k => by
    induction k with
    | zero => rfl
    | succ k ih => show ((e1 j k).lg ++ [_]).length = _; rw [List.length_append, ih]; rfl
  obtain ⟨e, he⟩ : ∃ e, e = e1 j 0 := ⟨_, rfl⟩
  rw [← he] at hs0 ⊢
  simp (maxSteps := 400000) (disch := omega) only [push_cast, ↓reduceIte, reduceCtorEq, Nat.reduceAdd, Nat.reduceSub, Nat.reduceEqDiff, Nat.reduceLeDiff, Nat.reduceLT, Nat.reduceBEq, Nat.reduceDiv, Nat.reduceMod, Nat.reducePow, Nat.reduceMul, Int.reduceToNat, Int.reduceLT, Int.reduceLE, initT, engM, List.cons_append, List.nil_append]
  repeat' (first | refine w1g ?_ | refine w1l ?_ | refine w1q ?_ | refine w1b ?_ | refine w1p ?_ | ((first | refine w1r ?_ | refine w1k ?_ | refine w1e ?_); simp (maxSteps := 400000) (disch := omega) only [push_cast, ↓reduceIte, reduceCtorEq, Nat.reduceAdd, Nat.reduceSub, Nat.reduceEqDiff, Nat.reduceLeDiff, Nat.reduceLT, Nat.reduceBEq, Nat.reduceDiv, Nat.reduceMod, Nat.reducePow, Nat.reduceMul, Int.reduceToNat, Int.reduceLT, Int.reduceLE, ne_l, ne_r, hs0]) | refine an2 ?_ | fail)
  refine W_loopX 60 (fun k : Nat => [(12, iv k)]) (fun k => engE b j L (e1 j k)) (fun k => k ≤ j.ts.length ∧ ∀ i, i < k → 0 ≤ setN j i 0) (fun k => j.ts.length - k) (fun k _ => engM_bas _ _ _ _ _ _) (hR'.le (show nx' ≤ nx' + 7 by omega)) 0 ⟨by omega, fun i hi => by omega⟩ (by rfl) (by rw [← he]; exact sameM.refl _) (fun k R1 nx1 hk hX => ?_)
  obtain ⟨hkn, hpos⟩ := hk
  have hX' : Ext nx' R' nx1 R1 := ((Ext.refl hR').up (show nx' ≤ nx' + 7 by omega)).trans hX
  have hN1 := (hX'.opq hR').n
  have hI := fun (hlt : k < j.ts.length) (tm : List (Nat × AV)) (R2 : Mem) (nx2 : Nat) (hR2 : Opq 60 R2 nx2) => i113 b j L (e1 j k).ss (e1 j k).lg (e1 j k).dd h k (-1) 0 hlt (hsn k) (by rw [hln]; omega) (by omega) (tm := tm) hR2
  clear he hs0
  simp (maxSteps := 400000) (disch := omega) only [push_cast, ↓reduceIte, reduceCtorEq, Nat.reduceAdd, Nat.reduceSub, Nat.reduceEqDiff, Nat.reduceLeDiff, Nat.reduceLT, Nat.reduceBEq, Nat.reduceDiv, Nat.reduceMod, Nat.reducePow, Nat.reduceMul, Int.reduceToNat, Int.reduceLT, Int.reduceLE, keepL]
  repeat' (first | refine w1g ?_ | refine w1l ?_ | refine w1q ?_ | refine w1b ?_ | refine w1p ?_ | ((first | refine w1r ?_ | refine w1k ?_ | refine w1e ?_); simp (maxSteps := 400000) (disch := omega) only [push_cast, ↓reduceIte, reduceCtorEq, Nat.reduceAdd, Nat.reduceSub, Nat.reduceEqDiff, Nat.reduceLeDiff, Nat.reduceLT, Nat.reduceBEq, Nat.reduceDiv, Nat.reduceMod, Nat.reducePow, Nat.reduceMul, Int.reduceToNat, Int.reduceLT, Int.reduceLE, keepL]) | refine an2 ?_ | fail)
  refine W_condD (by rfl) (fun h5 => ?_) (fun h5 => ?_)
  · have hlt : k < j.ts.length := by omega
    have hdead := fun q => e1_dead (L := L) h hL hlt hpos q
    have hs1 : (e1 j (k + 1)) = setE j k (-1) 0 (e1 j k) := rfl
    have hdd : (e1 j (k + 1)).dd = !decide (0 ≤ setN j k 0) := rfl
    have hl1 : (e1 j (k + 1)).lg = (e1 j k).lg ++ [⟨k, -1, 0, setN j k 0⟩] := rfl
    repeat' (first | refine w1g ?_ | refine w1l ?_ | refine w1q ?_ | refine w1b ?_ | refine w1p ?_ | ((first | refine w1r ?_ | refine w1k ?_ | refine w1e ?_); simp (maxSteps := 400000) (disch := omega) only [push_cast, ↓reduceIte, reduceCtorEq, Nat.reduceAdd, Nat.reduceSub, Nat.reduceEqDiff, Nat.reduceLeDiff, Nat.reduceLT, Nat.reduceBEq, Nat.reduceDiv, Nat.reduceMod, Nat.reducePow, Nat.reduceMul, Int.reduceToNat, Int.reduceLT, Int.reduceLE, keepL]) | refine an2 ?_ | fail)
    refine CallC.inl (Inl_le' (hI hlt _ R1 _ ((hX'.opq hR').le (by omega))) (fun r s' hs2 => ?_))
    obtain ⟨B', R2, nx2, hB', hX2, ⟨rfl, hBe⟩, hl⟩ := hs2
    refine ⟨_, ?_, hl⟩
    have hBe2 : B' = engE b j L (e1 j (k + 1)) := hBe
    clear hI hBe hl
    subst hBe2
    (refine sy1 ?_; try exact True.intro)
    by_cases hp : 0 ≤ setN j k 0
    · rw [decide_eq_true hp]
      refine W_cond (by rfl) (fun h => by cases h) (fun _ => ?_)
      repeat' (first | refine w1g ?_ | refine w1l ?_ | refine w1q ?_ | refine w1b ?_ | refine w1p ?_ | ((first | refine w1r ?_ | refine w1k ?_ | refine w1e ?_); simp (maxSteps := 400000) (disch := omega) only [push_cast, ↓reduceIte, reduceCtorEq, Nat.reduceAdd, Nat.reduceSub, Nat.reduceEqDiff, Nat.reduceLeDiff, Nat.reduceLT, Nat.reduceBEq, Nat.reduceDiv, Nat.reduceMod, Nat.reducePow, Nat.reduceMul, Int.reduceToNat, Int.reduceLT, Int.reduceLE, keepL]) | refine an2 ?_ | fail)
      refine ⟨k + 1, R2, ⟨by omega, up_all hpos hp⟩, by omega, by rfl, sameM.refl _, ?_⟩
      exact (hX2.dn (by omega)).up (by first | omega | (dsimp only; omega))
    · rw [decide_eq_false hp]
      refine W_cond (by rfl) (fun _ => ?_) (fun h => by cases h)
      repeat' (first | refine w1g ?_ | refine w1l ?_ | refine w1q ?_ | refine w1b ?_ | refine w1p ?_ | ((first | refine w1r ?_ | refine w1k ?_ | refine w1e ?_); simp (maxSteps := 400000) (disch := omega) only [push_cast, ↓reduceIte, reduceCtorEq, Nat.reduceAdd, Nat.reduceSub, Nat.reduceEqDiff, Nat.reduceLeDiff, Nat.reduceLT, Nat.reduceBEq, Nat.reduceDiv, Nat.reduceMod, Nat.reducePow, Nat.reduceMul, Int.reduceToNat, Int.reduceLT, Int.reduceLE, keepL]) | refine an2 ?_ | fail)
      obtain ⟨d1, d2⟩ := hdead (by omega)
      have h1 := e1_ok (L := L) k (by omega) hpos
      refine W_ret ?_
      refine fin _ false (e1 j (k + 1)) R2 (by rfl) (by exact sameM.refl _) ((hX'.trans (hX2.dn (by omega))).up (by first | omega | (dsimp only; omega))) ⟨⟨?_, d1⟩, by rw [hln]; omega, fun q => (by cases q), fun _ => ⟨d2, _, _, hl1, ?_, fun x hx => (h1.bef x hx).2⟩⟩
      · rw [hs1]
        show (e1 j k).ss.set k (setN j k 0) = lsF _ (stO ((e1 j k).lg ++ [⟨k, -1, 0, setN j k 0⟩]))
        rw [stO_snoc, h1.ss, lsF_set (by omega)]
      · rcases setN_rng h hlt 0 with q | q
        · exact q
        · omega
  obtain rfl : k = j.ts.length := by omega
  have hO := oi_zero (L := L) hpos
  generalize e1 j j.ts.length = e0 at *
  clear hI hsn hln hpos hkn h5
  repeat' (first | refine w1g ?_ | refine w1l ?_ | refine w1q ?_ | refine w1b ?_ | refine w1p ?_ | ((first | refine w1r ?_ | refine w1k ?_ | refine w1e ?_); simp (maxSteps := 400000) (disch := omega) only [push_cast, ↓reduceIte, reduceCtorEq, Nat.reduceAdd, Nat.reduceSub, Nat.reduceEqDiff, Nat.reduceLeDiff, Nat.reduceLT, Nat.reduceBEq, Nat.reduceDiv, Nat.reduceMod, Nat.reducePow, Nat.reduceMul, Int.reduceToNat, Int.reduceLT, Int.reduceLE, keepL]) | refine an2 ?_ | fail)
  refine W_loopX 60 (fun u : Es × Nat × Bool => [(4, bv u.2.2)]) (fun u => engE b j L u.1) (fun u => OI j L u.1 u.2.1 u.2.2) (fun u => if u.2.2 = true then 19300 - u.2.1 else 0) (fun u _ => engM_bas _ _ _ _ _ _) ((hX'.opq hR').le (show nx1 ≤ nx1 + 2 by omega)) (e0, 0, true) hO (by rfl) (sameM.refl _) (fun u R2 nx2 hu hX2 => ?_)
  obtain ⟨e, P, ag⟩ := u
  dsimp only at hu ⊢
  have hX3 : Ext nx' R' nx2 R2 := (hX'.up (show nx1 ≤ nx1 + 2 by omega)).trans hX2
  clear hX2 hX' hX hO e0 R1 nx1 hN1
  simp (maxSteps := 400000) (disch := omega) only [push_cast, ↓reduceIte, reduceCtorEq, Nat.reduceAdd, Nat.reduceSub, Nat.reduceEqDiff, Nat.reduceLeDiff, Nat.reduceLT, Nat.reduceBEq, Nat.reduceDiv, Nat.reduceMod, Nat.reducePow, Nat.reduceMul, Int.reduceToNat, Int.reduceLT, Int.reduceLE, keepL]
  repeat' (first | refine w1g ?_ | refine w1l ?_ | refine w1q ?_ | refine w1b ?_ | refine w1p ?_ | ((first | refine w1r ?_ | refine w1k ?_ | refine w1e ?_); simp (maxSteps := 400000) (disch := omega) only [push_cast, ↓reduceIte, reduceCtorEq, Nat.reduceAdd, Nat.reduceSub, Nat.reduceEqDiff, Nat.reduceLeDiff, Nat.reduceLT, Nat.reduceBEq, Nat.reduceDiv, Nat.reduceMod, Nat.reducePow, Nat.reduceMul, Int.reduceToNat, Int.reduceLT, Int.reduceLE, keepL]) | refine an2 ?_ | fail)
  cases ag
  · refine W_cond (by rfl) (fun h => by cases h) (fun _ => ?_)
    repeat' (first | refine w1g ?_ | refine w1l ?_ | refine w1q ?_ | refine w1b ?_ | refine w1p ?_ | ((first | refine w1r ?_ | refine w1k ?_ | refine w1e ?_); simp (maxSteps := 400000) (disch := omega) only [push_cast, ↓reduceIte, reduceCtorEq, Nat.reduceAdd, Nat.reduceSub, Nat.reduceEqDiff, Nat.reduceLeDiff, Nat.reduceLT, Nat.reduceBEq, Nat.reduceDiv, Nat.reduceMod, Nat.reducePow, Nat.reduceMul, Int.reduceToNat, Int.reduceLT, Int.reduceLE, keepL]) | refine an2 ?_ | fail)
    refine W_ret ?_
    refine fin _ true e R2 (by rfl) (by exact sameM.refl _) (hX3.up (by first | omega | (dsimp only; omega))) ⟨hu.ei, ?_, fun _ => ⟨hu.pos, oi_end hu, hu.st⟩, fun q => (by cases q)⟩
    have h1 := hu.len
    have h2 := hu.mx
    have h3 : P * L.length ≤ 19300 * 240 := Nat.mul_le_mul h2 hll
    omega
  refine W_cond (by rfl) (fun _ => ?_) (fun h => by cases h)
  have hbd := oi_bound h hu
  have hp0 : PI j L (stO e.lg) P 0 e false := ⟨hu.ei, hu.dd, hu.pos, hu.st, by have := hu.len; omega, inp_zero _ _ _⟩
  have hne := fun e' ag' hp => oi_next h hL hc hu (e' := e') (ag := ag') hp
  have hN2 := (hX3.opq hR').n
  simp (maxSteps := 400000) (disch := omega) only [push_cast, ↓reduceIte, reduceCtorEq, Nat.reduceAdd, Nat.reduceSub, Nat.reduceEqDiff, Nat.reduceLeDiff, Nat.reduceLT, Nat.reduceBEq, Nat.reduceDiv, Nat.reduceMod, Nat.reducePow, Nat.reduceMul, Int.reduceToNat, Int.reduceLT, Int.reduceLE, engM, List.cons_append, List.nil_append]
  repeat' (first | refine w1g ?_ | refine w1l ?_ | refine w1q ?_ | refine w1b ?_ | refine w1p ?_ | ((first | refine w1r ?_ | refine w1k ?_ | refine w1e ?_); simp (maxSteps := 400000) (disch := omega) only [push_cast, ↓reduceIte, reduceCtorEq, Nat.reduceAdd, Nat.reduceSub, Nat.reduceEqDiff, Nat.reduceLeDiff, Nat.reduceLT, Nat.reduceBEq, Nat.reduceDiv, Nat.reduceMod, Nat.reducePow, Nat.reduceMul, Int.reduceToNat, Int.reduceLT, Int.reduceLE, keepL, ne_l, ne_r]) | refine an2 ?_ | fail)
  refine W_loopX 60 (fun v : Nat × Es × Bool => [(4, bv v.2.2), (26, iv v.1)]) (fun v => engE b j L v.2.1) (fun v => v.1 ≤ L.length ∧ PI j L (stO e.lg) P v.1 v.2.1 v.2.2) (fun v => L.length - v.1) (fun v _ => engM_bas _ _ _ _ _ _) ((hX3.opq hR').le (show nx2 ≤ nx2 + 9 by omega)) (0, e, false) ⟨by dsimp only; omega, hp0⟩ (by rfl) (sameM.refl _) (fun v R3 nx3 hv hX4 => ?_)
  obtain ⟨q, f, ag⟩ := v
  obtain ⟨hq, hp⟩ := hv
  dsimp only at hq hp ⊢
  have hX5 : Ext nx' R' nx3 R3 := (hX3.up (show nx2 ≤ nx2 + 9 by omega)).trans hX4
  have hN3 := (hX5.opq hR').n
  clear hX3 hN2 hp0
  have hfl := hp.ei.len
  simp (maxSteps := 400000) (disch := omega) only [push_cast, ↓reduceIte, reduceCtorEq, Nat.reduceAdd, Nat.reduceSub, Nat.reduceEqDiff, Nat.reduceLeDiff, Nat.reduceLT, Nat.reduceBEq, Nat.reduceDiv, Nat.reduceMod, Nat.reducePow, Nat.reduceMul, Int.reduceToNat, Int.reduceLT, Int.reduceLE, keepL]
  repeat' (first | refine w1g ?_ | refine w1l ?_ | refine w1q ?_ | refine w1b ?_ | refine w1p ?_ | ((first | refine w1r ?_ | refine w1k ?_ | refine w1e ?_); simp (maxSteps := 400000) (disch := omega) only [push_cast, ↓reduceIte, reduceCtorEq, Nat.reduceAdd, Nat.reduceSub, Nat.reduceEqDiff, Nat.reduceLeDiff, Nat.reduceLT, Nat.reduceBEq, Nat.reduceDiv, Nat.reduceMod, Nat.reducePow, Nat.reduceMul, Int.reduceToNat, Int.reduceLT, Int.reduceLE, keepL]) | refine an2 ?_ | fail)
  refine W_condD (by rfl) (fun h6 => ?_) (fun h6 => ?_)
  · have hql : q < L.length := by omega
    obtain ⟨a, ha⟩ : ∃ a, L.getD q dAf = a := ⟨_, rfl⟩
    have ham : a ∈ L := by rw [← ha]; exact getD_mem' dAf L q hql
    have hst := fun hd => pi_step h hL hp hql ha hd
    have hrl := raise_len (j := j) (a := a) (e := f)
    have hei := raise_ei hL hp.ei ham hp.pos
    have hdn := (raise_eng h hL hp.ei ham hp.pos hp.dd).1
    have hdd := raise_dead h hL ham hp.dd
    have hflen : f.lg.length ≤ 5000000 := by
      have h1 := hp.len
      have h3 : P * L.length ≤ 19300 * 240 := Nat.mul_le_mul (by omega) hll
      omega
    have hI := fun (tm : List (Nat × AV)) (R2 : Mem) (nx2 : Nat) (hR2 : Opq 60 R2 nx2) => i112 b j L f h a (hL a ham) hfl (fun i hi => by rw [hp.ei.get hi]; exact log_rng h hL hp.ei.lg i) (by omega) (tm := tm) hR2
    simp (maxSteps := 400000) (disch := omega) only [push_cast, ↓reduceIte, reduceCtorEq, Nat.reduceAdd, Nat.reduceSub, Nat.reduceEqDiff, Nat.reduceLeDiff, Nat.reduceLT, Nat.reduceBEq, Nat.reduceDiv, Nat.reduceMod, Nat.reducePow, Nat.reduceMul, Int.reduceToNat, Int.reduceLT, Int.reduceLE, engM, List.cons_append, List.nil_append]
    repeat' (first | refine w1g ?_ | refine w1l ?_ | refine w1q ?_ | refine w1b ?_ | refine w1p ?_ | ((first | refine w1r ?_ | refine w1k ?_ | refine w1e ?_); simp (maxSteps := 400000) (disch := omega) only [push_cast, ↓reduceIte, reduceCtorEq, Nat.reduceAdd, Nat.reduceSub, Nat.reduceEqDiff, Nat.reduceLeDiff, Nat.reduceLT, Nat.reduceBEq, Nat.reduceDiv, Nat.reduceMod, Nat.reducePow, Nat.reduceMul, Int.reduceToNat, Int.reduceLT, Int.reduceLE, keepL, ne_l, ne_r, ha]) | refine an2 ?_ | fail)
    refine CallC.inl (Inl_sameM (engE b j L f ++ R3) _ (sameM.refl _) (((hX5.opq hR').le (Nat.le_refl _)).mem (engM_bas b j L _ _ _)) (Inl_le' (hI _ R3 _ (hX5.opq hR')) (fun r s' hs2 => ?_)))
    obtain ⟨B', R4, nx4, hB', hX6, ⟨rfl, rfl⟩, hl⟩ := hs2
    refine ⟨_, ?_, hl⟩
    clear hI hl hB'
    generalize raiseE j a f = g at *
    generalize raiseB j a f = rb at *
    have hgl : g.lg.length ≤ 10000000 := by omega
    have hX7 : Ext nx' R' nx4 R4 := hX5.trans hX6
    have hN4 := (hX7.opq hR').n
    simp (maxSteps := 400000) (disch := omega) only [push_cast, ↓reduceIte, reduceCtorEq, Nat.reduceAdd, Nat.reduceSub, Nat.reduceEqDiff, Nat.reduceLeDiff, Nat.reduceLT, Nat.reduceBEq, Nat.reduceDiv, Nat.reduceMod, Nat.reducePow, Nat.reduceMul, Int.reduceToNat, Int.reduceLT, Int.reduceLE, engM, List.cons_append, List.nil_append]
    repeat' (first | refine w1g ?_ | refine w1l ?_ | refine w1q ?_ | refine w1b ?_ | refine w1p ?_ | ((first | refine w1r ?_ | refine w1k ?_ | refine w1e ?_); simp (maxSteps := 400000) (disch := omega) only [push_cast, ↓reduceIte, reduceCtorEq, Nat.reduceAdd, Nat.reduceSub, Nat.reduceEqDiff, Nat.reduceLeDiff, Nat.reduceLT, Nat.reduceBEq, Nat.reduceDiv, Nat.reduceMod, Nat.reducePow, Nat.reduceMul, Int.reduceToNat, Int.reduceLT, Int.reduceLE, keepL, ne_l, ne_r]) | refine an2 ?_ | fail)
    cases hgd : g.dd
    · refine W_cond (by rfl) (fun h => by cases h) (fun _ => ?_)
      repeat' (first | refine w1g ?_ | refine w1l ?_ | refine w1q ?_ | refine w1b ?_ | refine w1p ?_ | ((first | refine w1r ?_ | refine w1k ?_ | refine w1e ?_); simp (maxSteps := 400000) (disch := omega) only [push_cast, ↓reduceIte, reduceCtorEq, Nat.reduceAdd, Nat.reduceSub, Nat.reduceEqDiff, Nat.reduceLeDiff, Nat.reduceLT, Nat.reduceBEq, Nat.reduceDiv, Nat.reduceMod, Nat.reducePow, Nat.reduceMul, Int.reduceToNat, Int.reduceLT, Int.reduceLE, keepL]) | refine an2 ?_ | fail)
      refine ⟨(q + 1, g, rb || ag), R4, ⟨by dsimp only; omega, hst hgd⟩, by dsimp only; omega, by rfl, ?_, (hX6.up (by first | omega | (dsimp only; omega)))⟩
      show sameM (engM b j L g.ss g.lg g.dd ++ R4) _
      rw [hgd]
      exact sameM.refl _
    · refine W_cond (by rfl) (fun _ => ?_) (fun h => by cases h)
      repeat' (first | refine w1g ?_ | refine w1l ?_ | refine w1q ?_ | refine w1b ?_ | refine w1p ?_ | ((first | refine w1r ?_ | refine w1k ?_ | refine w1e ?_); simp (maxSteps := 400000) (disch := omega) only [push_cast, ↓reduceIte, reduceCtorEq, Nat.reduceAdd, Nat.reduceSub, Nat.reduceEqDiff, Nat.reduceLeDiff, Nat.reduceLT, Nat.reduceBEq, Nat.reduceDiv, Nat.reduceMod, Nat.reducePow, Nat.reduceMul, Int.reduceToNat, Int.reduceLT, Int.reduceLE, keepL]) | refine an2 ?_ | fail)
      refine W_ret ?_
      obtain ⟨r, hr1, hr2⟩ := hdd hgd
      refine fin _ false g R4 (by rfl) ?_ (hX7.up (by first | omega | (dsimp only; omega))) ⟨hei, hgl, fun q => (by cases q), fun _ => ⟨hdn hgd, _, _, hr1, hr2, hp.st⟩⟩
      show sameM (engM b j L g.ss g.lg g.dd ++ R4) _
      rw [hgd]
      exact sameM.refl _
  · obtain rfl : q = L.length := by omega
    have hne := hne _ _ hp
    repeat' (first | refine w1g ?_ | refine w1l ?_ | refine w1q ?_ | refine w1b ?_ | refine w1p ?_ | ((first | refine w1r ?_ | refine w1k ?_ | refine w1e ?_); simp (maxSteps := 400000) (disch := omega) only [push_cast, ↓reduceIte, reduceCtorEq, Nat.reduceAdd, Nat.reduceSub, Nat.reduceEqDiff, Nat.reduceLeDiff, Nat.reduceLT, Nat.reduceBEq, Nat.reduceDiv, Nat.reduceMod, Nat.reducePow, Nat.reduceMul, Int.reduceToNat, Int.reduceLT, Int.reduceLE, keepL]) | refine an2 ?_ | fail)
    refine ⟨(f, P + 1, ag), R3, hne, ?_, by rfl, sameM.refl _, ?_⟩
    · dsimp only
      split <;> omega
    · exact (hX4.dn (by omega)).up (by first | omega | (dsimp only; omega))
end Go.Proofs.Ytoiohkjomcbadaa

namespace Go.Proofs.Ytoiohkjomcbadaa
open Go Sy
set_option maxRecDepth 100000
set_option maxHeartbeats 4000000
set_option linter.unusedVariables false
set_option linter.unusedSimpArgs false
open Classical in
noncomputable def erlB (j : Jb) (L : List Af) : Bool := decide (∃ p, Rgt j.ts L p)
open Classical in
noncomputable def lstP (j : Jb) (L : List Af) : Nat → Int := if h : ∃ p, Rgt j.ts L p ∧ Low j.ts L p then Classical.choose h else fun _ => 0
noncomputable def erlL (j : Jb) (L : List Af) : List Int := if erlB j L = true then lsF j.ts.length (lstP j L) else []
theorem erl_yes {j : Jb} {L : List Af} {q : Nat → Int} (h1 : Rgt j.ts L q) (h2 : Low j.ts L q) : erlB j L = true ∧ erlL j L = lsF j.ts.length q ∧ Rgt j.ts L (lstP j L) ∧ Low j.ts L (lstP j L) := by
  have hb : erlB j L = true := by unfold erlB; exact @decide_eq_true _ (Classical.propDecidable _) ⟨q, h1⟩
  have hx : ∃ p, Rgt j.ts L p ∧ Low j.ts L p := ⟨q, h1, h2⟩
  have hs : Rgt j.ts L (lstP j L) ∧ Low j.ts L (lstP j L) := by
    unfold lstP
    rw [dif_pos hx]
    exact Classical.choose_spec hx
  refine ⟨hb, ?_, hs⟩
  unfold erlL
  rw [if_pos hb]
  exact lsF_congr fun i hi => low_end hs.2 hs.1 h2 h1 i hi
theorem erl_no {j : Jb} {L : List Af} (h : ¬ ∃ p, Rgt j.ts L p) : erlB j L = false ∧ erlL j L = [] := by
  have hb : erlB j L = false := by unfold erlB; exact @decide_eq_false _ (Classical.propDecidable _) h
  refine ⟨hb, ?_⟩
  unfold erlL
  rw [hb, if_neg (by decide)]
theorem run_yes {j : Jb} {L : List Af} (h : OkJ j) (hL : ∀ a ∈ L, LkOk j.ts.length a) {e : Es} (hr : RunOk j L true e) : Rgt j.ts L (stO e.lg) ∧ Low j.ts L (stO e.lg) := by
  obtain ⟨h1, h2, _⟩ := hr.ys rfl
  exact ⟨⟨fun i hi => log_fit h hr.ei.lg i hi (h1 i hi), h2⟩, (log_low h hL hr.ei.lg).1⟩
theorem can_no {j : Jb} {L : List Af} (hL : ∀ a ∈ L, LkOk j.ts.length a) (hc : Can (lkL L) (rnds (lkL L) (fun _ => 0) j.ts.length)) : ¬ ∃ p, Rgt j.ts L p := fun ⟨p, hp⟩ => by
  refine bf_stop (p := p) (fun e he => ?_) (lk_in hL) (Nat.le_succ j.ts.length) hc
  obtain ⟨a, ha, rfl⟩ := List.mem_map.1 he
  exact hp.l a ha
theorem can_none {j : Jb} {L : List Af} (hL : ∀ a ∈ L, LkOk j.ts.length a) (hc : ¬ Can (lkL L) (rnds (lkL L) (fun _ => 0) j.ts.length)) : ∀ x s c, Wx (lkL L) x x s c → 0 < c → c ≤ j.ts.length → s ≤ 0 := fun x s c hw h0 hn => by
  rcases Int.lt_or_le 0 s with q | q
  · exact absurd ((can_iff (lk_in hL) (Nat.le_succ j.ts.length)).2 ⟨x, s, c, hw, h0, hn, q⟩) hc
  · exact q
theorem lks_lk' {j : Jb} {o : List (List Int)} (h : OkO j o) : ∀ e ∈ lks j o, LkOk j.ts.length e := fun e he => by
  obtain ⟨h1, h2, h3, h4, h5, h6, h7⟩ := lks_ok h e he
  exact ⟨h1, h2, h3, h4, h6, h7⟩
theorem fn50 (j : Jb) (o : List (List Int)) (h : OkO j o) : Sy.Fn Try.prog 50 [aJ j, aO o] (.tup [aI (erlL j (lks j o)), bv (erlB j (lks j o))]) := by
  refine Fn_of_W mixed Xt50 rfl ?_
  have c52 := fn52 j o h
  have hn := h.n
  have hcJ : cJ j = [aT j.ts, aA j.af, aI j.tm] := rfl
  have hLL := lks_lk' h
  repeat (first | refine w1g ?_ | refine w1l ?_ | refine w1q ?_ | refine w1b ?_)
  refine w1r ?_
  (refine sy1 ?_; try exact True.intro)
  repeat (refine w1g ?_)
  refine W_gc [1, 2] [] 0 (by rfl) ?_
  simp (maxSteps := 400000) (disch := omega) only [push_cast, ↓reduceIte, reduceCtorEq, Nat.reduceAdd, Nat.reduceSub, Nat.reduceEqDiff, Nat.reduceLeDiff, Nat.reduceLT, Nat.reduceBEq, Nat.reduceDiv, Nat.reduceMod, Nat.reducePow, Nat.reduceMul, Int.reduceToNat, Int.reduceLT, Int.reduceLE, S.norm, List.map_cons, List.map_nil, keepM]
  repeat' (first | refine w1g ?_ | refine w1l ?_ | refine w1q ?_ | refine w1b ?_ | refine w1p ?_ | ((first | refine w1r ?_ | refine w1k ?_ | refine w1e ?_); (refine sy1 ?_; try exact True.intro)) | refine an2 ?_ | fail)
  refine CallC.inl (Inl_of_W mixed Xs69 rfl (fun vs => ?_))
  (refine sy1 ?_; try exact True.intro)
  repeat' (first | refine w1g ?_ | refine w1l ?_ | refine w1q ?_ | refine w1b ?_ | refine w1p ?_ | ((first | refine w1r ?_ | refine w1k ?_ | refine w1e ?_ | refine CallC.now (c52) ?_); (refine sy1 ?_; try exact True.intro)) | refine an2 ?_ | fail)
  refine ⟨rfl, ⟨by omega, by omega, by omega⟩, Int, 0, cI, 0, rfl, rfl, by omega, rfl, ?_⟩
  simp (maxSteps := 400000) (disch := omega) only [push_cast, ↓reduceIte, reduceCtorEq, Nat.reduceAdd, Nat.reduceSub, Nat.reduceEqDiff, Nat.reduceLeDiff, Nat.reduceLT, Nat.reduceBEq, Nat.reduceDiv, Nat.reduceMod, Nat.reducePow, Nat.reduceMul, Int.reduceToNat, Int.reduceLT, Int.reduceLE, Int.toNat_natCast, hcJ, List.cons_append, List.nil_append, List.append_nil, List.take_succ_cons, List.take_zero, List.drop_succ_cons, List.drop_zero, List.drop_nil, List.length_cons, List.length_nil]
  rw [lsF_rep]
  repeat' (first | refine w1g ?_ | refine w1l ?_ | refine w1q ?_ | refine w1b ?_ | refine w1p ?_ | ((first | refine w1r ?_ | refine w1k ?_ | refine w1e ?_); (refine sy1 ?_; try exact True.intro)) | refine an2 ?_ | fail)
  refine W_name 15 (by rfl) (fun b => ?_)
  (refine sy1 ?_; try exact True.intro)
  refine W_le (le_adoptC 14 5 64 4 dRs cR (by omega) _ rfl rfl (by simp)) ?_
  (refine sy1 ?_; try exact True.intro)
  refine W_le (le_adoptC 14 6 29 1 dAf (cCl b) (by omega) _ rfl rfl (by simp)) ?_
  (refine sy1 ?_; try exact True.intro)
  have hl0 := lsF_len j.ts.length (fun _ => 0)
  rw [hl0]
  clear hl0
  rw [f1_zero]
  refine W_loopU (fun i : Nat => [(24, iv i)]) (fun i => [(12, .row 0 2 1 0 cI (lsF j.ts.length (f1 i)))]) (fun i => i ≤ j.ts.length) (fun i => j.ts.length - i) 0 (by omega) (by rfl) (by rfl) (fun i hi => ?_)
  have hli := lsF_len j.ts.length (f1 i)
  (refine sy1 ?_; try exact True.intro)
  repeat' (first | refine w1g ?_ | refine w1l ?_ | refine w1q ?_ | refine w1b ?_ | refine w1p ?_ | ((first | refine w1r ?_ | refine w1k ?_ | refine w1e ?_); (refine sy1 ?_; try exact True.intro)) | refine an2 ?_ | fail)
  refine W_condD (by rfl) (fun h5 => ?_) (fun h5 => ?_)
  · have hset : (lsF j.ts.length (f1 i)).set i (-1) = lsF j.ts.length (f1 (i + 1)) := by rw [lsF_set (by omega), f1_step]
    repeat' (first | refine w1g ?_ | refine w1l ?_ | refine w1q ?_ | refine w1b ?_ | refine w1p ?_ | ((first | refine w1r ?_ | refine w1k ?_ | refine w1e ?_); simp (maxSteps := 400000) (disch := omega) only [push_cast, ↓reduceIte, reduceCtorEq, Nat.reduceAdd, Nat.reduceSub, Nat.reduceEqDiff, Nat.reduceLeDiff, Nat.reduceLT, Nat.reduceBEq, Nat.reduceDiv, Nat.reduceMod, Nat.reducePow, Nat.reduceMul, Int.reduceToNat, Int.reduceLT, Int.reduceLE, hli]) | refine an2 ?_ | fail)
    refine ⟨rfl, ⟨Nat.le_of_ble_eq_true rfl, rfl⟩, by omega, -1, rfl, rfl, ?_⟩
    rw [hset]
    (refine sy1 ?_; try exact True.intro)
    repeat' (first | refine w1g ?_ | refine w1l ?_ | refine w1q ?_ | refine w1b ?_ | refine w1p ?_ | ((first | refine w1r ?_ | refine w1k ?_ | refine w1e ?_); (refine sy1 ?_; try exact True.intro)) | refine an2 ?_ | fail)
    refine ⟨i + 1, by omega, by omega, by rfl, ?_⟩
    (refine syE ?_; try exact True.intro)
  obtain rfl : i = j.ts.length := by omega
  repeat' (first | refine w1g ?_ | refine w1l ?_ | refine w1q ?_ | refine w1b ?_ | refine w1p ?_ | ((first | refine w1r ?_ | refine w1k ?_ | refine w1e ?_); (refine sy1 ?_; try exact True.intro)) | refine an2 ?_ | fail)
  have hll := lks_len h
  generalize lks j o = L at *
  refine W_loopU (fun k : Nat => [(39, iv k)]) (fun k => [(25, .row k 29 1 dAf (cCl b) (L.take k)), (14, .cells [aT j.ts, aA j.af, aI j.tm, .sl 3 dAf cA L, .row 12 0, .row 24 0, .row 25 k, bv false])]) (fun k => k ≤ L.length) (fun k => L.length - k) 0 (by omega) (by rfl) (by rfl) (fun k hk => ?_)
  have htl : (L.take k).length = k := by rw [List.length_take]; omega
  (refine sy1 ?_; try exact True.intro)
  repeat' (first | refine w1g ?_ | refine w1l ?_ | refine w1q ?_ | refine w1b ?_ | refine w1p ?_ | ((first | refine w1r ?_ | refine w1k ?_ | refine w1e ?_); (refine sy1 ?_; try exact True.intro)) | refine an2 ?_ | fail)
  refine W_condD (by rfl) (fun h6 => ?_) (fun h6 => ?_)
  · have hts := take_snoc dAf L k (by omega)
    obtain ⟨a, hga⟩ : ∃ a, L.getD k dAf = a := ⟨_, rfl⟩
    rw [hga] at hts
    refine W_skip ?_
    (refine sy1 ?_; try exact True.intro)
    repeat (first | refine w1g ?_ | refine w1l ?_ | refine w1q ?_ | refine w1b ?_)
    refine w1r ?_
    simp (maxSteps := 400000) (disch := omega) only [push_cast, ↓reduceIte, reduceCtorEq, Nat.reduceAdd, Nat.reduceSub, Nat.reduceEqDiff, Nat.reduceLeDiff, Nat.reduceLT, Nat.reduceBEq, Nat.reduceDiv, Nat.reduceMod, Nat.reducePow, Nat.reduceMul, Int.reduceToNat, Int.reduceLT, Int.reduceLE, hga]
    refine ⟨⟨by omega, by omega⟩, ?_⟩
    repeat (refine w1g ?_)
    refine W_le (le_frz 8 [5, 37, 38, 39] [25, 24, 23, 2, 12, 14, 15] 60 36 0 (cA a) rfl rfl rfl rfl rfl) ?_
    simp (maxSteps := 400000) (disch := omega) only [push_cast, ↓reduceIte, reduceCtorEq, Nat.reduceAdd, Nat.reduceSub, Nat.reduceEqDiff, Nat.reduceLeDiff, Nat.reduceLT, Nat.reduceBEq, Nat.reduceDiv, Nat.reduceMod, Nat.reducePow, Nat.reduceMul, Int.reduceToNat, Int.reduceLT, Int.reduceLE, List.map_cons, List.map_nil, keepM]
    generalize L.take k = T at *
    refine reg69 j L T a b k vs _ (lsF j.ts.length (f1 j.ts.length)) htl (by omega) ?_
    (refine sy1 ?_; try exact True.intro)
    repeat' (first | refine w1g ?_ | refine w1l ?_ | refine w1q ?_ | refine w1b ?_ | refine w1p ?_ | ((first | refine w1r ?_ | refine w1k ?_ | refine w1e ?_); (refine sy1 ?_; try exact True.intro)) | refine an2 ?_ | fail)
    refine ⟨k + 1, by omega, by omega, by rfl, ?_⟩
    rw [hts]
    (refine syE ?_; try exact True.intro)
  obtain rfl : k = L.length := by omega
  rw [List.take_length]
  repeat' (first | refine w1g ?_ | refine w1l ?_ | refine w1q ?_ | refine w1b ?_ | refine w1p ?_ | ((first | refine w1r ?_ | refine w1k ?_ | refine w1e ?_); (refine sy1 ?_; try exact True.intro)) | refine an2 ?_ | fail)
  refine W_ret ⟨[_], _, ⟨rfl, rfl⟩, rfl, ?_⟩
  simp (maxSteps := 400000) (disch := omega) only [push_cast, ↓reduceIte, reduceCtorEq, Nat.reduceAdd, Nat.reduceSub, Nat.reduceEqDiff, Nat.reduceLeDiff, Nat.reduceLT, Nat.reduceBEq, Nat.reduceDiv, Nat.reduceMod, Nat.reducePow, Nat.reduceMul, Int.reduceToNat, Int.reduceLT, Int.reduceLE, pack, delm]
  have hf1 : lsF j.ts.length (f1 j.ts.length) = (e1 j 0).ss := lsF_congr fun i hi => by unfold f1; rw [if_pos hi]
  rw [hf1]
  refine W_gc [2, 6] [25, 24, 23, 12, 14, 15] 60 (by rfl) ?_
  simp (maxSteps := 400000) (disch := omega) only [push_cast, ↓reduceIte, reduceCtorEq, Nat.reduceAdd, Nat.reduceSub, Nat.reduceEqDiff, Nat.reduceLeDiff, Nat.reduceLT, Nat.reduceBEq, Nat.reduceDiv, Nat.reduceMod, Nat.reducePow, Nat.reduceMul, Int.reduceToNat, Int.reduceLT, Int.reduceLE, S.norm, List.map_cons, List.map_nil, keepM]
  by_cases hc : Can (lkL L) (rnds (lkL L) (fun _ => 0) j.ts.length)
  · obtain ⟨p, hp1, hp2, c70⟩ := fn70s j.ts.length L (by have := h.n0; omega) hn hll hLL hc
    obtain ⟨e1, e2⟩ := erl_no (can_no hLL hc)
    have hpl := cirL_len (brs (lkL L) (j.ts.length + 1)).by' (crcX j.ts.length (lkL L)) p
    have hpp := hp2.pos
    have hrl : 0 < (cirL (brs (lkL L) (j.ts.length + 1)).by' (crcX j.ts.length (lkL L)) p).reverse.length := by rw [List.length_reverse]; omega
    generalize (cirL (brs (lkL L) (j.ts.length + 1)).by' (crcX j.ts.length (lkL L)) p).reverse = C at *
    rw [e1, e2]
    repeat' (first | refine w1g ?_ | refine w1l ?_ | refine w1q ?_ | refine w1b ?_ | refine w1p ?_ | ((first | refine W_regS 11 (by decide) (by decide) ?_ | refine w1r ?_ | refine w1k ?_ | refine w1e ?_ | refine CallC.now (c70) ?_); (refine sy1 ?_; try exact True.intro)) | refine an2 ?_ | fail)
    refine CallC.inlG (fun q => absurd q (by simp [pc])) (fun q => ⟨bv false, ?_⟩)
    (refine sy1 ?_; try exact True.intro)
    refine W_cond (by rfl) (fun _ => ?_) (fun h => by cases h)
    repeat' (first | refine w1g ?_ | refine w1l ?_ | refine w1q ?_ | refine w1b ?_ | refine w1p ?_ | ((first | refine w1r ?_ | refine w1k ?_ | refine w1e ?_); (refine sy1 ?_; try exact True.intro)) | refine an2 ?_ | fail)
    refine W_le (le_nil 4 1 0 cI rfl) ?_
    exact W_ret ⟨[_, _], ⟨rfl, rfl, rfl⟩, rfl⟩
  · have c70 := fn70n j.ts.length L (by have := h.n0; omega) hn hll hLL hc
    have hR0 := fun (tm : List (Nat × AV)) => i71 b j L h.toOkJ hLL hll (can_none hLL hc) (tm := tm) (opq_nil 60)
    repeat' (first | refine w1g ?_ | refine w1l ?_ | refine w1q ?_ | refine w1b ?_ | refine w1p ?_ | ((first | refine W_regS 11 (by decide) (by decide) ?_ | refine w1r ?_ | refine w1k ?_ | refine w1e ?_ | refine CallC.now (c70) ?_); (refine sy1 ?_; try exact True.intro)) | refine an2 ?_ | fail)
    refine CallC.inlG (fun _ => ⟨trivial, Inl_sameM (engE b j L (e1 j 0) ++ []) 60 (fun _ => rfl) ((opq_nil 60).mem (engM_bas b j L _ _ _)) (Inl_le' (hR0 _) (fun r s' hs2 => ?_))⟩) (fun q => absurd (by simp [pc]) q)
    obtain ⟨B', R2, nx2, hB', hX, ⟨ok, e, rfl, rfl, hr⟩, hl⟩ := hs2
    refine ⟨_, ?_, hl⟩
    (refine sy1 ?_; try exact True.intro)
    cases ok
    · obtain ⟨e1, e2⟩ := erl_no (hr.no rfl).1
      rw [e1, e2]
      refine W_cond (by rfl) (fun _ => ?_) (fun h => by cases h)
      repeat' (first | refine w1g ?_ | refine w1l ?_ | refine w1q ?_ | refine w1b ?_ | refine w1p ?_ | ((first | refine w1r ?_ | refine w1k ?_ | refine w1e ?_); (refine sy1 ?_; try exact True.intro)) | refine an2 ?_ | fail)
      refine W_le (le_nil 4 1 0 cI rfl) ?_
      exact W_ret ⟨[_, _], ⟨rfl, rfl, rfl⟩, rfl⟩
    · obtain ⟨q1, q2⟩ := run_yes h.toOkJ hLL hr
      obtain ⟨e1, e2, _⟩ := erl_yes q1 q2
      have hss := hr.ei.ss
      rw [e1, e2, ← hss]
      refine W_cond (by rfl) (fun h => by cases h) (fun _ => ?_)
      simp (maxSteps := 400000) (disch := omega) only [push_cast, ↓reduceIte, reduceCtorEq, Nat.reduceAdd, Nat.reduceSub, Nat.reduceEqDiff, Nat.reduceLeDiff, Nat.reduceLT, Nat.reduceBEq, Nat.reduceDiv, Nat.reduceMod, Nat.reducePow, Nat.reduceMul, Int.reduceToNat, Int.reduceLT, Int.reduceLE, engM, List.cons_append, List.nil_append]
      repeat' (first | refine w1g ?_ | refine w1l ?_ | refine w1q ?_ | refine w1b ?_ | refine w1p ?_ | ((first | refine w1r ?_ | refine w1k ?_ | refine w1e ?_); (refine sy1 ?_; try exact True.intro)) | refine an2 ?_ | fail)
      exact W_ret ⟨[_, _], ⟨rfl, rfl, rfl⟩, rfl⟩
end Go.Proofs.Ytoiohkjomcbadaa

namespace Go.Proofs.Ytoiohkjomcbadaa
open Go Sy
set_option maxRecDepth 100000
set_option maxHeartbeats 4000000
set_option linter.unusedVariables false
set_option linter.unusedSimpArgs false
noncomputable def eaE (j : Jb) (o : List (List Int)) : Int := if chkO j o = 0 then (if erlB j (lks j o) = true then 0 else 15) else chkO j o
noncomputable def eaL (j : Jb) (o : List (List Int)) : List Int := if chkO j o = 0 then erlL j (lks j o) else []
theorem erlL_no {j : Jb} {L : List Af} (h : erlB j L = false) : erlL j L = [] := by unfold erlL; rw [h, if_neg (by decide)]
theorem fn14 (j : Jb) (o : List (List Int)) (h : Gj j) (ho : Go' o) : Sy.Fn Try.prog 14 [aJ j, aO o] (.tup [aI (eaL j o), iv (eaE j o)]) := by
  refine Fn_of_W mixed Xt14 rfl ?_
  have c40 := fn40 j o h ho
  by_cases h0 : chkO j o = 0
  · have e1 : eaL j o = erlL j (lks j o) := by unfold eaL; rw [if_pos h0]
    have e2 : eaE j o = if erlB j (lks j o) = true then 0 else 15 := by unfold eaE; rw [if_pos h0]
    have c50 := fn50 j o (chkO_ok h0).1
    have hno := erlL_no (j := j) (L := lks j o)
    rw [h0] at c40
    rw [e1, e2]
    generalize erlL j (lks j o) = E at *
    generalize erlB j (lks j o) = b at *
    repeat' (first | refine w1g ?_ | refine w1l ?_ | refine w1q ?_ | refine w1b ?_ | refine w1p ?_ | ((first | refine w1r ?_ | refine w1k ?_ | refine w1e ?_ | refine CallC.now (c40) ?_); (refine sy1 ?_; try exact True.intro)) | refine an2 ?_ | fail)
    refine W_cond (by rfl) (fun h => by cases h) (fun _ => ?_)
    repeat' (first | refine w1g ?_ | refine w1l ?_ | refine w1q ?_ | refine w1b ?_ | refine w1p ?_ | ((first | refine w1r ?_ | refine w1k ?_ | refine w1e ?_ | refine CallC.now (c50) ?_); (refine sy1 ?_; try exact True.intro)) | refine an2 ?_ | fail)
    cases b
    · rw [hno rfl]
      refine W_cond (by rfl) (fun _ => ?_) (fun h => by cases h)
      repeat' (first | refine w1g ?_ | refine w1l ?_ | refine w1q ?_ | refine w1b ?_ | refine w1p ?_ | ((first | refine w1r ?_ | refine w1k ?_ | refine w1e ?_); (refine sy1 ?_; try exact True.intro)) | refine an2 ?_ | fail)
      refine W_le (le_nil 4 1 0 cI rfl) ?_
      exact W_ret ⟨[_, _], ⟨rfl, rfl, rfl⟩, rfl⟩
    · refine W_cond (by rfl) (fun h => by cases h) (fun _ => ?_)
      repeat' (first | refine w1g ?_ | refine w1l ?_ | refine w1q ?_ | refine w1b ?_ | refine w1p ?_ | ((first | refine w1r ?_ | refine w1k ?_ | refine w1e ?_); (refine sy1 ?_; try exact True.intro)) | refine an2 ?_ | fail)
      exact W_ret ⟨[_, _], ⟨rfl, rfl, rfl⟩, rfl⟩
  · have e1 : eaL j o = [] := by unfold eaL; rw [if_neg h0]
    have e2 : eaE j o = chkO j o := by unfold eaE; rw [if_neg h0]
    rw [e1, e2]
    generalize chkO j o = E at *
    repeat' (first | refine w1g ?_ | refine w1l ?_ | refine w1q ?_ | refine w1b ?_ | refine w1p ?_ | ((first | refine w1r ?_ | refine w1k ?_ | refine w1e ?_ | refine CallC.now (c40) ?_); (refine sy1 ?_; try exact True.intro)) | refine an2 ?_ | fail)
    refine W_cond (by rfl) (fun _ => ?_) (fun h => absurd (by simpa using h) h0)
    repeat' (first | refine w1g ?_ | refine w1l ?_ | refine w1q ?_ | refine w1b ?_ | refine w1p ?_ | ((first | refine w1r ?_ | refine w1k ?_ | refine w1e ?_); (refine sy1 ?_; try exact True.intro)) | refine an2 ?_ | fail)
    refine W_le (le_nil 4 1 0 cI rfl) ?_
    exact W_ret ⟨[_, _], ⟨rfl, rfl, rfl⟩, rfl⟩
def exW : List Wn := [⟨0, 100⟩, ⟨1000, 2000⟩]
def exJ : Jb := ⟨[⟨60, exW, 0⟩, ⟨60, exW, 0⟩, ⟨60, exW, -1⟩], [⟨0, 2, 50⟩], [30]⟩
def exO : List (List Int) := [[0, 1]]
theorem ex_chk : chkO exJ exO = 0 := by
  have h1 : chkJ exJ = 0 := by decide +kernel
  have h2 : ordB exJ exO = true := by
    unfold ordB
    show (rowB exJ 0 [0, 1] && true) = true
    rw [Bool.and_true, rowB_iff]
    exact List.Perm.refl _
  unfold chkO
  rw [if_pos h1, if_pos (by decide), if_pos h2]
def exP : Nat → Int := fun i => if i = 0 then 0 else 1000
theorem ex_lks : lks exJ exO = [⟨0, 2, 50⟩, ⟨0, 1, 90⟩] := by rfl
theorem ex_rgt : Rgt exJ.ts (lks exJ exO) exP := by
  rw [ex_lks]
  refine ⟨fun i hi => ?_, fun e he => ?_⟩
  · rcases i with _ | _ | _ | i
    · exact ⟨⟨0, 100⟩, by simp [exJ, exW], by decide, by decide⟩
    · exact ⟨⟨1000, 2000⟩, by simp [exJ, exW], by decide, by decide⟩
    · exact ⟨⟨1000, 2000⟩, by simp [exJ, exW], by decide, by decide⟩
    · exact absurd (show i + 1 + 1 + 1 < 3 from hi) (by omega)
  · simp only [List.mem_cons, List.not_mem_nil, or_false] at he
    rcases he with rfl | rfl <;> decide
theorem ex_low : Low exJ.ts (lks exJ exO) exP := by
  rw [ex_lks]
  intro p hp i hi
  have f0 := hp.f 0 (by decide)
  have f1 := hp.f 1 (by decide)
  have f2 := hp.f 2 (by decide)
  have l1 := hp.l ⟨0, 2, 50⟩ (by simp)
  have l2 := hp.l ⟨0, 1, 90⟩ (by simp)
  have key : ∀ x, fitW 60 x exW → (0 ≤ x ∧ x ≤ 40) ∨ 1000 ≤ x := fun x hx => by
    obtain ⟨w, hw, h1, h2⟩ := hx
    simp only [exW, List.mem_cons, List.not_mem_nil, or_false] at hw
    rcases hw with rfl | rfl
    · dsimp only at h1 h2; left; omega
    · dsimp only at h1 h2; right; omega
  have k0 := key _ f0
  have k1 := key _ f1
  have k2 := key _ f2
  have l1' : p 0 + 50 ≤ p 2 := l1
  have l2' : p 0 + 90 ≤ p 1 := l2
  rcases i with _ | _ | _ | i
  · show 0 ≤ p 0; omega
  · show 1000 ≤ p 1; omega
  · show 1000 ≤ p 2; omega
  · exact absurd (show i + 1 + 1 + 1 < 3 from hi) (by omega)
theorem ex_ea : eaE exJ exO = 0 ∧ eaL exJ exO = [0, 1000, 1000] := by
  obtain ⟨h1, h2, _⟩ := erl_yes ex_rgt ex_low
  unfold eaE eaL
  rw [if_pos ex_chk, if_pos ex_chk, h1, h2, if_pos rfl]
  exact ⟨rfl, rfl⟩
theorem ex_gj : Gj exJ := ⟨by decide, by decide, by decide, fun i hi => by
  rcases i with _ | _ | _ | i
  · decide
  · decide
  · decide
  · exact absurd (show i + 1 + 1 + 1 < 3 from hi) (by omega)⟩
theorem ex_go : Go' exO := ⟨by decide, fun t ht => by
  rcases t with _ | t
  · decide
  · simp [exO] at ht⟩
theorem fn49 : Sy.Fn Try.prog 49 [] (aJ exJ) := by
  refine Fn_of_W mixed Xt49 rfl ?_
  repeat' (first | refine w1g ?_ | refine w1l ?_ | refine w1q ?_ | refine w1b ?_ | refine w1p ?_ | ((first | refine w1r ?_ | refine w1k ?_ | refine w1e ?_); (refine sy1 ?_; try exact True.intro)) | refine an2 ?_ | fail)
  refine ⟨rfl, trivial, Wn, dWn, cN, exW, rfl, by omega, fun x _ => ⟨rfl, rfl⟩, rfl, ?_⟩
  (refine sy1 ?_; try exact True.intro)
  repeat (refine w1g ?_)
  refine W_le (le_frzR 1 [0] [0] 60 3 0 37 2 dWn cN exW rfl rfl rfl rfl) ?_
  simp (maxSteps := 400000) (disch := omega) only [push_cast, ↓reduceIte, reduceCtorEq, Nat.reduceAdd, Nat.reduceSub, Nat.reduceEqDiff, Nat.reduceLeDiff, Nat.reduceLT, Nat.reduceBEq, Nat.reduceDiv, Nat.reduceMod, Nat.reducePow, Nat.reduceMul, Int.reduceToNat, Int.reduceLT, Int.reduceLE, List.map_cons, List.map_nil, keepM]
  repeat' (first | refine w1g ?_ | refine w1l ?_ | refine w1q ?_ | refine w1b ?_ | refine w1p ?_ | ((first | refine w1r ?_ | refine w1k ?_ | refine w1e ?_); (refine sy1 ?_; try exact True.intro)) | refine an2 ?_ | fail)
  refine ⟨rfl, trivial, Tk, dTk, cT, exJ.ts, rfl, by omega, fun x _ => ⟨rfl, rfl⟩, rfl, ?_⟩
  (refine sy1 ?_; try exact True.intro)
  refine ⟨rfl, trivial, Af, dAf, cA, exJ.af, rfl, by omega, fun x _ => ⟨rfl, rfl⟩, rfl, ?_⟩
  (refine sy1 ?_; try exact True.intro)
  refine ⟨rfl, trivial, Int, 0, cI, exJ.tm, rfl, by omega, fun x _ => ⟨rfl, rfl⟩, rfl, ?_⟩
  (refine sy1 ?_; try exact True.intro)
  repeat' (first | refine w1g ?_ | refine w1l ?_ | refine w1q ?_ | refine w1b ?_ | refine w1p ?_ | ((first | refine w1r ?_ | refine w1k ?_ | refine w1e ?_); (refine sy1 ?_; try exact True.intro)) | refine an2 ?_ | fail)
  exact W_ret ⟨[_], ⟨⟨by decide, rfl⟩, rfl⟩, rfl⟩
theorem ex_fit : ftE exW 60 41 = 0 ∧ ftV exW 60 41 = 1000 := by decide +kernel
theorem fn13 : Sy.Fn Try.prog 13 [] (bv true) := by
  refine Fn_of_W mixed Xt13 rfl ?_
  have c49 := fn49
  have c14 := fn14 exJ exO ex_gj ex_go
  obtain ⟨e1, e2⟩ := ex_ea
  rw [e1, e2] at c14
  have c42 := fn42 exW 60 41 (by decide)
  obtain ⟨e3, e4⟩ := ex_fit
  rw [e3, e4] at c42
  have hcJ : cJ exJ = [aT exJ.ts, aA exJ.af, aI exJ.tm] := rfl
  have g0 : exJ.ts.getD 0 dTk = ⟨60, exW, 0⟩ := rfl
  have l0 : exJ.ts.length = 3 := rfl
  repeat (first | refine w1g ?_ | refine w1l ?_ | refine w1q ?_ | refine w1b ?_)
  refine w1r ?_
  (refine sy1 ?_; try exact True.intro)
  repeat (first | refine w1g ?_ | refine w1l ?_ | refine w1q ?_ | refine w1b ?_)
  refine W_regP [2, 1] (by decide) ?_
  simp (maxSteps := 400000) (disch := omega) only [push_cast, ↓reduceIte, reduceCtorEq, Nat.reduceAdd, Nat.reduceSub, Nat.reduceEqDiff, Nat.reduceLeDiff, Nat.reduceLT, Nat.reduceBEq, Nat.reduceDiv, Nat.reduceMod, Nat.reducePow, Nat.reduceMul, Int.reduceToNat, Int.reduceLT, Int.reduceLE, chainP, List.take_succ_cons, List.take_zero, List.drop_succ_cons, List.drop_zero]
  refine CallC.now c49 ?_
  simp (maxSteps := 400000) (disch := omega) only [push_cast, ↓reduceIte, reduceCtorEq, Nat.reduceAdd, Nat.reduceSub, Nat.reduceEqDiff, Nat.reduceLeDiff, Nat.reduceLT, Nat.reduceBEq, Nat.reduceDiv, Nat.reduceMod, Nat.reducePow, Nat.reduceMul, Int.reduceToNat, Int.reduceLT, Int.reduceLE, chainP, List.take_succ_cons, List.take_zero, List.drop_succ_cons, List.drop_zero]
  refine ⟨rfl, trivial, Int, 0, cI, [0, 1], rfl, by omega, fun x _ => ⟨rfl, rfl⟩, rfl, ?_⟩
  (refine sy1 ?_; try exact True.intro)
  refine ⟨_, le_frzR 7 [6] [] 60 2 0 3 1 0 cI [0, 1] rfl rfl rfl rfl, ?_⟩
  simp (maxSteps := 400000) (disch := omega) only [push_cast, ↓reduceIte, reduceCtorEq, Nat.reduceAdd, Nat.reduceSub, Nat.reduceEqDiff, Nat.reduceLeDiff, Nat.reduceLT, Nat.reduceBEq, Nat.reduceDiv, Nat.reduceMod, Nat.reducePow, Nat.reduceMul, Int.reduceToNat, Int.reduceLT, Int.reduceLE, List.map_cons, List.map_nil, keepM, chainP, List.take_succ_cons, List.take_zero, List.drop_succ_cons, List.drop_zero]
  refine ⟨rfl, trivial, List Int, [], cO, exO, rfl, by omega, fun x _ => ⟨rfl, rfl⟩, rfl, ?_⟩
  (refine sy1 ?_; try exact True.intro)
  refine ⟨_, le_frzR 8 [6] [] 70 60 0 52 1 [] cO exO rfl rfl rfl rfl, ?_⟩
  simp (maxSteps := 400000) (disch := omega) only [push_cast, ↓reduceIte, reduceCtorEq, Nat.reduceAdd, Nat.reduceSub, Nat.reduceEqDiff, Nat.reduceLeDiff, Nat.reduceLT, Nat.reduceBEq, Nat.reduceDiv, Nat.reduceMod, Nat.reducePow, Nat.reduceMul, Int.reduceToNat, Int.reduceLT, Int.reduceLE, List.map_cons, List.map_nil, keepM, chainP, List.take_succ_cons, List.take_zero, List.drop_succ_cons, List.drop_zero]
  repeat' (first | refine w1g ?_ | refine w1l ?_ | refine w1q ?_ | refine w1b ?_ | refine w1p ?_ | ((first | refine w1r ?_ | refine w1k ?_ | refine w1e ?_ | refine CallC.now (c14) ?_); (refine sy1 ?_; try exact True.intro)) | refine an2 ?_ | fail)
  repeat' (first | refine w1g ?_ | refine w1l ?_ | refine w1q ?_ | refine w1b ?_ | refine w1p ?_ | ((first | refine w1r ?_ | refine w1k ?_ | refine w1e ?_ | refine CallC.now (c49) ?_ | refine CallC.now (c42) ?_); simp (maxSteps := 400000) (disch := omega) only [push_cast, ↓reduceIte, reduceCtorEq, Nat.reduceAdd, Nat.reduceSub, Nat.reduceEqDiff, Nat.reduceLeDiff, Nat.reduceLT, Nat.reduceBEq, Nat.reduceDiv, Nat.reduceMod, Nat.reducePow, Nat.reduceMul, Int.reduceToNat, Int.reduceLT, Int.reduceLE, hcJ, g0, l0]) | refine an2 ?_ | fail)
  exact W_ret ⟨[_], ⟨rfl, rfl⟩, rfl⟩
end Go.Proofs.Ytoiohkjomcbadaa

namespace Go.Proofs.Ytoiohkjomcbadaa
open Go Sy
set_option linter.unusedVariables false
theorem least_ex {j : Jb} {L : List Af} (h : OkJ j) (hL : ∀ a ∈ L, LkOk j.ts.length a) (hx : ∃ p, Rgt j.ts L p) : ∃ q, Rgt j.ts L q ∧ Low j.ts L q := by
  obtain ⟨p0, hp0⟩ := hx
  have hge : ∀ p, Rgt j.ts L p → ∀ i, i < j.ts.length → 0 ≤ p i := fun p hp i hi => by
    obtain ⟨w, hw, h1, _⟩ := hp.f i hi
    have := (h.t i hi).1.2.2.all w hw
    omega
  have key : ∀ i, ∃ d : Int, i < j.ts.length → (∃ p, Rgt j.ts L p ∧ p i = d) ∧ ∀ p, Rgt j.ts L p → d ≤ p i := fun i => by
    by_cases hi : i < j.ts.length
    · obtain ⟨d, ⟨p, hp, hd⟩, hm⟩ := max_ex (P := fun x => ∃ p, Rgt j.ts L p ∧ p i = -x) (B := 0) (fun x ⟨p, hp, hx⟩ => by have := hge p hp i hi; omega) (x := -p0 i) ⟨p0, hp0, by omega⟩
      refine ⟨-d, fun _ => ⟨⟨p, hp, hd⟩, fun q hq => ?_⟩⟩
      have := hm (-q i) ⟨q, hq, by omega⟩
      omega
    · exact ⟨0, fun q => absurd q hi⟩
  refine ⟨fun i => Classical.choose (key i), ⟨fun i hi => ?_, fun e he => ?_⟩, fun p hp i hi => ((Classical.choose_spec (key i)) hi).2 p hp⟩
  · obtain ⟨⟨p, hp, hd⟩, _⟩ := (Classical.choose_spec (key i)) hi
    rw [← hd]
    exact hp.f i hi
  · obtain ⟨a1, a2, a3, a4, _⟩ := hL e he
    obtain ⟨_, hA⟩ := (Classical.choose_spec (key e.a.toNat)) (by omega)
    obtain ⟨⟨p, hp, hd⟩, _⟩ := (Classical.choose_spec (key e.b.toNat)) (by omega)
    have := hp.l e he
    have := hA p hp
    omega
theorem rgt_congr {j : Jb} {L : List Af} (hL : ∀ a ∈ L, LkOk j.ts.length a) {p q : Nat → Int} (h : ∀ i, i < j.ts.length → p i = q i) (hp : Rgt j.ts L p) : Rgt j.ts L q := by
  refine ⟨fun i hi => by rw [← h i hi]; exact hp.f i hi, fun e he => ?_⟩
  obtain ⟨a1, a2, a3, a4, _⟩ := hL e he
  rw [← h _ (by omega), ← h _ (by omega)]
  exact hp.l e he
theorem erl_facts {j : Jb} {L : List Af} (h : OkJ j) (hL : ∀ a ∈ L, LkOk j.ts.length a) (hb : erlB j L = true) : (erlL j L).length = j.ts.length ∧ Rgt j.ts L (gi (erlL j L)) ∧ Low j.ts L (gi (erlL j L)) := by
  have hx : ∃ p, Rgt j.ts L p := by
    unfold erlB at hb
    exact @of_decide_eq_true _ (Classical.propDecidable _) hb
  obtain ⟨q, h1, h2⟩ := least_ex h hL hx
  obtain ⟨_, h3, _⟩ := erl_yes h1 h2
  rw [h3]
  have hg : ∀ i, i < j.ts.length → q i = gi (lsF j.ts.length q) i := fun i hi => (lsF_get hi).symm
  exact ⟨lsF_len _ _, rgt_congr hL hg h1, fun p hp i hi => by rw [← hg i hi]; exact h2 p hp i hi⟩
theorem erlB_no {j : Jb} {L : List Af} (hb : erlB j L = false) : ¬ ∃ p, Rgt j.ts L p := by
  unfold erlB at hb
  exact @of_decide_eq_false _ (Classical.propDecidable _) hb
theorem ea_ok {j : Jb} {o : List (List Int)} (ho : chkO j o = 0) (h : eaE j o = 0) : (eaL j o).length = j.ts.length ∧ Rgt j.ts (lks j o) (gi (eaL j o)) ∧ Low j.ts (lks j o) (gi (eaL j o)) := by
  have hb : erlB j (lks j o) = true := by
    unfold eaE at h
    rw [if_pos ho] at h
    by_cases q : erlB j (lks j o) = true
    · exact q
    · rw [if_neg q] at h; omega
  unfold eaL
  rw [if_pos ho]
  exact erl_facts (chkO_ok ho).1.toOkJ (lks_lk' (chkO_ok ho).1) hb
theorem ea_no {j : Jb} {o : List (List Int)} (ho : chkO j o = 0) (h : eaE j o ≠ 0) : eaE j o = 15 ∧ eaL j o = [] ∧ ¬ ∃ p, Rgt j.ts (lks j o) p := by
  have hb : erlB j (lks j o) = false := by
    unfold eaE at h
    rw [if_pos ho] at h
    rw [← Bool.not_eq_true]
    intro q
    rw [if_pos q] at h; exact h rfl
  unfold eaE eaL
  rw [if_pos ho, if_pos ho, hb, if_neg (by decide), erlL_no hb]
  exact ⟨rfl, rfl, erlB_no hb⟩
end Go.Proofs.Ytoiohkjomcbadaa

namespace Go.Proofs.Ytoiohkjomcbadaa
open Go Sy
set_option maxRecDepth 100000
set_option maxHeartbeats 4000000
set_option linter.unusedVariables false
set_option linter.unusedSimpArgs false
theorem wx_top {ls : List Lk} (hB : ∀ e ∈ ls, e.g ≤ 1058656) {x y : Nat} {s : Int} {c : Nat} (h : Wx ls x y s c) : s ≤ 1058656 * (c : Int) := by
  induction h with
  | nil => simp
  | snoc _ h2 ih => have := hB _ h2; push_cast; omega
theorem jrs_rng {ls : List Lk} (hB : ∀ e ∈ ls, -4194304 ≤ e.g ∧ e.g ≤ 1058656) {x k : Nat} (hk : k ≤ 100) (y : Nat) : jrs ls (jin x) k y = noS ∨ (-419430400 ≤ jrs ls (jin x) k y ∧ jrs ls (jin x) k y ≤ 105865600) := by
  rcases ja_all (ls := ls) (x := x) k y with q | ⟨c, hc, hw⟩
  · exact .inl q
  · have h1 := wx_big (fun e he => (hB e he).1) hw
    have h2 := wx_top (fun e he => (hB e he).2) hw
    right; omega
def f2 (i : Nat) : Nat → Int := fun k => if k < i then noS else 0
theorem f2_zero : (fun _ => 0) = f2 0 := by funext k; unfold f2; rw [if_neg (by omega)]
theorem f2_step (i : Nat) : putF (f2 i) i noS = f2 (i + 1) := by
  funext k
  unfold putF f2
  by_cases q : k = i
  · rw [if_pos q, if_pos (by omega)]
  · rw [if_neg q]
    by_cases q2 : k < i
    · rw [if_pos q2, if_pos (by omega)]
    · rw [if_neg q2, if_neg (by omega)]
def posB (n : Nat) (ls : List Lk) : Bool := (List.range n).any fun x => decide (0 < jrs ls (jin x) n x)
theorem w73 (n : Nat) (ls : List Af) (hn : n ≤ 24) (hl : ls.length ≤ 240) (hls : ∀ e ∈ ls, LkOk n e) : Sy.Fn Try.prog 73 [iv n, aA ls] (bv (posB n (lkL ls))) := by
  refine Fn_of_W mixed Xt73 rfl ?_
  have hll : (lkL ls).length = ls.length := by rw [List.length_map]
  have hget : ∀ i, i < ls.length → (lkL ls).getD i dLk = lkO (ls.getD i dAf) := fun i hi => lkL_get hi
  have hgl : ∀ e ∈ lkL ls, -4194304 ≤ e.g ∧ e.g ≤ 1058656 := fun e he => by
    obtain ⟨x, hx, rfl⟩ := List.mem_map.1 he
    have := (hls x hx).2.2.2.2
    show -4194304 ≤ x.g ∧ x.g ≤ _
    omega
  have hP : ∀ x, x < n → 0 < jrs (lkL ls) (jin x) n x → posB n (lkL ls) = true := fun x hx h => by
    unfold posB
    exact List.any_eq_true.2 ⟨x, List.mem_range.2 hx, decide_eq_true h⟩
  have hN : (∀ x, x < n → ¬ 0 < jrs (lkL ls) (jin x) n x) → posB n (lkL ls) = false := fun h => by
    unfold posB
    rw [← Bool.not_eq_true, List.any_eq_true]
    rintro ⟨x, hx, hq⟩
    exact h x (List.mem_range.1 hx) (of_decide_eq_true hq)
  have hjr := fun x k (hk : k ≤ n) y => jrs_rng hgl (x := x) (k := k) (by omega) y
  have hj0 : ∀ d, jrs (lkL ls) d 0 = d := fun _ => rfl
  have hjs : ∀ d k, jrs (lkL ls) d (k + 1) = (lkL ls).foldl (jst (jrs (lkL ls) d k)) (jrs (lkL ls) d k) := fun _ _ => rfl
  generalize posB n (lkL ls) = PB at *
  generalize hL : lkL ls = L at *
  repeat' (first | refine w1g ?_ | refine w1l ?_ | refine w1q ?_ | refine w1b ?_ | refine w1p ?_ | ((first | refine w1r ?_ | refine w1k ?_ | refine w1e ?_); (refine sy1 ?_; try exact True.intro)) | refine an2 ?_ | fail)
  refine W_loopU (fun x : Nat => [(5, iv x)]) (fun x => []) (fun x => x ≤ n ∧ ∀ y, y < x → ¬ 0 < jrs L (jin y) n y) (fun x => n - x) 0 ⟨by omega, fun y hy => by omega⟩ (by rfl) (by rfl) (fun x hx => ?_)
  obtain ⟨hx, hall⟩ := hx
  (refine sy1 ?_; try exact True.intro)
  repeat' (first | refine w1g ?_ | refine w1l ?_ | refine w1q ?_ | refine w1b ?_ | refine w1p ?_ | ((first | refine w1r ?_ | refine w1k ?_ | refine w1e ?_); (refine sy1 ?_; try exact True.intro)) | refine an2 ?_ | fail)
  refine W_condD (by rfl) (fun h5 => ?_) (fun h5 => ?_)
  rotate_left
  · rw [hN (fun y hy => hall y (by omega))]
    repeat' (first | refine w1g ?_ | refine w1l ?_ | refine w1q ?_ | refine w1b ?_ | refine w1p ?_ | ((first | refine w1r ?_ | refine w1k ?_ | refine w1e ?_); (refine sy1 ?_; try exact True.intro)) | refine an2 ?_ | fail)
    exact W_ret ⟨[_], ⟨rfl, rfl⟩, rfl⟩
  have hxn : x < n := by omega
  repeat' (first | refine w1g ?_ | refine w1l ?_ | refine w1q ?_ | refine w1b ?_ | refine w1p ?_ | ((first | refine w1r ?_ | refine w1k ?_ | refine w1e ?_); (refine sy1 ?_; try exact True.intro)) | refine an2 ?_ | fail)
  refine ⟨rfl, ⟨by omega, by omega, by omega⟩, Int, 0, cI, 0, rfl, rfl, by omega, rfl, ?_⟩
  simp (maxSteps := 400000) (disch := omega) only [push_cast, ↓reduceIte, reduceCtorEq, Nat.reduceAdd, Nat.reduceSub, Nat.reduceEqDiff, Nat.reduceLeDiff, Nat.reduceLT, Nat.reduceBEq, Nat.reduceDiv, Nat.reduceMod, Nat.reducePow, Nat.reduceMul, Int.reduceToNat, Int.reduceLT, Int.reduceLE, Int.toNat_natCast]
  rw [lsF_rep, f2_zero]
  repeat' (first | refine w1g ?_ | refine w1l ?_ | refine w1q ?_ | refine w1b ?_ | refine w1p ?_ | ((first | refine w1r ?_ | refine w1k ?_ | refine w1e ?_); (refine sy1 ?_; try exact True.intro)) | refine an2 ?_ | fail)
  refine W_loopU (fun i : Nat => [(7, iv i)]) (fun i => [(6, .row 0 2 1 0 cI (lsF n (f2 i)))]) (fun i => i ≤ n) (fun i => n - i) 0 (by omega) (by rfl) (by rfl) (fun i hi => ?_)
  have hli := lsF_len n (f2 i)
  (refine sy1 ?_; try exact True.intro)
  repeat' (first | refine w1g ?_ | refine w1l ?_ | refine w1q ?_ | refine w1b ?_ | refine w1p ?_ | ((first | refine w1r ?_ | refine w1k ?_ | refine w1e ?_); (refine sy1 ?_; try exact True.intro)) | refine an2 ?_ | fail)
  refine W_condD (by rfl) (fun h6 => ?_) (fun h6 => ?_)
  · have hset : (lsF n (f2 i)).set i noS = lsF n (f2 (i + 1)) := by rw [lsF_set (by omega), f2_step]
    repeat' (first | refine w1g ?_ | refine w1l ?_ | refine w1q ?_ | refine w1b ?_ | refine w1p ?_ | ((first | refine w1r ?_ | refine w1k ?_ | refine w1e ?_); simp (maxSteps := 400000) (disch := omega) only [push_cast, ↓reduceIte, reduceCtorEq, Nat.reduceAdd, Nat.reduceSub, Nat.reduceEqDiff, Nat.reduceLeDiff, Nat.reduceLT, Nat.reduceBEq, Nat.reduceDiv, Nat.reduceMod, Nat.reducePow, Nat.reduceMul, Int.reduceToNat, Int.reduceLT, Int.reduceLE, hli]) | refine an2 ?_ | fail)
    refine ⟨rfl, ⟨Nat.le_of_ble_eq_true rfl, rfl⟩, by omega, noS, rfl, rfl, ?_⟩
    rw [hset]
    (refine sy1 ?_; try exact True.intro)
    repeat' (first | refine w1g ?_ | refine w1l ?_ | refine w1q ?_ | refine w1b ?_ | refine w1p ?_ | ((first | refine w1r ?_ | refine w1k ?_ | refine w1e ?_); (refine sy1 ?_; try exact True.intro)) | refine an2 ?_ | fail)
    refine ⟨i + 1, by omega, by omega, by rfl, ?_⟩
    (refine syE ?_; try exact True.intro)
  obtain rfl : i = n := by omega
  have hset : (lsF i (f2 i)).set x 0 = lsF i (jrs L (jin x) 0) := by
    rw [lsF_set (by omega)]
    refine lsF_congr fun k hk => ?_
    show putF (f2 i) x 0 k = putF (fun _ => noS) x 0 k
    unfold putF f2
    split
    · rfl
    · first
        | rfl
        | rw [if_pos hk]
  repeat' (first | refine w1g ?_ | refine w1l ?_ | refine w1q ?_ | refine w1b ?_ | refine w1p ?_ | ((first | refine w1r ?_ | refine w1k ?_ | refine w1e ?_); simp (maxSteps := 400000) (disch := omega) only [push_cast, ↓reduceIte, reduceCtorEq, Nat.reduceAdd, Nat.reduceSub, Nat.reduceEqDiff, Nat.reduceLeDiff, Nat.reduceLT, Nat.reduceBEq, Nat.reduceDiv, Nat.reduceMod, Nat.reducePow, Nat.reduceMul, Int.reduceToNat, Int.reduceLT, Int.reduceLE, hli]) | refine an2 ?_ | fail)
  refine ⟨rfl, ⟨Nat.le_of_ble_eq_true rfl, rfl⟩, by omega, 0, rfl, rfl, ?_⟩
  rw [hset]
  (refine sy1 ?_; try exact True.intro)
  repeat' (first | refine w1g ?_ | refine w1l ?_ | refine w1q ?_ | refine w1b ?_ | refine w1p ?_ | ((first | refine w1r ?_ | refine w1k ?_ | refine w1e ?_); (refine sy1 ?_; try exact True.intro)) | refine an2 ?_ | fail)
  refine W_le (le_move 6 40 0 6 0 2 1 [0, 1, 5, 8] [] 41 (0 : Int) cI (lsF i (jrs L (jin x) 0)) rfl rfl rfl rfl rfl rfl rfl (by omega)) ?_
  simp (maxSteps := 400000) (disch := omega) only [push_cast, ↓reduceIte, reduceCtorEq, Nat.reduceAdd, Nat.reduceSub, Nat.reduceEqDiff, Nat.reduceLeDiff, Nat.reduceLT, Nat.reduceBEq, Nat.reduceDiv, Nat.reduceMod, Nat.reducePow, Nat.reduceMul, Int.reduceToNat, Int.reduceLT, Int.reduceLE, List.map_cons, List.map_nil, keepM]
  refine W_loopU (fun r : Nat => [(8, iv r)]) (fun r => [(40, .row 0 2 1 0 cI (lsF i (jrs L (jin x) r)))]) (fun r => r ≤ i) (fun r => i - r) 0 (by omega) (by rfl) (by rfl) (fun r hr => ?_)
  have hjs := hjs (jin x) r
  have hjd := hjr x r hr
  generalize hD : jrs L (jin x) r = D at *
  have hld := lsF_len i D
  have hgD : ∀ k, k < i → (lsF i D).getD k 0 = D k := fun k hk => lsF_get hk
  (refine sy1 ?_; try exact True.intro)
  repeat' (first | refine w1g ?_ | refine w1l ?_ | refine w1q ?_ | refine w1b ?_ | refine w1p ?_ | ((first | refine w1r ?_ | refine w1k ?_ | refine w1e ?_); (refine sy1 ?_; try exact True.intro)) | refine an2 ?_ | fail)
  refine W_condD (by rfl) (fun h7 => ?_) (fun h7 => ?_)
  · repeat' (first | refine w1g ?_ | refine w1l ?_ | refine w1q ?_ | refine w1b ?_ | refine w1p ?_ | ((first | refine w1r ?_ | refine w1k ?_ | refine w1e ?_); (refine sy1 ?_; try exact True.intro)) | refine an2 ?_ | fail)
    refine ⟨rfl, trivial, Int, 0, cI, [], rfl, by omega, fun x _ => ⟨rfl, rfl⟩, rfl, ?_⟩
    (refine sy1 ?_; try exact True.intro)
    refine ⟨rfl, ⟨Nat.le_of_ble_eq_true rfl, rfl⟩, trivial, lsF i D, rfl, by first | omega | (simp; omega), by first | omega | (simp; omega), ?_⟩
    (refine sy1 ?_; try exact True.intro)
    repeat' (first | refine w1g ?_ | refine w1l ?_ | refine w1q ?_ | refine w1b ?_ | refine w1p ?_ | ((first | refine w1r ?_ | refine w1k ?_ | refine w1e ?_); (refine sy1 ?_; try exact True.intro)) | refine an2 ?_ | fail)
    have hns : ∀ q, q < ls.length → (L.take (q + 1)).foldl (jst D) D = jst D ((L.take q).foldl (jst D) D) (L.getD q dLk) := fun q hq => by
      rw [take_snoc dLk L q (by omega), List.foldl_append]; rfl
    have hnr : ∀ q y, q ≤ ls.length → (L.take q).foldl (jst D) D y = noS ∨ (-419430400 ≤ (L.take q).foldl (jst D) D y ∧ (L.take q).foldl (jst D) D y ≤ 105865600) := fun q y hq => by
      have h1 := ja_fold (ja_all (ls := L) (x := x) r) (L.take q) (jrs L (jin x) r) (fun e he => List.mem_of_mem_take he) (fun y => by
        rcases ja_all (ls := L) (x := x) r y with q | ⟨c, h1, h2⟩
        · exact .inl q
        · exact .inr ⟨c, by omega, h2⟩) y
      rw [hD] at h1
      rcases h1 with z | ⟨c, hc, hw⟩
      · exact .inl z
      · have h1 := wx_big (fun e he => (hgl e he).1) hw
        have h2 := wx_top (fun e he => (hgl e he).2) hw
        right; omega
    generalize hF : (fun q => (L.take q).foldl (jst D) D) = F at *
    have hF' : ∀ q, (L.take q).foldl (jst D) D = F q := fun q => congrFun hF q
    simp only [hF'] at hns hnr
    have hF0 : D = F 0 := by rw [← hF']; rfl
    have hFa : F ls.length = jrs L (jin x) (r + 1) := by rw [← hF', hjs, ← hll, List.take_length]
    rw [show (lsF i D) = lsF i (F 0) by rw [← hF0]]
    refine W_loopU (fun q : Nat => [(10, iv q)]) (fun q => [(44, .row 1 2 1 0 cI (lsF i (F q)))]) (fun q => q ≤ ls.length) (fun q => ls.length - q) 0 (by omega) (by rfl) (by first | rfl | (rw [← hF0]; rfl)) (fun q hq => ?_)
    rw [← hF0]
    have hns := hns q
    have hnr := fun y => hnr q y hq
    have hqL := lsF_len i (F q)
    (refine sy1 ?_; try exact True.intro)
    repeat' (first | refine w1g ?_ | refine w1l ?_ | refine w1q ?_ | refine w1b ?_ | refine w1p ?_ | ((first | refine w1r ?_ | refine w1k ?_ | refine w1e ?_); (refine sy1 ?_; try exact True.intro)) | refine an2 ?_ | fail)
    refine W_condD (by rfl) (fun h8 => ?_) (fun h8 => ?_)
    · have hql : q < ls.length := by omega
      have hns := hns hql
      obtain ⟨a1, a2, a3, a4, a5, a6⟩ := hls _ (getD_mem' dAf ls q hql)
      rw [hget q hql] at hns
      obtain ⟨e, he⟩ : ∃ e, ls.getD q dAf = e := ⟨_, rfl⟩
      rw [he] at hns a1 a2 a3 a4 a5 a6
      have ga : (lsF i D).getD e.a.toNat 0 = D e.a.toNat := lsF_get (by omega)
      have gb : (lsF i (F q)).getD e.b.toNat 0 = F q e.b.toNat := lsF_get (by omega)
      have ra := hjd e.a.toNat
      have rb := hnr e.b.toNat
      have hS : ∀ x, (lsF i (F q)).set e.b.toNat x = lsF i (putF (F q) e.b.toNat x) := fun x => lsF_set (by omega)
      have hjst : F (q + 1) = if noS < D e.a.toNat then putF (F q) e.b.toNat (max (F q e.b.toNat) (D e.a.toNat + e.g)) else F q := hns
      generalize hda : D e.a.toNat = da at *
      generalize hfb : F q e.b.toNat = fb at *
      repeat' (first | refine w1g ?_ | refine w1l ?_ | refine w1q ?_ | refine w1b ?_ | refine w1p ?_ | ((first | refine w1r ?_ | refine w1k ?_ | refine w1e ?_); simp (maxSteps := 400000) (disch := omega) only [push_cast, ↓reduceIte, reduceCtorEq, Nat.reduceAdd, Nat.reduceSub, Nat.reduceEqDiff, Nat.reduceLeDiff, Nat.reduceLT, Nat.reduceBEq, Nat.reduceDiv, Nat.reduceMod, Nat.reducePow, Nat.reduceMul, Int.reduceToNat, Int.reduceLT, Int.reduceLE, he, ga, gb]) | refine an2 ?_ | fail)
      refine W_condD (by rfl) (fun hc => ?_) (fun hc => ?_)
      · rw [if_pos (show noS < da from hc)] at hjst
        have ra' : -419430400 ≤ da ∧ da ≤ 105865600 := by
          rcases ra with z | z
          · rw [z] at hc; exact absurd hc (by unfold noS; omega)
          · exact z
        have rb' : -1125899906842624 ≤ fb ∧ fb ≤ 105865600 := by
          rcases rb with z | z
          · rw [z]; unfold noS; omega
          · omega
        repeat' (first | refine w1g ?_ | refine w1l ?_ | refine w1q ?_ | refine w1b ?_ | refine w1p ?_ | ((first | refine w1r ?_ | refine w1k ?_ | refine w1e ?_); simp (maxSteps := 400000) (disch := omega) only [push_cast, ↓reduceIte, reduceCtorEq, Nat.reduceAdd, Nat.reduceSub, Nat.reduceEqDiff, Nat.reduceLeDiff, Nat.reduceLT, Nat.reduceBEq, Nat.reduceDiv, Nat.reduceMod, Nat.reducePow, Nat.reduceMul, Int.reduceToNat, Int.reduceLT, Int.reduceLE, he, ga, gb]) | refine an2 ?_ | fail)
        refine ⟨rfl, ⟨Nat.le_of_ble_eq_true rfl, rfl⟩, by omega, max fb (da + e.g), rfl, rfl, ?_⟩
        rw [hS, ← hjst]
        (refine sy1 ?_; try exact True.intro)
        repeat' (first | refine w1g ?_ | refine w1l ?_ | refine w1q ?_ | refine w1b ?_ | refine w1p ?_ | ((first | refine w1r ?_ | refine w1k ?_ | refine w1e ?_); (refine sy1 ?_; try exact True.intro)) | refine an2 ?_ | fail)
        refine ⟨q + 1, by omega, by omega, by rfl, ?_⟩
        (refine syE ?_; try exact True.intro)
      · rw [if_neg (show ¬ noS < da from hc)] at hjst
        repeat' (first | refine w1g ?_ | refine w1l ?_ | refine w1q ?_ | refine w1b ?_ | refine w1p ?_ | ((first | refine w1r ?_ | refine w1k ?_ | refine w1e ?_); (refine sy1 ?_; try exact True.intro)) | refine an2 ?_ | fail)
        refine ⟨q + 1, by omega, by omega, by rfl, ?_⟩
        rw [hjst]
        (refine syE ?_; try exact True.intro)
    · obtain rfl : q = ls.length := by omega
      rw [hFa]
      refine w1e ?_
      (refine sy1 ?_; try exact True.intro)
      (repeat' (first | refine w1g ?_ | refine w1l ?_ | refine w1q ?_ | refine w1b ?_ | refine w1p ?_ | fail))
      refine w1r ?_
      (refine sy1 ?_; try exact True.intro)
      refine WK_go (W_le (le_move 6 40 0 44 1 2 1 [0, 1, 5, 8] [] 41 (0 : Int) cI (lsF i (jrs L (jin x) (r + 1))) rfl rfl rfl rfl rfl rfl rfl (by omega)) ?_)
      simp (maxSteps := 400000) (disch := omega) only [push_cast, ↓reduceIte, reduceCtorEq, Nat.reduceAdd, Nat.reduceSub, Nat.reduceEqDiff, Nat.reduceLeDiff, Nat.reduceLT, Nat.reduceBEq, Nat.reduceDiv, Nat.reduceMod, Nat.reducePow, Nat.reduceMul, Int.reduceToNat, Int.reduceLT, Int.reduceLE, List.map_cons, List.map_nil, keepM]
      repeat' (first | refine w1g ?_ | refine w1l ?_ | refine w1q ?_ | refine w1b ?_ | refine w1p ?_ | ((first | refine w1r ?_ | refine w1k ?_ | refine w1e ?_); (refine sy1 ?_; try exact True.intro)) | refine an2 ?_ | fail)
      refine ⟨r + 1, by omega, by omega, by rfl, ?_⟩
      (refine syE ?_; try exact True.intro)
  · obtain rfl : r = i := by omega
    have hgx := hgD x hxn
    have hjx := hjd x
    repeat' (first | refine w1g ?_ | refine w1l ?_ | refine w1q ?_ | refine w1b ?_ | refine w1p ?_ | ((first | refine w1r ?_ | refine w1k ?_ | refine w1e ?_); simp (maxSteps := 400000) (disch := omega) only [push_cast, ↓reduceIte, reduceCtorEq, Nat.reduceAdd, Nat.reduceSub, Nat.reduceEqDiff, Nat.reduceLeDiff, Nat.reduceLT, Nat.reduceBEq, Nat.reduceDiv, Nat.reduceMod, Nat.reducePow, Nat.reduceMul, Int.reduceToNat, Int.reduceLT, Int.reduceLE, hgx]) | refine an2 ?_ | fail)
    refine W_condD (by rfl) (fun hc => ?_) (fun hc => ?_)
    · rw [hP x hxn (by rw [hD]; exact hc)]
      repeat' (first | refine w1g ?_ | refine w1l ?_ | refine w1q ?_ | refine w1b ?_ | refine w1p ?_ | ((first | refine w1r ?_ | refine w1k ?_ | refine w1e ?_); (refine sy1 ?_; try exact True.intro)) | refine an2 ?_ | fail)
      exact W_ret ⟨[_], ⟨rfl, rfl⟩, rfl⟩
    · repeat' (first | refine w1g ?_ | refine w1l ?_ | refine w1q ?_ | refine w1b ?_ | refine w1p ?_ | ((first | refine w1r ?_ | refine w1k ?_ | refine w1e ?_); (refine sy1 ?_; try exact True.intro)) | refine an2 ?_ | fail)
      refine ⟨x + 1, ⟨by omega, fun y hy => ?_⟩, by omega, by rfl, ?_⟩
      · rcases Nat.lt_or_ge y x with z | z
        · exact hall y z
        · obtain rfl : y = x := by omega
          rw [hD]; exact hc
      · (refine syE ?_; try exact True.intro)
end Go.Proofs.Ytoiohkjomcbadaa

namespace Go.Proofs.Ytoiohkjomcbadaa
open Go Sy
set_option maxRecDepth 100000
set_option maxHeartbeats 4000000
set_option linter.unusedVariables false
set_option linter.unusedSimpArgs false
structure RF (j : Jb) (L : List Af) (F : Nat → Int) : Prop where
  low : Low j.ts L F
  fit : ∀ i, i < j.ts.length → fitW (gt j.ts i).mi (F i) (gt j.ts i).ws
  rng : ∀ i, i < j.ts.length → 0 ≤ F i ∧ F i ≤ 1099511627776
def meF (n : Nat) (F : Nat → Int) : Nat := ((List.range n).map fun i => (1099511627776 - F i).toNat).sum
theorem rgt_pos {j : Jb} {L : List Af} (h : OkJ j) {p : Nat → Int} (hp : Rgt j.ts L p) {i : Nat} (hi : i < j.ts.length) : 0 ≤ p i := by
  obtain ⟨w, hw, h1, h2⟩ := hp.f i hi
  have := (WnOk.all (h.t i hi).1.2.2 w hw).1
  omega
theorem first_rf {j : Jb} {L : List Af} (h : OkJ j) (hp : ∀ i, i < j.ts.length → 0 ≤ setN j i 0) : RF j L fun i => setN j i 0 := by
  refine ⟨fun p hr i hi => ?_, fun i hi => ?_, fun i hi => ?_⟩
  · have hk := (h.t i hi).1
    exact (fst_least hk.2.2 (Int.le_refl _) hk.1 (rgt_pos h hr hi) (hr.f i hi)).2
  · rcases setN_rng h hi 0 with q | q
    · have := hp i hi; omega
    · exact q.2.2.2
  · have := hp i hi
    rcases setN_rng h hi 0 with q | q <;> omega
theorem first_no {j : Jb} {L : List Af} (h : OkJ j) {i : Nat} (hi : i < j.ts.length) (hn : setN j i 0 < 0) : ¬ ∃ p, Rgt j.ts L p := fun ⟨p, hr⟩ => by
  have hk := (h.t i hi).1
  have : 0 ≤ setN j i 0 := (fst_least hk.2.2 (Int.le_refl _) hk.1 (rgt_pos h hr hi) (hr.f i hi)).1
  omega
theorem raise_rf {j : Jb} {L : List Af} (h : OkJ j) (hL : ∀ a ∈ L, LkOk j.ts.length a) {F : Nat → Int} (hF : RF j L F) {a : Af} (ha : a ∈ L) (hr : F a.b.toNat < F a.a.toNat + a.g) :
    (setN j a.b.toNat (F a.a.toNat + a.g) < 0 → ¬ ∃ p, Rgt j.ts L p) ∧ (0 ≤ setN j a.b.toNat (F a.a.toNat + a.g) → RF j L (putF F a.b.toNat (setN j a.b.toNat (F a.a.toNat + a.g))) ∧ meF j.ts.length (putF F a.b.toNat (setN j a.b.toNat (F a.a.toNat + a.g))) < meF j.ts.length F) := by
  obtain ⟨a1, a2, a3, a4, _⟩ := hL a ha
  have hb : a.b.toNat < j.ts.length := by omega
  have hlr := low_raise hF.low ha (by omega) hb (h.t _ hb).1
  have hN : setN j a.b.toNat (F a.a.toNat + a.g) = fstW (j.ts.getD a.b.toNat dTk).mi (F a.a.toNat + a.g) (j.ts.getD a.b.toNat dTk).ws := rfl
  rw [← hN] at hlr
  have hrg := setN_rng h hb (F a.a.toNat + a.g)
  generalize setN j a.b.toNat (F a.a.toNat + a.g) = N at *
  refine ⟨fun q ⟨p, hp⟩ => by have := hlr.1 p hp; omega, fun q => ?_⟩
  rcases hrg with z | ⟨z1, z2, z3, z4⟩
  · omega
  refine ⟨⟨hlr.2, fun i hi => ?_, fun i hi => ?_⟩, ?_⟩
  · unfold putF
    split
    · rename_i e; subst e; exact z4
    · exact hF.fit i hi
  · unfold putF
    split
    · omega
    · exact hF.rng i hi
  · unfold meF
    refine sumR_lt _ (fun i hi => ?_) ⟨_, hb, ?_⟩
    · unfold putF
      split
      · rename_i e; subst e; omega
      · exact Nat.le_refl _
    · unfold putF
      rw [if_pos rfl]
      have := hF.rng _ hb
      omega
theorem pos_can {j : Jb} {L : List Af} (hL : ∀ a ∈ L, LkOk j.ts.length a) (hn : j.ts.length ≤ 24) : posB j.ts.length (lkL L) = true ↔ Can (lkL L) (rnds (lkL L) (fun _ => 0) j.ts.length) := by
  have hl : ∀ e ∈ lkL L, e.a < j.ts.length ∧ e.b < j.ts.length := fun e he => by
    obtain ⟨x, hx, rfl⟩ := List.mem_map.1 he
    obtain ⟨a1, a2, a3, a4, _⟩ := hL x hx
    constructor
    · show x.a.toNat < _; omega
    · show x.b.toNat < _; omega
  rw [can_iff hl (by omega), ← pos_iff hl (fun e he => by
    obtain ⟨x, hx, rfl⟩ := List.mem_map.1 he
    have := (hL x hx).2.2.2.2
    show -4194304 ≤ x.g; omega) (by omega)]
  unfold posB
  rw [List.any_eq_true]
  constructor
  · rintro ⟨x, hx, h⟩
    exact ⟨x, List.mem_range.1 hx, of_decide_eq_true h⟩
  · rintro ⟨x, hx, h⟩
    exact ⟨x, List.mem_range.2 hx, decide_eq_true h⟩
theorem fn61 (j : Jb) (o : List (List Int)) (h : OkO j o) : Sy.Fn Try.prog 61 [aJ j, aO o] (.tup [aI (erlL j (lks j o)), bv (erlB j (lks j o))]) := by
  refine Fn_of_W mixed Xt61 rfl ?_
  have c65 := fn65 j o h
  have hL := lks_lk' h
  have hn := h.n
  have hll : (lks j o).length ≤ 240 := lks_len h
  have hpc := pos_can hL hn
  have c73 := w73 j.ts.length (lks j o) hn hll hL
  have hyes : ∀ F, RF j (lks j o) F → (∀ q, q < (lks j o).length → F ((lks j o).getD q dAf).a.toNat + ((lks j o).getD q dAf).g ≤ F ((lks j o).getD q dAf).b.toNat) → erlL j (lks j o) = lsF j.ts.length F ∧ erlB j (lks j o) = true := fun F hF hq => by
    have hr : Rgt j.ts (lks j o) F := ⟨hF.fit, fun e he => by
      obtain ⟨q, hql, rfl⟩ := List.getElem_of_mem he
      have := hq q hql
      rw [show (lks j o).getD q dAf = (lks j o)[q] by rw [List.getD_eq_getElem?_getD, List.getElem?_eq_getElem hql]; rfl] at this
      exact this⟩
    exact ⟨(erl_yes hr hF.low).2.1, (erl_yes hr hF.low).1⟩
  have hno : (¬ ∃ p, Rgt j.ts (lks j o) p) → erlL j (lks j o) = [] ∧ erlB j (lks j o) = false := fun hx => ⟨(erl_no hx).2, (erl_no hx).1⟩
  have hcn := fun hc => hno (can_no hL hc)
  have hfr := first_rf (L := lks j o) h.toOkJ
  have hfn := fun i hi hx => hno (first_no (L := lks j o) h.toOkJ (i := i) hi hx)
  have hrr := fun F hF a ha => raise_rf h.toOkJ hL (F := F) hF (a := a) ha
  generalize lks j o = L at *
  generalize hEL : erlL j L = EL at *
  generalize hEB : erlB j L = EB at *
  generalize posB j.ts.length (lkL L) = PB at *
  repeat' (first | refine w1g ?_ | refine w1l ?_ | refine w1q ?_ | refine w1b ?_ | refine w1p ?_ | ((first | refine w1r ?_ | refine w1k ?_ | refine w1e ?_ | refine CallC.now (c65) ?_); (refine sy1 ?_; try exact True.intro)) | refine an2 ?_ | fail)
  repeat' (first | refine w1g ?_ | refine w1l ?_ | refine w1q ?_ | refine w1b ?_ | refine w1p ?_ | ((first | refine w1r ?_ | refine w1k ?_ | refine w1e ?_ | refine CallC.now (c73) ?_); (refine sy1 ?_; try exact True.intro)) | refine an2 ?_ | fail)
  cases PB
  rotate_left
  · obtain ⟨e1, e2⟩ := hcn (hpc.1 rfl)
    rw [e1, e2]
    refine W_cond (by rfl) (fun _ => ?_) (fun h => by cases h)
    repeat' (first | refine w1g ?_ | refine w1l ?_ | refine w1q ?_ | refine w1b ?_ | refine w1p ?_ | ((first | refine w1r ?_ | refine w1k ?_ | refine w1e ?_); (refine sy1 ?_; try exact True.intro)) | refine an2 ?_ | fail)
    refine W_le (le_nil 4 1 0 cI rfl) ?_
    exact W_ret ⟨[_, _], ⟨rfl, rfl, rfl⟩, rfl⟩
  clear hpc hcn c73
  refine W_cond (by rfl) (fun h => by cases h) (fun _ => ?_)
  repeat' (first | refine w1g ?_ | refine w1l ?_ | refine w1q ?_ | refine w1b ?_ | refine w1p ?_ | ((first | refine w1r ?_ | refine w1k ?_ | refine w1e ?_); (refine sy1 ?_; try exact True.intro)) | refine an2 ?_ | fail)
  refine W_le (le_adopt 7 2 1 (0 : Int) cI (by omega) rfl) ?_
  (refine sy1 ?_; try exact True.intro)
  refine W_loopU (fun i : Nat => [(7, .row 14 i), (8, iv i)]) (fun i => [(14, .row i 2 1 0 cI (lsF i fun i => setN j i 0))]) (fun i => i ≤ j.ts.length ∧ ∀ k, k < i → 0 ≤ setN j k 0) (fun i => j.ts.length - i) 0 ⟨by omega, fun k hk => by omega⟩ (by rfl) (by rfl) (fun i hi => ?_)
  obtain ⟨hi, hpk⟩ := hi
  have hli := lsF_len i fun i => setN j i 0
  (refine sy1 ?_; try exact True.intro)
  repeat' (first | refine w1g ?_ | refine w1l ?_ | refine w1q ?_ | refine w1b ?_ | refine w1p ?_ | ((first | refine w1r ?_ | refine w1k ?_ | refine w1e ?_); (refine sy1 ?_; try exact True.intro)) | refine an2 ?_ | fail)
  refine W_condD (by rfl) (fun h5 => ?_) (fun h5 => ?_)
  · have hin : i < j.ts.length := by omega
    have hk := (h.t i hin).1
    have c95 := fn95 (gt j.ts i).ws (gt j.ts i).mi 0 (by have := h.w i hin; omega) hk.2.2 ⟨hk.1, hk.2.1⟩
    have hfn := hfn i hin
    have hsn : fstW (gt j.ts i).mi 0 (gt j.ts i).ws = setN j i 0 := rfl
    have hgt : ∀ k, j.ts.getD k dTk = gt j.ts k := fun _ => rfl
    have hsu : lsF i (fun i => setN j i 0) ++ [setN j i 0] = lsF (i + 1) fun i => setN j i 0 := by
      unfold lsF; rw [List.range_succ, List.map_append]; rfl
    have hrn := setN_rng h.toOkJ hin 0
    rw [hsn] at c95
    generalize hN : setN j i 0 = N at *
    repeat' (first | refine w1g ?_ | refine w1l ?_ | refine w1q ?_ | refine w1b ?_ | refine w1p ?_ | ((first | refine w1r ?_ | refine w1k ?_ | refine w1e ?_ | refine CallC.now (c95) ?_); simp (maxSteps := 400000) (disch := omega) only [push_cast, ↓reduceIte, reduceCtorEq, Nat.reduceAdd, Nat.reduceSub, Nat.reduceEqDiff, Nat.reduceLeDiff, Nat.reduceLT, Nat.reduceBEq, Nat.reduceDiv, Nat.reduceMod, Nat.reducePow, Nat.reduceMul, Int.reduceToNat, Int.reduceLT, Int.reduceLE, hgt]) | refine an2 ?_ | fail)
    refine W_condD (by rfl) (fun hc => ?_) (fun hc => ?_)
    · obtain ⟨e1, e2⟩ := hfn hc
      rw [e1, e2]
      repeat' (first | refine w1g ?_ | refine w1l ?_ | refine w1q ?_ | refine w1b ?_ | refine w1p ?_ | ((first | refine w1r ?_ | refine w1k ?_ | refine w1e ?_); (refine sy1 ?_; try exact True.intro)) | refine an2 ?_ | fail)
      refine W_le (le_nil 4 1 0 cI rfl) ?_
      exact W_ret ⟨[_, _], ⟨rfl, rfl, rfl⟩, rfl⟩
    · repeat' (first | refine w1g ?_ | refine w1l ?_ | refine w1q ?_ | refine w1b ?_ | refine w1p ?_ | ((first | refine w1r ?_ | refine w1k ?_ | refine w1e ?_); (refine sy1 ?_; try exact True.intro)) | refine an2 ?_ | fail)
      refine ⟨rfl, trivial, Int, 0, cI, [N], rfl, by omega, fun x _ => ⟨rfl, rfl⟩, rfl, ?_⟩
      (refine sy1 ?_; try exact True.intro)
      refine ⟨rfl, ⟨Nat.le_of_ble_eq_true rfl, rfl⟩, trivial, [N], rfl, by first | omega | (simp; omega), by first | omega | (simp; omega), ?_⟩
      (refine sy1 ?_; try exact True.intro)
      rw [hsu]
      repeat' (first | refine w1g ?_ | refine w1l ?_ | refine w1q ?_ | refine w1b ?_ | refine w1p ?_ | ((first | refine w1r ?_ | refine w1k ?_ | refine w1e ?_); (refine sy1 ?_; try exact True.intro)) | refine an2 ?_ | fail)
      refine ⟨i + 1, ⟨by omega, fun k hk => ?_⟩, by omega, by rfl, ?_⟩
      · rcases Nat.lt_or_ge k i with z | z
        · exact hpk k z
        · obtain rfl : k = i := by omega
          omega
      · (refine syE ?_; try exact True.intro)
  obtain rfl : i = j.ts.length := by omega
  have hRF := hfr hpk
  generalize hF0 : (fun i => setN j i 0) = F0 at *
  clear hfr hfn hpk
  repeat' (first | refine w1g ?_ | refine w1l ?_ | refine w1q ?_ | refine w1b ?_ | refine w1p ?_ | ((first | refine w1r ?_ | refine w1k ?_ | refine w1e ?_); (refine sy1 ?_; try exact True.intro)) | refine an2 ?_ | fail)
  refine W_loopU (fun F : Nat → Int => []) (fun F => [(14, .row j.ts.length 2 1 0 cI (lsF j.ts.length F))]) (fun F => RF j L F) (fun F => meF j.ts.length F) F0 hRF (by rfl) (by rfl) (fun F hF => ?_)
  have hrf := hF.rng
  have hyes := hyes F hF
  have hld := lsF_len j.ts.length F
  (refine sy1 ?_; try exact True.intro)
  repeat' (first | refine w1g ?_ | refine w1l ?_ | refine w1q ?_ | refine w1b ?_ | refine w1p ?_ | ((first | refine w1r ?_ | refine w1k ?_ | refine w1e ?_); (refine sy1 ?_; try exact True.intro)) | refine an2 ?_ | fail)
  refine W_loopU (fun u : Nat × Bool × (Nat → Int) => [(10, bv u.2.1), (11, iv u.1)]) (fun u => [(14, .row j.ts.length 2 1 0 cI (lsF j.ts.length u.2.2))]) (fun u => u.1 ≤ L.length ∧ RF j L u.2.2 ∧ (u.2.1 = true → meF j.ts.length u.2.2 < meF j.ts.length F) ∧ (u.2.1 = false → u.2.2 = F ∧ ∀ q, q < u.1 → F (L.getD q dAf).a.toNat + (L.getD q dAf).g ≤ F (L.getD q dAf).b.toNat)) (fun u => L.length - u.1) (0, false, F) ⟨Nat.zero_le _, hF, fun h => (by cases h), fun _ => ⟨rfl, fun q hq => absurd hq (Nat.not_lt_zero _)⟩⟩ (by rfl) (by rfl) (fun u hu => ?_)
  obtain ⟨q, b, G⟩ := u
  obtain ⟨hq, hG, hb1, hb2⟩ := hu
  dsimp only at hq hG hb1 hb2 ⊢
  have hlg := lsF_len j.ts.length G
  have hrg := hG.rng
  (refine sy1 ?_; try exact True.intro)
  repeat' (first | refine w1g ?_ | refine w1l ?_ | refine w1q ?_ | refine w1b ?_ | refine w1p ?_ | ((first | refine w1r ?_ | refine w1k ?_ | refine w1e ?_); (refine sy1 ?_; try exact True.intro)) | refine an2 ?_ | fail)
  refine W_condD (by rfl) (fun h6 => ?_) (fun h6 => ?_)
  · have hql : q < L.length := by omega
    have hme := getD_mem' dAf L q hql
    obtain ⟨a1, a2, a3, a4, a5, a6⟩ := hL _ hme
    have hrr := hrr G hG _ hme
    obtain ⟨e, he⟩ : ∃ e, L.getD q dAf = e := ⟨_, rfl⟩
    rw [he] at a1 a2 a3 a4 a5 a6 hrr
    have ga : (lsF j.ts.length G).getD e.a.toNat 0 = G e.a.toNat := lsF_get (by omega)
    have gb : (lsF j.ts.length G).getD e.b.toNat 0 = G e.b.toNat := lsF_get (by omega)
    have ra := hrg e.a.toNat (by omega)
    have rb := hrg e.b.toNat (by omega)
    have hS : ∀ x, (lsF j.ts.length G).set e.b.toNat x = lsF j.ts.length (putF G e.b.toNat x) := fun x => lsF_set (by omega)
    have hbn : e.b.toNat < j.ts.length := by omega
    have hk := (h.t _ hbn).1
    have c95 := fn95 (gt j.ts e.b.toNat).ws (gt j.ts e.b.toNat).mi (G e.a.toNat + e.g) (by have := h.w _ hbn; omega) hk.2.2 ⟨hk.1, hk.2.1⟩
    have hsn : fstW (gt j.ts e.b.toNat).mi (G e.a.toNat + e.g) (gt j.ts e.b.toNat).ws = setN j e.b.toNat (G e.a.toNat + e.g) := rfl
    have hgt : ∀ k, j.ts.getD k dTk = gt j.ts k := fun _ => rfl
    have hrn := setN_rng h.toOkJ hbn (G e.a.toNat + e.g)
    have hb2' : b = false → G e.a.toNat + e.g ≤ G e.b.toNat → ∀ k, k < q + 1 → F (L.getD k dAf).a.toNat + (L.getD k dAf).g ≤ F (L.getD k dAf).b.toNat := fun z hx k hk => by
      obtain ⟨y1, y2⟩ := hb2 z
      rcases Nat.lt_or_ge k q with w | w
      · exact y2 k w
      · obtain rfl : k = q := by omega
        rw [he, ← y1]; exact hx
    have hgn : ∀ N, (lsF j.ts.length (putF G e.b.toNat N)).getD e.b.toNat 0 = N := fun N => by
      rw [show (lsF j.ts.length (putF G e.b.toNat N)).getD e.b.toNat 0 = putF G e.b.toNat N e.b.toNat from lsF_get hbn]; unfold putF; rw [if_pos rfl]
    have hln : ∀ N, (lsF j.ts.length (putF G e.b.toNat N)).length = j.ts.length := fun N => lsF_len _ _
    rw [hsn] at c95
    generalize hN : setN j e.b.toNat (G e.a.toNat + e.g) = N at *
    generalize hda : G e.a.toNat = da at *
    generalize hfb : G e.b.toNat = fb at *
    repeat' (first | refine w1g ?_ | refine w1l ?_ | refine w1q ?_ | refine w1b ?_ | refine w1p ?_ | ((first | refine w1r ?_ | refine w1k ?_ | refine w1e ?_); simp (maxSteps := 400000) (disch := omega) only [push_cast, ↓reduceIte, reduceCtorEq, Nat.reduceAdd, Nat.reduceSub, Nat.reduceEqDiff, Nat.reduceLeDiff, Nat.reduceLT, Nat.reduceBEq, Nat.reduceDiv, Nat.reduceMod, Nat.reducePow, Nat.reduceMul, Int.reduceToNat, Int.reduceLT, Int.reduceLE, he, ga, gb]) | refine an2 ?_ | fail)
    refine W_condD (by rfl) (fun hc => ?_) (fun hc => ?_)
    · repeat' (first | refine w1g ?_ | refine w1l ?_ | refine w1q ?_ | refine w1b ?_ | refine w1p ?_ | ((first | refine w1r ?_ | refine w1k ?_ | refine w1e ?_); (refine sy1 ?_; try exact True.intro)) | refine an2 ?_ | fail)
      refine ⟨(q + 1, b, G), ⟨by dsimp only; omega, hG, hb1, fun z => ⟨(hb2 z).1, hb2' z hc⟩⟩, by dsimp only; omega, by rfl, ?_⟩
      dsimp only
      (refine syE ?_; try exact True.intro)
    · obtain ⟨r1, r2⟩ := hrr (by omega)
      repeat' (first | refine w1g ?_ | refine w1l ?_ | refine w1q ?_ | refine w1b ?_ | refine w1p ?_ | ((first | refine w1r ?_ | refine w1k ?_ | refine w1e ?_ | refine CallC.now (c95) ?_); simp (maxSteps := 400000) (disch := omega) only [push_cast, ↓reduceIte, reduceCtorEq, Nat.reduceAdd, Nat.reduceSub, Nat.reduceEqDiff, Nat.reduceLeDiff, Nat.reduceLT, Nat.reduceBEq, Nat.reduceDiv, Nat.reduceMod, Nat.reducePow, Nat.reduceMul, Int.reduceToNat, Int.reduceLT, Int.reduceLE, hgt]) | refine an2 ?_ | fail)
      refine ⟨rfl, ⟨Nat.le_of_ble_eq_true rfl, rfl⟩, by omega, N, rfl, rfl, ?_⟩
      rw [hS]
      (refine sy1 ?_; try exact True.intro)
      have hgn := hgn N
      have hln := hln N
      repeat' (first | refine w1g ?_ | refine w1l ?_ | refine w1q ?_ | refine w1b ?_ | refine w1p ?_ | ((first | refine w1r ?_ | refine w1k ?_ | refine w1e ?_); simp (maxSteps := 400000) (disch := omega) only [push_cast, ↓reduceIte, reduceCtorEq, Nat.reduceAdd, Nat.reduceSub, Nat.reduceEqDiff, Nat.reduceLeDiff, Nat.reduceLT, Nat.reduceBEq, Nat.reduceDiv, Nat.reduceMod, Nat.reducePow, Nat.reduceMul, Int.reduceToNat, Int.reduceLT, Int.reduceLE, hgn, hln]) | refine an2 ?_ | fail)
      refine W_condD (by rfl) (fun hx => ?_) (fun hx => ?_)
      · obtain ⟨e1, e2⟩ := hno (r1 hx)
        rw [e1, e2]
        repeat' (first | refine w1g ?_ | refine w1l ?_ | refine w1q ?_ | refine w1b ?_ | refine w1p ?_ | ((first | refine w1r ?_ | refine w1k ?_ | refine w1e ?_); (refine sy1 ?_; try exact True.intro)) | refine an2 ?_ | fail)
        refine W_le (le_nil 4 1 0 cI rfl) ?_
        exact W_ret ⟨[_, _], ⟨rfl, rfl, rfl⟩, rfl⟩
      · obtain ⟨r3, r4⟩ := r2 (by omega)
        repeat' (first | refine w1g ?_ | refine w1l ?_ | refine w1q ?_ | refine w1b ?_ | refine w1p ?_ | ((first | refine w1r ?_ | refine w1k ?_ | refine w1e ?_); (refine sy1 ?_; try exact True.intro)) | refine an2 ?_ | fail)
        refine ⟨(q + 1, true, putF G e.b.toNat N), ⟨by dsimp only; omega, r3, fun _ => ?_, fun z => (by cases z)⟩, by dsimp only; omega, by rfl, ?_⟩
        · cases b
          · rw [(hb2 rfl).1] at r4 ⊢; exact r4
          · exact Nat.lt_trans r4 (hb1 rfl)
        · dsimp only
          (refine syE ?_; try exact True.intro)
  · obtain rfl : q = L.length := by omega
    repeat' (first | refine w1g ?_ | refine w1l ?_ | refine w1q ?_ | refine w1b ?_ | refine w1p ?_ | ((first | refine w1r ?_ | refine w1k ?_ | refine w1e ?_); (refine sy1 ?_; try exact True.intro)) | refine an2 ?_ | fail)
    cases b
    · obtain ⟨rfl, y2⟩ := hb2 rfl
      obtain ⟨e1, e2⟩ := hyes y2
      rw [e1, e2]
      refine W_cond (by rfl) (fun _ => ?_) (fun h => by cases h)
      repeat' (first | refine w1g ?_ | refine w1l ?_ | refine w1q ?_ | refine w1b ?_ | refine w1p ?_ | ((first | refine w1r ?_ | refine w1k ?_ | refine w1e ?_); (refine sy1 ?_; try exact True.intro)) | refine an2 ?_ | fail)
      refine W_le (le_frzR 4 [5] [] 14 14 j.ts.length 2 1 0 cI (lsF j.ts.length G) rfl rfl rfl rfl) ?_
      simp (maxSteps := 400000) (disch := omega) only [push_cast, ↓reduceIte, reduceCtorEq, Nat.reduceAdd, Nat.reduceSub, Nat.reduceEqDiff, Nat.reduceLeDiff, Nat.reduceLT, Nat.reduceBEq, Nat.reduceDiv, Nat.reduceMod, Nat.reducePow, Nat.reduceMul, Int.reduceToNat, Int.reduceLT, Int.reduceLE, List.map_cons, List.map_nil, keepM]
      exact W_ret ⟨[_, _], ⟨rfl, rfl, rfl⟩, rfl⟩
    · refine W_cond (by rfl) (fun h => by cases h) (fun _ => ?_)
      repeat' (first | refine w1g ?_ | refine w1l ?_ | refine w1q ?_ | refine w1b ?_ | refine w1p ?_ | ((first | refine w1r ?_ | refine w1k ?_ | refine w1e ?_); (refine sy1 ?_; try exact True.intro)) | refine an2 ?_ | fail)
      refine ⟨G, hG, hb1 rfl, by rfl, ?_⟩
      (refine syE ?_; try exact True.intro)
theorem fn47 (j : Jb) (o : List (List Int)) (h : Gj j) (ho : Go' o) : Sy.Fn Try.prog 47 [aJ j, aO o] (.tup [aI (eaL j o), iv (eaE j o)]) := by
  refine Fn_of_W mixed Xt47 rfl ?_
  have c41 := fn41 j o h ho
  by_cases h0 : chkO j o = 0
  · have e1 : eaL j o = erlL j (lks j o) := by unfold eaL; rw [if_pos h0]
    have e2 : eaE j o = if erlB j (lks j o) = true then 0 else 15 := by unfold eaE; rw [if_pos h0]
    have c61 := fn61 j o (chkO_ok h0).1
    have hno := erlL_no (j := j) (L := lks j o)
    rw [h0] at c41
    rw [e1, e2]
    generalize erlL j (lks j o) = E at *
    generalize erlB j (lks j o) = b at *
    repeat' (first | refine w1g ?_ | refine w1l ?_ | refine w1q ?_ | refine w1b ?_ | refine w1p ?_ | ((first | refine w1r ?_ | refine w1k ?_ | refine w1e ?_ | refine CallC.now (c41) ?_); (refine sy1 ?_; try exact True.intro)) | refine an2 ?_ | fail)
    refine W_cond (by rfl) (fun h => by cases h) (fun _ => ?_)
    repeat' (first | refine w1g ?_ | refine w1l ?_ | refine w1q ?_ | refine w1b ?_ | refine w1p ?_ | ((first | refine w1r ?_ | refine w1k ?_ | refine w1e ?_ | refine CallC.now (c61) ?_); (refine sy1 ?_; try exact True.intro)) | refine an2 ?_ | fail)
    cases b
    · rw [hno rfl]
      refine W_cond (by rfl) (fun _ => ?_) (fun h => by cases h)
      repeat' (first | refine w1g ?_ | refine w1l ?_ | refine w1q ?_ | refine w1b ?_ | refine w1p ?_ | ((first | refine w1r ?_ | refine w1k ?_ | refine w1e ?_); (refine sy1 ?_; try exact True.intro)) | refine an2 ?_ | fail)
      refine W_le (le_nil 4 1 0 cI rfl) ?_
      exact W_ret ⟨[_, _], ⟨rfl, rfl, rfl⟩, rfl⟩
    · refine W_cond (by rfl) (fun h => by cases h) (fun _ => ?_)
      repeat' (first | refine w1g ?_ | refine w1l ?_ | refine w1q ?_ | refine w1b ?_ | refine w1p ?_ | ((first | refine w1r ?_ | refine w1k ?_ | refine w1e ?_); (refine sy1 ?_; try exact True.intro)) | refine an2 ?_ | fail)
      exact W_ret ⟨[_, _], ⟨rfl, rfl, rfl⟩, rfl⟩
  · have e1 : eaL j o = [] := by unfold eaL; rw [if_neg h0]
    have e2 : eaE j o = chkO j o := by unfold eaE; rw [if_neg h0]
    rw [e1, e2]
    generalize chkO j o = E at *
    repeat' (first | refine w1g ?_ | refine w1l ?_ | refine w1q ?_ | refine w1b ?_ | refine w1p ?_ | ((first | refine w1r ?_ | refine w1k ?_ | refine w1e ?_ | refine CallC.now (c41) ?_); (refine sy1 ?_; try exact True.intro)) | refine an2 ?_ | fail)
    refine W_cond (by rfl) (fun _ => ?_) (fun h => absurd (by simpa using h) h0)
    repeat' (first | refine w1g ?_ | refine w1l ?_ | refine w1q ?_ | refine w1b ?_ | refine w1p ?_ | ((first | refine w1r ?_ | refine w1k ?_ | refine w1e ?_); (refine sy1 ?_; try exact True.intro)) | refine an2 ?_ | fail)
    refine W_le (le_nil 4 1 0 cI rfl) ?_
    exact W_ret ⟨[_, _], ⟨rfl, rfl, rfl⟩, rfl⟩
end Go.Proofs.Ytoiohkjomcbadaa

namespace Go.Proofs.Ytoiohkjomcbadaa
set_option linter.unusedVariables false
section
variable {α : Type} (lt : α → α → Bool)
def ins (v : α) : List α → List α
  | [] => [v]
  | u :: l => if lt v u = true then v :: u :: l else u :: ins v l
def isort (l : List α) : List α := l.foldl (fun o v => ins lt v o) []
def mrg : List α → List α → List α
  | [], V => V
  | u :: U, [] => u :: U
  | u :: U, v :: V => if lt v u = true then v :: mrg (u :: U) V else u :: mrg U (v :: V)
termination_by U V => U.length + V.length
structure SW (lt : α → α → Bool) : Prop where
  asym : ∀ {a b}, lt a b = true → lt b a = false
  nt : ∀ {a b c}, lt b a = false → lt c b = false → lt c a = false
def SrtL (l : List α) : Prop := l.Pairwise (fun a b => lt b a = false)
variable {lt}
theorem SW.trans (h : SW lt) {a b c : α} (h1 : lt a b = true) (h2 : lt b c = true) : lt a c = true := by
  cases q : lt a c with
  | true => rfl
  | false =>
    have := h.nt q (h.asym h1)
    rw [this] at h2; cases h2
theorem SW.lt_le (h : SW lt) {a b c : α} (h1 : lt a b = true) (h2 : lt c b = false) : lt a c = true := by
  cases q : lt a c with
  | true => rfl
  | false =>
    have := h.nt h2 q
    rw [this] at h1; cases h1
theorem SW.le_lt (h : SW lt) {a b c : α} (h1 : lt b a = false) (h2 : lt b c = true) : lt a c = true := by
  cases q : lt a c with
  | true => rfl
  | false =>
    have := h.nt q h1
    rw [this] at h2; cases h2
theorem ins_split {v : α} : ∀ {A B : List α}, (∀ a ∈ A, lt v a = false) → (∀ b ∈ B, lt v b = true) → ins lt v (A ++ B) = A ++ v :: B
  | [], [], _, _ => rfl
  | [], b :: B, _, h => by
    simp only [List.nil_append, ins]
    rw [if_pos (h b List.mem_cons_self)]
  | a :: A, B, h1, h2 => by
    simp only [List.cons_append, ins]
    rw [if_neg (by rw [h1 a List.mem_cons_self]; decide), ins_split (fun x hx => h1 x (List.mem_cons_of_mem _ hx)) h2]
theorem ins_len {v : α} : ∀ {l : List α}, (ins lt v l).length = l.length + 1
  | [] => rfl
  | u :: l => by
    simp only [ins]
    split
    · simp
    · simp [ins_len (l := l)]
theorem ins_mem {v x : α} : ∀ {l : List α}, x ∈ ins lt v l ↔ x = v ∨ x ∈ l
  | [] => by simp [ins]
  | u :: l => by
    simp only [ins]
    split
    · simp
    · simp only [List.mem_cons, ins_mem (l := l)]
      constructor
      · rintro (h | h | h)
        · exact .inr (.inl h)
        · exact .inl h
        · exact .inr (.inr h)
      · rintro (h | h | h)
        · exact .inr (.inl h)
        · exact .inl h
        · exact .inr (.inr h)
theorem srt_ins (h : SW lt) {v : α} : ∀ {l : List α}, SrtL lt l → SrtL lt (ins lt v l)
  | [], _ => by simp [ins, SrtL]
  | u :: l, hs => by
    unfold SrtL at hs
    rw [List.pairwise_cons] at hs
    simp only [ins]
    split
    · rename_i q
      unfold SrtL
      rw [List.pairwise_cons, List.pairwise_cons]
      refine ⟨fun x hx => ?_, hs⟩
      rcases List.mem_cons.1 hx with rfl | hx
      · exact h.asym q
      · exact h.nt (h.asym q) (hs.1 x hx)
    · rename_i q
      have q' : lt v u = false := by simpa using q
      unfold SrtL
      rw [List.pairwise_cons]
      refine ⟨fun x hx => ?_, srt_ins h hs.2⟩
      rcases ins_mem.1 hx with rfl | hx
      · exact q'
      · exact hs.1 x hx
theorem isort_snoc (l : List α) (v : α) : isort lt (l ++ [v]) = ins lt v (isort lt l) := by
  unfold isort
  rw [List.foldl_append]; rfl
theorem snoc_ind {P : List α → Prop} (h0 : P []) (h1 : ∀ l v, P l → P (l ++ [v])) : ∀ l, P l := by
  have key : ∀ l : List α, P l.reverse := by
    intro l
    induction l with
    | nil => exact h0
    | cons x l ih => rw [List.reverse_cons]; exact h1 _ _ ih
  intro l
  have := key l.reverse
  rwa [List.reverse_reverse] at this
theorem isort_len (l : List α) : (isort lt l).length = l.length := snoc_ind (P := fun l => (isort lt l).length = l.length) rfl (fun l v ih => by rw [isort_snoc, ins_len, ih, List.length_append]; rfl) l
theorem srt_isort (h : SW lt) (l : List α) : SrtL lt (isort lt l) := snoc_ind (P := fun l => SrtL lt (isort lt l)) (by simp [isort, SrtL]) (fun l v ih => by rw [isort_snoc]; exact srt_ins h ih) l
theorem isort_mem {x : α} (l : List α) : x ∈ isort lt l ↔ x ∈ l := snoc_ind (P := fun l => x ∈ isort lt l ↔ x ∈ l) (by simp [isort]) (fun l v ih => by
  rw [isort_snoc, ins_mem, ih, List.mem_append, List.mem_singleton]
  exact Or.comm) l
theorem mrg_nil (U : List α) : mrg lt U [] = U := by cases U <;> simp [mrg]
theorem nil_mrg (V : List α) : mrg lt [] V = V := by simp [mrg]
theorem mrg_ins (h : SW lt) {v : α} : ∀ (A B : List α), mrg lt A (ins lt v B) = ins lt v (mrg lt A B)
  | [], B => by simp [mrg]
  | a :: A, [] => by
    have ih := mrg_ins h (v := v) A []
    rw [mrg_nil] at ih ⊢
    simp only [ins]
    rw [mrg]
    split
    · simp [mrg_nil]
    · rw [show [v] = ins lt v [] from rfl, ih]
  | a :: A, b :: B => by
    have i1 := mrg_ins h (v := v) A (b :: B)
    have i2 := mrg_ins h (v := v) (a :: A) B
    simp only [ins] at i1 ⊢
    rw [mrg.eq_3 lt a A b B]
    by_cases q : lt v b = true
    · rw [if_pos q] at i1 ⊢
      rw [mrg]
      by_cases r : lt b a = true
      · rw [if_pos r, if_pos (h.trans q r)]
        simp only [ins]
        rw [if_pos q, mrg, if_pos r]
      · rw [if_neg r]
        simp only [ins]
        by_cases s : lt v a = true
        · rw [if_pos s, if_pos s, mrg, if_neg r]
        · rw [if_neg s, if_neg s, i1]
    · rw [if_neg q] at i1 ⊢
      rw [mrg]
      by_cases r : lt b a = true
      · rw [if_pos r, if_pos r, i2]
        simp only [ins]
        rw [if_neg q]
      · rw [if_neg r, if_neg r, i1]
        simp only [ins]
        have : lt v a = false := h.nt (by simpa using r) (by simpa using q)
        rw [if_neg (by rw [this]; decide)]
termination_by A B => A.length + B.length
theorem mrg_isort (h : SW lt) (A B : List α) : mrg lt (isort lt A) (isort lt B) = isort lt (A ++ B) :=
  snoc_ind (P := fun B => mrg lt (isort lt A) (isort lt B) = isort lt (A ++ B)) (by rw [show isort lt ([] : List α) = [] from rfl, mrg_nil, List.append_nil]) (fun l v ih => by
    rw [isort_snoc, mrg_ins h, ih, ← isort_snoc, List.append_assoc]) B
theorem mrg_split : ∀ (U1 V1 : List α) {U2 V2 : List α}, (∀ u ∈ U1, ∀ v ∈ V2, lt v u = false) → (∀ v ∈ V1, ∀ u ∈ U2, lt v u = true) → mrg lt (U1 ++ U2) (V1 ++ V2) = mrg lt U1 V1 ++ mrg lt U2 V2
  | [], [], U2, V2, _, _ => by simp [mrg]
  | [], v :: V1, U2, V2, h1, h2 => by
    have ih := mrg_split [] V1 (U2 := U2) (V2 := V2) (fun u hu => by cases hu) (fun x hx => h2 x (List.mem_cons_of_mem _ hx))
    rw [nil_mrg, List.nil_append] at ih ⊢
    cases U2 with
    | nil => simp [mrg]
    | cons u U2 =>
      rw [List.cons_append, mrg, if_pos (h2 v List.mem_cons_self u List.mem_cons_self), ih, List.cons_append]
  | u :: U1, [], U2, V2, h1, h2 => by
    have ih := mrg_split U1 [] (U2 := U2) (V2 := V2) (fun x hx => h1 x (List.mem_cons_of_mem _ hx)) (fun x hx => by cases hx)
    rw [mrg_nil, List.nil_append] at ih ⊢
    cases V2 with
    | nil => simp [mrg_nil]
    | cons v V2 =>
      rw [List.cons_append, mrg, if_neg (by rw [h1 u List.mem_cons_self v List.mem_cons_self]; decide), ih, List.cons_append]
  | u :: U1, v :: V1, U2, V2, h1, h2 => by
    have i1 := mrg_split U1 (v :: V1) (U2 := U2) (V2 := V2) (fun x hx => h1 x (List.mem_cons_of_mem _ hx)) h2
    have i2 := mrg_split (u :: U1) V1 (U2 := U2) (V2 := V2) h1 (fun x hx => h2 x (List.mem_cons_of_mem _ hx))
    simp only [List.cons_append] at i1 i2 ⊢
    rw [mrg, mrg]
    split
    · rw [i2, List.cons_append]
    · rw [i1, List.cons_append]
termination_by U1 V1 => U1.length + V1.length
theorem mrg_len : ∀ (U V : List α), (mrg lt U V).length = U.length + V.length
  | [], V => by simp [mrg]
  | u :: U, [] => by simp [mrg]
  | u :: U, v :: V => by
    rw [mrg]
    split
    · simp [mrg_len (u :: U) V]; omega
    · simp [mrg_len U (v :: V)]; omega
termination_by U V => U.length + V.length
theorem mrg_one {v : α} {U1 U2 : List α} (h1 : ∀ u ∈ U1, lt v u = false) (h2 : ∀ u ∈ U2, lt v u = true) : mrg lt (U1 ++ U2) [v] = U1 ++ v :: U2 := by
  have := mrg_split (lt := lt) U1 [] (U2 := U2) (V2 := [v]) (fun u hu x hx => by rw [List.mem_singleton] at hx; subst hx; exact h1 u hu) (fun x hx => by cases hx)
  rw [mrg_nil, List.nil_append] at this
  rw [this]
  congr 1
  cases U2 with
  | nil => simp [mrg]
  | cons u U2 => rw [mrg, if_pos (h2 u List.mem_cons_self), mrg_nil]
theorem one_mrg {u : α} {V1 V2 : List α} (h1 : ∀ v ∈ V1, lt v u = true) (h2 : ∀ v ∈ V2, lt v u = false) : mrg lt [u] (V1 ++ V2) = V1 ++ u :: V2 := by
  have := mrg_split (lt := lt) [] V1 (U2 := [u]) (V2 := V2) (fun x hx => by cases hx) (fun v hv x hx => by rw [List.mem_singleton] at hx; subst hx; exact h1 v hv)
  rw [nil_mrg, List.nil_append] at this
  rw [this]
  congr 1
  cases V2 with
  | nil => simp [mrg]
  | cons v V2 => rw [mrg, if_neg (by rw [h2 v List.mem_cons_self]; decide), nil_mrg]
def chS (lt : α → α → Bool) (n : Nat) (l : List α) : List α := if h : l.length ≤ n ∨ n = 0 then isort lt l else isort lt (l.take n) ++ chS lt n (l.drop n)
termination_by l.length
decreasing_by rw [List.length_drop]; omega
theorem chS_one {n : Nat} {l : List α} (h : l.length ≤ n) : chS lt n l = isort lt l := by rw [chS, dif_pos (.inl h)]
theorem chS_eq {n : Nat} (hn : 0 < n) (l : List α) : chS lt n l = isort lt (l.take n) ++ chS lt n (l.drop n) := by
  by_cases h : l.length ≤ n
  · rw [chS_one h, List.take_of_length_le h, List.drop_of_length_le h, chS_one (by simp)]
    rw [show isort lt ([] : List α) = [] from rfl, List.append_nil]
  · rw [chS, dif_neg (by omega)]
theorem chS_len {n : Nat} (hn : 0 < n) : ∀ (k : Nat) (l : List α), l.length ≤ k → (chS lt n l).length = l.length
  | 0, l, h => by rw [chS_one (by omega), isort_len]
  | k + 1, l, h => by
    by_cases q : l.length ≤ n
    · rw [chS_one q, isort_len]
    · rw [chS_eq hn, List.length_append, isort_len, chS_len hn k _ (by rw [List.length_drop]; omega), List.length_take, List.length_drop]; omega
end
end Go.Proofs.Ytoiohkjomcbadaa

namespace Go.Proofs.Ytoiohkjomcbadaa
set_option linter.unusedVariables false
section
variable {α : Type}
theorem at_cons {A B : List α} {x d : α} {i : Nat} (h : A.length = i) : (A ++ x :: B).getD i d = x := by
  simp only [List.getD_eq_getElem?_getD]
  rw [List.getElem?_append_right (by omega), h, Nat.sub_self]; rfl
theorem set_cons {A B : List α} {x y : α} {i : Nat} (h : A.length = i) : (A ++ x :: B).set i y = A ++ y :: B := by
  rw [List.set_append_right _ _ (by omega), h, Nat.sub_self]; rfl
def swL (P X M Z Q : List α) (c : Nat) : List α := (P ++ Z.take c) ++ (X.drop c ++ (M ++ (X.take c ++ (Z.drop c ++ Q))))
theorem swL_zero (P X M Z Q : List α) : swL P X M Z Q 0 = P ++ (X ++ (M ++ (Z ++ Q))) := by simp [swL]
theorem swL_all {P X M Z Q : List α} (h : Z.length = X.length) : swL P X M Z Q X.length = P ++ (Z ++ (M ++ (X ++ Q))) := by
  unfold swL
  rw [List.take_length, List.drop_length, ← h, List.take_length, List.drop_length]; simp
theorem swL_len {P X M Z Q : List α} {c : Nat} (h : Z.length = X.length) (hc : c ≤ X.length) : (swL P X M Z Q c).length = P.length + X.length + M.length + X.length + Q.length := by
  unfold swL
  simp only [List.length_append, List.length_take, List.length_drop]; omega
theorem swL_step {P X M Z Q : List α} {c : Nat} (d : α) (h : Z.length = X.length) (hc : c < X.length) :
    (swL P X M Z Q c).getD (P.length + c) d = X.getD c d ∧ (swL P X M Z Q c).getD (P.length + X.length + M.length + c) d = Z.getD c d ∧
    ((swL P X M Z Q c).set (P.length + c) (Z.getD c d)).set (P.length + X.length + M.length + c) (X.getD c d) = swL P X M Z Q (c + 1) := by
  have hz : c < Z.length := by omega
  have e1 : X.drop c = X.getD c d :: X.drop (c + 1) := by rw [List.drop_eq_getElem_cons hc]; simp [List.getD, hc]
  have e2 : Z.drop c = Z.getD c d :: Z.drop (c + 1) := by rw [List.drop_eq_getElem_cons hz]; simp [List.getD, hz]
  have e3 : X.take (c + 1) = X.take c ++ [X.getD c d] := by rw [List.take_succ_eq_append_getElem hc]; simp [List.getD, hc]
  have e4 : Z.take (c + 1) = Z.take c ++ [Z.getD c d] := by rw [List.take_succ_eq_append_getElem hz]; simp [List.getD, hz]
  unfold swL
  rw [e3, e4, e1, e2]
  generalize X.getD c d = x
  generalize Z.getD c d = z
  have l1 : (P ++ Z.take c).length = P.length + c := by rw [List.length_append, List.length_take]; omega
  have r1 : (P ++ Z.take c) ++ ((x :: X.drop (c + 1)) ++ (M ++ (X.take c ++ ((z :: Z.drop (c + 1)) ++ Q)))) = ((P ++ Z.take c) ++ ((x :: X.drop (c + 1)) ++ (M ++ X.take c))) ++ z :: (Z.drop (c + 1) ++ Q) := by simp
  have l2 : ((P ++ Z.take c) ++ ((x :: X.drop (c + 1)) ++ (M ++ X.take c))).length = P.length + X.length + M.length + c := by
    simp only [List.length_append, List.length_take, List.length_cons, List.length_drop]; omega
  refine ⟨?_, ?_, ?_⟩
  · rw [List.cons_append]; exact at_cons l1
  · rw [r1]; exact at_cons l2
  · rw [List.cons_append, set_cons l1]
    have r2 : (P ++ Z.take c) ++ z :: (X.drop (c + 1) ++ (M ++ (X.take c ++ ((z :: Z.drop (c + 1)) ++ Q)))) = ((P ++ Z.take c) ++ ((z :: X.drop (c + 1)) ++ (M ++ X.take c))) ++ z :: (Z.drop (c + 1) ++ Q) := by simp
    have l3 : ((P ++ Z.take c) ++ ((z :: X.drop (c + 1)) ++ (M ++ X.take c))).length = P.length + X.length + M.length + c := by
      simp only [List.length_append, List.length_take, List.length_cons, List.length_drop]; omega
    rw [r2, set_cons l3]
    simp
end
end Go.Proofs.Ytoiohkjomcbadaa

namespace Go.Proofs.Ytoiohkjomcbadaa
open Go Sy
set_option maxRecDepth 100000
set_option maxHeartbeats 4000000
set_option linter.unusedVariables false
set_option linter.unusedSimpArgs false
theorem wrapU {x : Int} (h : 0 ≤ x ∧ x < 18446744073709551616) : IntKind.u64.wrap x = x := by rw [IntKind.wrap_u64]; omega
theorem shrC (a : Int) (s : Nat) (b : Int) (h : (2 : Int) ^ min s IntKind.u64.bits = b) (hb : 0 ≤ b) : a.fdiv (2 ^ min s IntKind.u64.bits) = a / b := by
  rw [h, Int.fdiv_eq_ediv_of_nonneg _ hb]
theorem shr1 (a : Int) : a.fdiv (2 ^ min 1 IntKind.u64.bits) = a / 2 := shrC a 1 _ (by decide) (by decide)
abbrev rI (st : Nat) (l : List Int) : Blk := .row st 3 1 (0 : Int) cI l
theorem w127 {M : List (Nat × Blk)} {k st nx : Nat} {gc : Nat} {ca : List AV} (P X Md Z Q : List Int) (hz : Z.length = X.length) (hlen : P.length + X.length + Md.length + X.length + Q.length ≤ 1000000) (hk : k < nx) (hfr : ∀ j, nx ≤ j → lm M j = none) :
    W Try.prog 38 Xn157_0 ⟨initT 0 [.row k st, iv P.length, iv (P.length + X.length + Md.length), iv X.length, .clo gc [] ca], setm M k (rI st (P ++ (X ++ (Md ++ (Z ++ Q))))), nx⟩
      (fun e s' => (e = .n ∨ e = .r) ∧ s'.mem = setm M k (rI st (P ++ (Z ++ (Md ++ (X ++ Q)))))) := by
  have hfr' : ∀ b : Blk, ∀ j, nx ≤ j → lm (setm M k b) j = none := fun b j hj => by rw [lm_set_other _ _ (by omega)]; exact hfr j hj
  simp (maxSteps := 400000) (disch := omega) only [push_cast, ↓reduceIte, reduceCtorEq, Nat.reduceAdd, Nat.reduceSub, Nat.reduceEqDiff, Nat.reduceLeDiff, Nat.reduceLT, Nat.reduceBEq, Nat.reduceDiv, Nat.reduceMod, Nat.reducePow, Nat.reduceMul, Int.reduceToNat, Int.reduceLT, Int.reduceLE, initT]
  repeat' (first | refine w1g ?_ | refine w1l ?_ | refine w1q ?_ | refine w1b ?_ | refine w1p ?_ | ((first | refine w1r ?_ | refine w1k ?_ | refine w1e ?_); (refine sy1 ?_; try exact True.intro)) | refine an2 ?_ | fail)
  refine W_loopM (fun c : Nat => [(10, iv c)]) (fun c => setm M k (rI st (swL P X Md Z Q c))) (fun c => c ≤ X.length) (fun c => X.length - c) nx (fun c _ => hfr' _) 0 (by omega) (by rfl) (by rw [swL_zero]) (fun c hc => ?_)
  have hll := swL_len (P := P) (M := Md) (Q := Q) hz hc
  simp (maxSteps := 400000) (disch := omega) only [push_cast, ↓reduceIte, reduceCtorEq, Nat.reduceAdd, Nat.reduceSub, Nat.reduceEqDiff, Nat.reduceLeDiff, Nat.reduceLT, Nat.reduceBEq, Nat.reduceDiv, Nat.reduceMod, Nat.reducePow, Nat.reduceMul, Int.reduceToNat, Int.reduceLT, Int.reduceLE, keepL]
  repeat' (first | refine w1g ?_ | refine w1l ?_ | refine w1q ?_ | refine w1b ?_ | refine w1p ?_ | ((first | refine w1r ?_ | refine w1k ?_ | refine w1e ?_); simp (maxSteps := 400000) (disch := omega) only [push_cast, ↓reduceIte, reduceCtorEq, Nat.reduceAdd, Nat.reduceSub, Nat.reduceEqDiff, Nat.reduceLeDiff, Nat.reduceLT, Nat.reduceBEq, Nat.reduceDiv, Nat.reduceMod, Nat.reducePow, Nat.reduceMul, Int.reduceToNat, Int.reduceLT, Int.reduceLE, keepL]) | refine an2 ?_ | fail)
  refine W_condD (by rfl) (fun h5 => ?_) (fun h5 => ?_)
  · have hlt : c < X.length := by omega
    obtain ⟨q1, q2, q3⟩ := swL_step (P := P) (M := Md) (Q := Q) (0 : Int) hz hlt
    have ea : ((P.length : Int) + c).toNat = P.length + c := by omega
    have eb : ((P.length : Int) + X.length + Md.length + c).toNat = P.length + X.length + Md.length + c := by omega
    repeat' (first | refine w1g ?_ | refine w1l ?_ | refine w1q ?_ | refine w1b ?_ | refine w1p ?_ | ((first | refine w1r ?_ | refine w1k ?_ | refine w1e ?_); simp (maxSteps := 400000) (disch := omega) only [push_cast, ↓reduceIte, reduceCtorEq, Nat.reduceAdd, Nat.reduceSub, Nat.reduceEqDiff, Nat.reduceLeDiff, Nat.reduceLT, Nat.reduceBEq, Nat.reduceDiv, Nat.reduceMod, Nat.reducePow, Nat.reduceMul, Int.reduceToNat, Int.reduceLT, Int.reduceLE, keepL, hll, ea, eb, q1, q2, beq_self_eq_true]) | refine an2 ?_ | fail)
    refine ⟨rfl, ⟨by dsimp only; omega, hasM_set _ _ _⟩, by omega, Z.getD c (0 : Int), rfl, rfl, ?_⟩
    simp (maxSteps := 400000) (disch := omega) only [push_cast, ↓reduceIte, reduceCtorEq, Nat.reduceAdd, Nat.reduceSub, Nat.reduceEqDiff, Nat.reduceLeDiff, Nat.reduceLT, Nat.reduceBEq, Nat.reduceDiv, Nat.reduceMod, Nat.reducePow, Nat.reduceMul, Int.reduceToNat, Int.reduceLT, Int.reduceLE, hll, ea, eb, List.length_set]
    repeat' (first | refine w1g ?_ | refine w1l ?_ | refine w1q ?_ | refine w1b ?_ | refine w1p ?_ | ((first | refine w1r ?_ | refine w1k ?_ | refine w1e ?_); simp (maxSteps := 400000) (disch := omega) only [push_cast, ↓reduceIte, reduceCtorEq, Nat.reduceAdd, Nat.reduceSub, Nat.reduceEqDiff, Nat.reduceLeDiff, Nat.reduceLT, Nat.reduceBEq, Nat.reduceDiv, Nat.reduceMod, Nat.reducePow, Nat.reduceMul, Int.reduceToNat, Int.reduceLT, Int.reduceLE, keepL, hll, ea, eb, List.length_set, beq_self_eq_true]) | refine an2 ?_ | fail)
    refine ⟨rfl, ⟨by dsimp only; omega, hasM_set _ _ _⟩, by omega, X.getD c (0 : Int), rfl, rfl, ?_⟩
    rw [q3]
    (refine sy1 ?_; try exact True.intro)
    repeat' (first | refine w1g ?_ | refine w1l ?_ | refine w1q ?_ | refine w1b ?_ | refine w1p ?_ | ((first | refine w1r ?_ | refine w1k ?_ | refine w1e ?_); simp (maxSteps := 400000) (disch := omega) only [push_cast, ↓reduceIte, reduceCtorEq, Nat.reduceAdd, Nat.reduceSub, Nat.reduceEqDiff, Nat.reduceLeDiff, Nat.reduceLT, Nat.reduceBEq, Nat.reduceDiv, Nat.reduceMod, Nat.reducePow, Nat.reduceMul, Int.reduceToNat, Int.reduceLT, Int.reduceLE, keepL]) | refine an2 ?_ | fail)
    exact ⟨c + 1, by omega, by omega, rfl, rfl⟩
  · obtain rfl : c = X.length := by omega
    rw [swL_all hz]
    repeat' (first | refine w1g ?_ | refine w1l ?_ | refine w1q ?_ | refine w1b ?_ | refine w1p ?_ | ((first | refine w1r ?_ | refine w1k ?_ | refine w1e ?_); simp (maxSteps := 400000) (disch := omega) only [push_cast, ↓reduceIte, reduceCtorEq, Nat.reduceAdd, Nat.reduceSub, Nat.reduceEqDiff, Nat.reduceLeDiff, Nat.reduceLT, Nat.reduceBEq, Nat.reduceDiv, Nat.reduceMod, Nat.reducePow, Nat.reduceMul, Int.reduceToNat, Int.reduceLT, Int.reduceLE, keepL]) | refine an2 ?_ | fail)
theorem i127 {s : S} {k st : Nat} {gc : Nat} {ca : List AV} {L L' : List Int} (P X Md Z Q : List Int) {a b n : Int} {K : AV → S → Prop} (hk : lm s.mem k = some (rI st L)) (hfr : ∀ j, s.nx ≤ j → lm s.mem j = none) (hlen : L.length ≤ 1000000)
    (hL : L = P ++ (X ++ (Md ++ (Z ++ Q)))) (hL' : P ++ (Z ++ (Md ++ (X ++ Q))) = L') (hz : Z.length = X.length) (ha : a = P.length) (hb : b = P.length + X.length + Md.length) (hn : n = X.length) (hK : K (.tup []) ⟨s.tm, setm s.mem k (rI st L'), s.nx⟩) :
    Inl Try.prog 157 [.row k st, iv a, iv b, iv n, .clo gc [] ca] s K := by
  subst ha hb hn hL'
  subst hL
  simp only [List.length_append] at hlen
  exact Inl_row mixed Xt157 rfl hk hfr (fun M nx h1 h2 => w127 P X Md Z Q hz (by omega) h1 h2) hK
theorem w125 {M : List (Nat × Blk)} {k st nx : Nat} {gc : Nat} {ca : List AV} (P X Y Q : List Int) (hX : 0 < X.length) (hY : 0 < Y.length) (hlen : (P ++ (Y ++ (X ++ Q))).length ≤ 1000000) (hk : k < nx) (hfr : ∀ j, nx ≤ j → lm M j = none) :
    W Try.prog 58 Xn150_0 ⟨initT 0 [.row k st, iv P.length, iv (P.length + X.length), iv (P.length + X.length + Y.length), .clo gc [] ca], setm M k (rI st (P ++ (X ++ (Y ++ Q)))), nx⟩
      (fun e s' => (e = .n ∨ e = .r) ∧ s'.mem = setm M k (rI st (P ++ (Y ++ (X ++ Q))))) := by
  have hfr' : ∀ b : Blk, ∀ j, nx ≤ j → lm (setm M k b) j = none := fun b j hj => by rw [lm_set_other _ _ (by omega)]; exact hfr j hj
  obtain ⟨T, hT⟩ : ∃ T, T = P ++ (Y ++ (X ++ Q)) := ⟨_, rfl⟩
  obtain ⟨m, hm⟩ : ∃ m : Int, m = P.length + X.length := ⟨_, rfl⟩
  have hlenT : T.length ≤ 1000000 := by rw [hT]; exact hlen
  simp only [List.length_append] at hlen
  have e1 : m - P.length = X.length := by omega
  have e2 : m + Y.length - m = Y.length := by omega
  rw [← hT, ← hm]
  simp (maxSteps := 400000) (disch := omega) only [push_cast, ↓reduceIte, reduceCtorEq, Nat.reduceAdd, Nat.reduceSub, Nat.reduceEqDiff, Nat.reduceLeDiff, Nat.reduceLT, Nat.reduceBEq, Nat.reduceDiv, Nat.reduceMod, Nat.reducePow, Nat.reduceMul, Int.reduceToNat, Int.reduceLT, Int.reduceLE, initT]
  repeat' (first | refine w1g ?_ | refine w1l ?_ | refine w1q ?_ | refine w1b ?_ | refine w1p ?_ | ((first | refine w1r ?_ | refine w1k ?_ | refine w1e ?_); simp (maxSteps := 400000) (disch := omega) only [push_cast, ↓reduceIte, reduceCtorEq, Nat.reduceAdd, Nat.reduceSub, Nat.reduceEqDiff, Nat.reduceLeDiff, Nat.reduceLT, Nat.reduceBEq, Nat.reduceDiv, Nat.reduceMod, Nat.reducePow, Nat.reduceMul, Int.reduceToNat, Int.reduceLT, Int.reduceLE, e1, e2]) | refine an2 ?_ | fail)
  refine W_loopM (fun q : (List Int × List Int) × (List Int × List Int) => [(10, iv q.1.2.length), (11, iv q.2.1.length)]) (fun q => setm M k (rI st (q.1.1 ++ (q.1.2 ++ (q.2.1 ++ q.2.2))))) (fun q => (0 < q.1.2.length ∧ 0 < q.2.1.length) ∧ m = q.1.1.length + q.1.2.length ∧ q.1.1 ++ (q.2.1 ++ (q.1.2 ++ q.2.2)) = T) (fun q => q.1.2.length + q.2.1.length) nx (fun c _ => hfr' _) ((P, X), (Y, Q)) ⟨⟨hX, hY⟩, hm, hT.symm⟩ (by rfl) (by rfl) (fun q hq => ?_)
  clear e1 e2 hm hT hlen hX hY
  obtain ⟨⟨P, X⟩, ⟨Y, Q⟩⟩ := q
  obtain ⟨⟨hX, hY⟩, hm, hT⟩ := hq
  simp only at hX hY hm hT
  have hlT : P.length + X.length + Y.length + Q.length ≤ 1000000 := by
    have := congrArg List.length hT
    simp only [List.length_append] at this
    omega
  simp (maxSteps := 400000) (disch := omega) only [push_cast, ↓reduceIte, reduceCtorEq, Nat.reduceAdd, Nat.reduceSub, Nat.reduceEqDiff, Nat.reduceLeDiff, Nat.reduceLT, Nat.reduceBEq, Nat.reduceDiv, Nat.reduceMod, Nat.reducePow, Nat.reduceMul, Int.reduceToNat, Int.reduceLT, Int.reduceLE, keepL]
  repeat' (first | refine w1g ?_ | refine w1l ?_ | refine w1q ?_ | refine w1b ?_ | refine w1p ?_ | ((first | refine w1r ?_ | refine w1k ?_ | refine w1e ?_); simp (maxSteps := 400000) (disch := omega) only [push_cast, ↓reduceIte, reduceCtorEq, Nat.reduceAdd, Nat.reduceSub, Nat.reduceEqDiff, Nat.reduceLeDiff, Nat.reduceLT, Nat.reduceBEq, Nat.reduceDiv, Nat.reduceMod, Nat.reducePow, Nat.reduceMul, Int.reduceToNat, Int.reduceLT, Int.reduceLE, keepL]) | refine an2 ?_ | fail)
  refine W_cond (by rfl) (fun h5 => ?_) (fun h5 => ?_)
  · have hne : X.length ≠ Y.length := by
      simp only [bne_iff_ne, ne_eq] at h5; omega
    repeat' (first | refine w1g ?_ | refine w1l ?_ | refine w1q ?_ | refine w1b ?_ | refine w1p ?_ | ((first | refine w1r ?_ | refine w1k ?_ | refine w1e ?_); simp (maxSteps := 400000) (disch := omega) only [push_cast, ↓reduceIte, reduceCtorEq, Nat.reduceAdd, Nat.reduceSub, Nat.reduceEqDiff, Nat.reduceLeDiff, Nat.reduceLT, Nat.reduceBEq, Nat.reduceDiv, Nat.reduceMod, Nat.reducePow, Nat.reduceMul, Int.reduceToNat, Int.reduceLT, Int.reduceLE, keepL]) | refine an2 ?_ | fail)
    refine W_condD (by rfl) (fun h6 => ?_) (fun h6 => ?_)
    · obtain ⟨X1, X2, rfl, hl⟩ : ∃ X1 X2, X = X1 ++ X2 ∧ X1.length = Y.length := ⟨X.take Y.length, X.drop Y.length, (List.take_append_drop _ _).symm, by rw [List.length_take]; omega⟩
      have hxl : (X1 ++ X2).length = X1.length + X2.length := List.length_append
      repeat' (first | refine w1g ?_ | refine w1l ?_ | refine w1q ?_ | refine w1b ?_ | refine w1p ?_ | ((first | refine w1r ?_ | refine w1k ?_ | refine w1e ?_); simp (maxSteps := 400000) (disch := omega) only [push_cast, ↓reduceIte, reduceCtorEq, Nat.reduceAdd, Nat.reduceSub, Nat.reduceEqDiff, Nat.reduceLeDiff, Nat.reduceLT, Nat.reduceBEq, Nat.reduceDiv, Nat.reduceMod, Nat.reducePow, Nat.reduceMul, Int.reduceToNat, Int.reduceLT, Int.reduceLE, keepL]) | refine an2 ?_ | fail)
      refine CallC.inl (i127 P X1 X2 Y Q (lm_set_same _ _ _) (fun j hj => hfr' _ j (by dsimp only at hj; omega)) (by simp only [List.length_append]; omega) (by simp) rfl (by omega) (by omega) (by omega) (by omega) ?_)
      (refine sy1 ?_; try exact True.intro)
      repeat' (first | refine w1g ?_ | refine w1l ?_ | refine w1q ?_ | refine w1b ?_ | refine w1p ?_ | ((first | refine w1r ?_ | refine w1k ?_ | refine w1e ?_); simp (maxSteps := 400000) (disch := omega) only [push_cast, ↓reduceIte, reduceCtorEq, Nat.reduceAdd, Nat.reduceSub, Nat.reduceEqDiff, Nat.reduceLeDiff, Nat.reduceLT, Nat.reduceBEq, Nat.reduceDiv, Nat.reduceMod, Nat.reducePow, Nat.reduceMul, Int.reduceToNat, Int.reduceLT, Int.reduceLE, keepL]) | refine an2 ?_ | fail)
      have e3 : (((X1 ++ X2).length : Nat) : Int) - Y.length = X2.length := by omega
      have e4 : ((Y.length : Nat) : Int) = X1.length := by omega
      exact ⟨((P ++ Y, X2), (X1, Q)), ⟨⟨by dsimp only; omega, by dsimp only; omega⟩, by simp only [List.length_append]; omega, by rw [← hT]; simp⟩, by dsimp only; omega, by rw [e3, e4], by simp⟩
    · obtain ⟨Y1, Y2, rfl, hl⟩ : ∃ Y1 Y2, Y = Y1 ++ Y2 ∧ Y2.length = X.length := ⟨Y.take (Y.length - X.length), Y.drop (Y.length - X.length), (List.take_append_drop _ _).symm, by rw [List.length_drop]; omega⟩
      have hyl : (Y1 ++ Y2).length = Y1.length + Y2.length := List.length_append
      repeat' (first | refine w1g ?_ | refine w1l ?_ | refine w1q ?_ | refine w1b ?_ | refine w1p ?_ | ((first | refine w1r ?_ | refine w1k ?_ | refine w1e ?_); simp (maxSteps := 400000) (disch := omega) only [push_cast, ↓reduceIte, reduceCtorEq, Nat.reduceAdd, Nat.reduceSub, Nat.reduceEqDiff, Nat.reduceLeDiff, Nat.reduceLT, Nat.reduceBEq, Nat.reduceDiv, Nat.reduceMod, Nat.reducePow, Nat.reduceMul, Int.reduceToNat, Int.reduceLT, Int.reduceLE, keepL]) | refine an2 ?_ | fail)
      refine CallC.inl (i127 P X Y1 Y2 Q (lm_set_same _ _ _) (fun j hj => hfr' _ j (by dsimp only at hj; omega)) (by simp only [List.length_append]; omega) (by simp) rfl (by omega) (by omega) (by omega) (by omega) ?_)
      (refine sy1 ?_; try exact True.intro)
      repeat' (first | refine w1g ?_ | refine w1l ?_ | refine w1q ?_ | refine w1b ?_ | refine w1p ?_ | ((first | refine w1r ?_ | refine w1k ?_ | refine w1e ?_); simp (maxSteps := 400000) (disch := omega) only [push_cast, ↓reduceIte, reduceCtorEq, Nat.reduceAdd, Nat.reduceSub, Nat.reduceEqDiff, Nat.reduceLeDiff, Nat.reduceLT, Nat.reduceBEq, Nat.reduceDiv, Nat.reduceMod, Nat.reducePow, Nat.reduceMul, Int.reduceToNat, Int.reduceLT, Int.reduceLE, keepL]) | refine an2 ?_ | fail)
      have e3 : (((Y1 ++ Y2).length : Nat) : Int) - X.length = Y1.length := by omega
      have e4 : ((X.length : Nat) : Int) = Y2.length := by omega
      exact ⟨((P, Y2), (Y1, X ++ Q)), ⟨⟨by dsimp only; omega, by dsimp only; omega⟩, by dsimp only; omega, by rw [← hT]; simp⟩, by dsimp only; omega, by rw [e3, e4], by simp⟩
  · have hne : X.length = Y.length := by
      simp only [bne_eq_false_iff_eq] at h5; omega
    repeat' (first | refine w1g ?_ | refine w1l ?_ | refine w1q ?_ | refine w1b ?_ | refine w1p ?_ | ((first | refine w1r ?_ | refine w1k ?_ | refine w1e ?_); simp (maxSteps := 400000) (disch := omega) only [push_cast, ↓reduceIte, reduceCtorEq, Nat.reduceAdd, Nat.reduceSub, Nat.reduceEqDiff, Nat.reduceLeDiff, Nat.reduceLT, Nat.reduceBEq, Nat.reduceDiv, Nat.reduceMod, Nat.reducePow, Nat.reduceMul, Int.reduceToNat, Int.reduceLT, Int.reduceLE, keepL]) | refine an2 ?_ | fail)
    refine CallC.inl (i127 P X [] Y Q (lm_set_same _ _ _) (fun j hj => hfr' _ j (by dsimp only at hj; omega)) (by simp only [List.length_append]; omega) (by simp) rfl (by omega) (by omega) (by simp; omega) (by omega) ?_)
    (refine sy1 ?_; try exact True.intro)
    repeat' (first | refine w1g ?_ | refine w1l ?_ | refine w1q ?_ | refine w1b ?_ | refine w1p ?_ | ((first | refine w1r ?_ | refine w1k ?_ | refine w1e ?_); simp (maxSteps := 400000) (disch := omega) only [push_cast, ↓reduceIte, reduceCtorEq, Nat.reduceAdd, Nat.reduceSub, Nat.reduceEqDiff, Nat.reduceLeDiff, Nat.reduceLT, Nat.reduceBEq, Nat.reduceDiv, Nat.reduceMod, Nat.reducePow, Nat.reduceMul, Int.reduceToNat, Int.reduceLT, Int.reduceLE, keepL]) | refine an2 ?_ | fail)
    rw [← hT]
theorem i125 {s : S} {k st : Nat} {gc : Nat} {ca : List AV} {L L' : List Int} (P X Y Q : List Int) {a b n : Int} {K : AV → S → Prop} (hk : lm s.mem k = some (rI st L)) (hfr : ∀ j, s.nx ≤ j → lm s.mem j = none) (hlen : L.length ≤ 1000000)
    (hX : 0 < X.length) (hY : 0 < Y.length) (hL : L = P ++ (X ++ (Y ++ Q))) (hL' : P ++ (Y ++ (X ++ Q)) = L') (ha : a = P.length) (hb : b = P.length + X.length) (hn : n = P.length + X.length + Y.length) (hK : K (.tup []) ⟨s.tm, setm s.mem k (rI st L'), s.nx⟩) :
    Inl Try.prog 150 [.row k st, iv a, iv b, iv n, .clo gc [] ca] s K := by
  subst ha hb hn hL'
  subst hL
  simp only [List.length_append] at hlen
  exact Inl_row mixed Xt150 rfl hk hfr (fun M nx h1 h2 => w125 P X Y Q hX hY (by simp only [List.length_append]; omega) h1 h2) hK
end Go.Proofs.Ytoiohkjomcbadaa

namespace Go.Proofs.Ytoiohkjomcbadaa
set_option linter.unusedVariables false
section
variable {α : Type} {lt : α → α → Bool}
theorem srt_get {l : List α} (h : SrtL lt l) (d : α) {i j : Nat} (hij : i < j) (hj : j < l.length) : lt (l.getD j d) (l.getD i d) = false := by
  have := List.pairwise_iff_getElem.1 h i j (by omega) hj hij
  simpa [List.getD, hj, show i < l.length by omega] using this
theorem srt_take {l : List α} (h : SrtL lt l) (n : Nat) : SrtL lt (l.take n) := List.Pairwise.sublist (List.take_sublist n l) h
theorem srt_drop {l : List α} (h : SrtL lt l) (n : Nat) : SrtL lt (l.drop n) := List.Pairwise.sublist (List.drop_sublist n l) h
theorem mem_take2 {l : List α} {x d : α} {n : Nat} (hx : x ∈ l.take n) : ∃ i, i < n ∧ i < l.length ∧ x = l.getD i d := by
  obtain ⟨i, hi, rfl⟩ := List.getElem_of_mem hx
  rw [List.length_take] at hi
  refine ⟨i, by omega, by omega, ?_⟩
  rw [List.getElem_take]
  simp [List.getD, show i < l.length by omega]
theorem mem_drop2 {l : List α} {x d : α} {n : Nat} (hx : x ∈ l.drop n) : ∃ i, n ≤ i ∧ i < l.length ∧ x = l.getD i d := by
  obtain ⟨i, hi, rfl⟩ := List.getElem_of_mem hx
  rw [List.length_drop] at hi
  refine ⟨n + i, by omega, by omega, ?_⟩
  rw [List.getElem_drop]
  simp [List.getD, show n + i < l.length by omega]
theorem le_of_at (hw : SW lt) {l : List α} (h : SrtL lt l) (d : α) {n : Nat} {v : α} (hn : n = 0 ∨ lt v (l.getD (n - 1) d) = false) (hn2 : n ≤ l.length) : ∀ u ∈ l.take n, lt v u = false := fun u hu => by
  obtain ⟨i, h1, h2, rfl⟩ := mem_take2 (d := d) hu
  rcases hn with hn | hn
  · omega
  · by_cases q : i = n - 1
    · rw [q]; exact hn
    · exact hw.nt (srt_get h d (show i < n - 1 by omega) (by omega)) hn
theorem gt_of_at (hw : SW lt) {l : List α} (h : SrtL lt l) (d : α) {n : Nat} {v : α} (hn : n = l.length ∨ lt v (l.getD n d) = true) : ∀ u ∈ l.drop n, lt v u = true := fun u hu => by
  obtain ⟨i, h1, h2, rfl⟩ := mem_drop2 (d := d) hu
  rcases hn with hn | hn
  · omega
  · by_cases q : i = n
    · rw [q]; exact hn
    · exact hw.lt_le hn (srt_get h d (show n < i by omega) h2)
theorem lt_of_at (hw : SW lt) {l : List α} (h : SrtL lt l) (d : α) {n : Nat} {u : α} (hn : n = 0 ∨ lt (l.getD (n - 1) d) u = true) (hn2 : n ≤ l.length) : ∀ v ∈ l.take n, lt v u = true := fun v hv => by
  obtain ⟨i, h1, h2, rfl⟩ := mem_take2 (d := d) hv
  rcases hn with hn | hn
  · omega
  · by_cases q : i = n - 1
    · rw [q]; exact hn
    · exact hw.le_lt (srt_get h d (show i < n - 1 by omega) (by omega)) hn
theorem ge_of_at (hw : SW lt) {l : List α} (h : SrtL lt l) (d : α) {n : Nat} {u : α} (hn : n = l.length ∨ lt (l.getD n d) u = false) : ∀ v ∈ l.drop n, lt v u = false := fun v hv => by
  obtain ⟨i, h1, h2, rfl⟩ := mem_drop2 (d := d) hv
  rcases hn with hn | hn
  · omega
  · by_cases q : i = n
    · rw [q]; exact hn
    · exact hw.nt hn (srt_get h d (show n < i by omega) h2)
theorem one_at (hw : SW lt) {V : List α} (h : SrtL lt V) (d u : α) {t : Nat} (ht : t ≤ V.length) (h1 : t = 0 ∨ lt (V.getD (t - 1) d) u = true) (h2 : t = V.length ∨ lt (V.getD t d) u = false) : mrg lt [u] V = V.take t ++ u :: V.drop t := by
  have := one_mrg (V1 := V.take t) (V2 := V.drop t) (lt_of_at hw h d h1 ht) (ge_of_at hw h d h2)
  rwa [List.take_append_drop] at this
theorem at_one (hw : SW lt) {U : List α} (h : SrtL lt U) (d v : α) {t : Nat} (ht : t ≤ U.length) (h1 : t = 0 ∨ lt v (U.getD (t - 1) d) = false) (h2 : t = U.length ∨ lt v (U.getD t d) = true) : mrg lt U [v] = U.take t ++ v :: U.drop t := by
  have := mrg_one (U1 := U.take t) (U2 := U.drop t) (le_of_at hw h d h1 ht) (gt_of_at hw h d h2)
  rwa [List.take_append_drop] at this
theorem ins_at (hw : SW lt) {U : List α} (h : SrtL lt U) (d v : α) {t : Nat} (ht : t ≤ U.length) (h1 : t = 0 ∨ lt v (U.getD (t - 1) d) = false) (h2 : ∀ u ∈ U.drop t, lt v u = true) : ins lt v U = U.take t ++ v :: U.drop t := by
  have := ins_split (A := U.take t) (B := U.drop t) (le_of_at hw h d h1 ht) h2
  rwa [List.take_append_drop] at this
theorem sym_split (hw : SW lt) {U V : List α} (hU : SrtL lt U) (hV : SrtL lt V) (d : α) {s e : Nat} (hs : s ≤ U.length) (he : e ≤ V.length)
    (h1 : s = 0 ∨ e = V.length ∨ lt (V.getD e d) (U.getD (s - 1) d) = false) (h2 : e = 0 ∨ s = U.length ∨ lt (V.getD (e - 1) d) (U.getD s d) = true) :
    mrg lt U V = mrg lt (U.take s) (V.take e) ++ mrg lt (U.drop s) (V.drop e) := by
  have := mrg_split (lt := lt) (U.take s) (V.take e) (U2 := U.drop s) (V2 := V.drop e) (fun u hu v hv => by
    rcases h1 with h1 | h1 | h1
    · rw [h1] at hu; simp at hu
    · rw [h1] at hv; simp at hv
    · exact ge_of_at hw hV d (.inr (le_of_at hw hU d (.inr h1) hs u hu)) v hv) (fun v hv u hu => by
    rcases h2 with h2 | h2 | h2
    · rw [h2] at hv; simp at hv
    · rw [h2] at hu; simp at hu
    · exact gt_of_at hw hU d (.inr (lt_of_at hw hV d (.inr h2) he v hv)) u hu)
  rwa [List.take_append_drop, List.take_append_drop] at this
def insL (P A : List α) (v : α) (e : Nat) (Q : List α) : List α := (P ++ A.take e) ++ v :: (A.drop e ++ Q)
theorem insL_len {P A Q : List α} {v : α} {e : Nat} (he : e ≤ A.length) : (insL P A v e Q).length = P.length + A.length + 1 + Q.length := by
  unfold insL
  simp only [List.length_append, List.length_cons, List.length_take, List.length_drop]; omega
theorem insL_at {P A Q : List α} {v : α} (d : α) {e : Nat} (he : e ≤ A.length) : (insL P A v e Q).getD (P.length + e) d = v := by
  unfold insL
  exact at_cons (by rw [List.length_append, List.length_take]; omega)
theorem insL_up {P A Q : List α} {v : α} (d : α) {e : Nat} (he : e < A.length) :
    (insL P A v e Q).getD (P.length + e + 1) d = A.getD e d ∧ ((insL P A v e Q).set (P.length + e) (A.getD e d)).set (P.length + e + 1) v = insL P A v (e + 1) Q := by
  have e1 : A.drop e = A.getD e d :: A.drop (e + 1) := by rw [List.drop_eq_getElem_cons he]; simp [List.getD, he]
  have e3 : A.take (e + 1) = A.take e ++ [A.getD e d] := by rw [List.take_succ_eq_append_getElem he]; simp [List.getD, he]
  have l1 : (P ++ A.take e).length = P.length + e := by rw [List.length_append, List.length_take]; omega
  unfold insL
  rw [e3, e1]
  generalize A.getD e d = x
  have l2 : ((P ++ A.take e) ++ [v]).length = P.length + e + 1 := by rw [List.length_append, l1]; rfl
  have l3 : ((P ++ A.take e) ++ [x]).length = P.length + e + 1 := by rw [List.length_append, l1]; rfl
  constructor
  · have r : (P ++ A.take e) ++ v :: ((x :: A.drop (e + 1)) ++ Q) = ((P ++ A.take e) ++ [v]) ++ x :: (A.drop (e + 1) ++ Q) := by simp
    rw [r]; exact at_cons l2
  · rw [set_cons l1]
    have r : (P ++ A.take e) ++ x :: ((x :: A.drop (e + 1)) ++ Q) = ((P ++ A.take e) ++ [x]) ++ x :: (A.drop (e + 1) ++ Q) := by simp
    rw [r, set_cons l3]
    simp
theorem insL_dn {P A Q : List α} {v : α} (d : α) {e : Nat} (he : e < A.length) :
    (insL P A v (e + 1) Q).getD (P.length + e) d = A.getD e d ∧ ((insL P A v (e + 1) Q).set (P.length + (e + 1)) (A.getD e d)).set (P.length + e) v = insL P A v e Q := by
  have e1 : A.drop e = A.getD e d :: A.drop (e + 1) := by rw [List.drop_eq_getElem_cons he]; simp [List.getD, he]
  have e3 : A.take (e + 1) = A.take e ++ [A.getD e d] := by rw [List.take_succ_eq_append_getElem he]; simp [List.getD, he]
  have l1 : (P ++ A.take e).length = P.length + e := by rw [List.length_append, List.length_take]; omega
  unfold insL
  rw [e3, e1]
  generalize A.getD e d = x
  have l3 : (P ++ (A.take e ++ [x])).length = P.length + (e + 1) := by rw [← List.append_assoc, List.length_append, l1]; rfl
  constructor
  · have r : (P ++ (A.take e ++ [x])) ++ v :: (A.drop (e + 1) ++ Q) = (P ++ A.take e) ++ x :: (v :: (A.drop (e + 1) ++ Q)) := by simp
    rw [r]; exact at_cons l1
  · rw [set_cons l3]
    have r : (P ++ (A.take e ++ [x])) ++ x :: (A.drop (e + 1) ++ Q) = (P ++ A.take e) ++ x :: (x :: (A.drop (e + 1) ++ Q)) := by simp
    rw [r, set_cons l1]
    simp
theorem get_U {P U R : List α} (d : α) {c : Nat} (h : c < U.length) : (P ++ (U ++ R)).getD (P.length + c) d = U.getD c d := by
  simp only [List.getD_eq_getElem?_getD]
  rw [List.getElem?_append_right (by omega), List.getElem?_append_left (by omega), Nat.add_sub_cancel_left]
theorem get_V {P U V R : List α} (d : α) {c : Nat} (h : c < V.length) : (P ++ (U ++ (V ++ R))).getD (P.length + U.length + c) d = V.getD c d := by
  have := get_U (P := P ++ U) (U := V) (R := R) d h
  rw [List.length_append, List.append_assoc] at this
  exact this
end
end Go.Proofs.Ytoiohkjomcbadaa

namespace Go.Proofs.Ytoiohkjomcbadaa
open Go Sy
set_option maxRecDepth 100000
set_option maxHeartbeats 4000000
set_option linter.unusedVariables false
set_option linter.unusedSimpArgs false
theorem getD_ok {ok : Int → Prop} (ok0 : ok 0) {l : List Int} (h : ∀ x ∈ l, ok x) (i : Nat) : ok (l.getD i 0) := by
  by_cases q : i < l.length
  · refine h _ ?_
    simp only [List.getD, List.getElem?_eq_getElem q, Option.getD_some]; exact List.getElem_mem q
  · simpa [List.getD, q] using ok0
theorem insL_ok {ok : Int → Prop} {P A Q : List Int} {v : Int} {e : Nat} (h1 : ∀ x ∈ P, ok x) (h2 : ∀ x ∈ A, ok x) (h3 : ok v) (h4 : ∀ x ∈ Q, ok x) : ∀ x ∈ insL P A v e Q, ok x := fun x hx => by
  unfold insL at hx
  simp only [List.mem_append, List.mem_cons] at hx
  rcases hx with (hx | hx) | hx | hx | hx
  · exact h1 x hx
  · exact h2 x (List.mem_of_mem_take hx)
  · rw [hx]; exact h3
  · exact h2 x (List.mem_of_mem_drop hx)
  · exact h4 x hx
theorem w118 {M : List (Nat × Blk)} {k st nx : Nat} {gc : Nat} {ca : List AV} {lt : Int → Int → Bool} {cv : Int → Int → Int} (hw : SW lt) (hfz : frzAll ca = true) (hcv : ∀ x y, lt x y = decide (cv x y < 0))
    {ok : Int → Prop} (ok0 : ok 0) (hg : ∀ x y, ok x → ok y → Sy.Fn Try.prog gc (iv x :: iv y :: ca) (iv (cv x y))) (P U Q : List Int) (okP : ∀ x ∈ P, ok x) (okU : ∀ x ∈ U, ok x) (okQ : ∀ x ∈ Q, ok x) (hlen : P.length + U.length + Q.length ≤ 1000000) (hk : k < nx) (hfr : ∀ j, nx ≤ j → lm M j = none) :
    W Try.prog 53 Xn137_0 ⟨initT 0 [.row k st, iv P.length, iv (P.length + U.length), .clo gc [] ca], setm M k (rI st (P ++ (U ++ Q))), nx⟩
      (fun e s' => (e = .n ∨ e = .r) ∧ s'.mem = setm M k (rI st (P ++ (isort lt U ++ Q)))) := by
  have hfr' : ∀ b : Blk, ∀ j, nx ≤ j → lm (setm M k b) j = none := fun b j hj => by rw [lm_set_other _ _ (by omega)]; exact hfr j hj
  simp (maxSteps := 400000) (disch := omega) only [push_cast, ↓reduceIte, reduceCtorEq, Nat.reduceAdd, Nat.reduceSub, Nat.reduceEqDiff, Nat.reduceLeDiff, Nat.reduceLT, Nat.reduceBEq, Nat.reduceDiv, Nat.reduceMod, Nat.reducePow, Nat.reduceMul, Int.reduceToNat, Int.reduceLT, Int.reduceLE, initT]
  repeat' (first | refine w1g ?_ | refine w1l ?_ | refine w1q ?_ | refine w1b ?_ | refine w1p ?_ | ((first | refine w1r ?_ | refine w1k ?_ | refine w1e ?_); (refine sy1 ?_; try exact True.intro)) | refine an2 ?_ | fail)
  refine W_loopM (fun c : Nat => [(8, iv ((P.length : Int) + 1 + c))]) (fun c => setm M k (rI st (P ++ (isort lt (U.take (c + 1)) ++ (U.drop (c + 1) ++ Q))))) (fun c => c = 0 ∨ c + 1 ≤ U.length) (fun c => U.length - c) nx (fun c _ => hfr' _) 0 (.inl rfl) (by rfl) (by
    have : isort lt (U.take 1) ++ U.drop 1 = U := by
      cases U with
      | nil => rfl
      | cons u U => rfl
    rw [← List.append_assoc (isort lt _), this]) (fun c hc => ?_)
  simp (maxSteps := 400000) (disch := omega) only [push_cast, ↓reduceIte, reduceCtorEq, Nat.reduceAdd, Nat.reduceSub, Nat.reduceEqDiff, Nat.reduceLeDiff, Nat.reduceLT, Nat.reduceBEq, Nat.reduceDiv, Nat.reduceMod, Nat.reducePow, Nat.reduceMul, Int.reduceToNat, Int.reduceLT, Int.reduceLE, keepL]
  repeat' (first | refine w1g ?_ | refine w1l ?_ | refine w1q ?_ | refine w1b ?_ | refine w1p ?_ | ((first | refine w1r ?_ | refine w1k ?_ | refine w1e ?_); simp (maxSteps := 400000) (disch := omega) only [push_cast, ↓reduceIte, reduceCtorEq, Nat.reduceAdd, Nat.reduceSub, Nat.reduceEqDiff, Nat.reduceLeDiff, Nat.reduceLT, Nat.reduceBEq, Nat.reduceDiv, Nat.reduceMod, Nat.reducePow, Nat.reduceMul, Int.reduceToNat, Int.reduceLT, Int.reduceLE, keepL]) | refine an2 ?_ | fail)
  refine W_condD (by rfl) (fun h5 => ?_) (fun h5 => ?_)
  · have hlt : c + 1 < U.length := by omega
    have hA : SrtL lt (isort lt (U.take (c + 1))) := srt_isort hw _
    have hAl : (isort lt (U.take (c + 1))).length = c + 1 := by rw [isort_len, List.length_take]; omega
    have hA2 : isort lt (U.take (c + 1 + 1)) = ins lt (U.getD (c + 1) (0 : Int)) (isort lt (U.take (c + 1))) := by
      rw [List.take_succ_eq_append_getElem hlt, isort_snoc]
      simp [List.getD, hlt]
    have hdr : U.drop (c + 1) = U.getD (c + 1) (0 : Int) :: U.drop (c + 1 + 1) := by rw [List.drop_eq_getElem_cons hlt]; simp [List.getD, hlt]
    have hdl : (U.drop (c + 1 + 1)).length = U.length - (c + 1 + 1) := List.length_drop
    have okA : ∀ x ∈ isort lt (U.take (c + 1)), ok x := fun x hx => okU x (List.mem_of_mem_take ((isort_mem _).1 hx))
    have okv : ok (U.getD (c + 1) (0 : Int)) := getD_ok ok0 okU _
    have okR : ∀ x ∈ U.drop (c + 1 + 1) ++ Q, ok x := fun x hx => by
      rcases List.mem_append.1 hx with hx | hx
      · exact okU x (List.mem_of_mem_drop hx)
      · exact okQ x hx
    rw [hdr]
    generalize isort lt (U.take (c + 1)) = A at *
    generalize U.getD (c + 1) (0 : Int) = v at *
    generalize hR : U.drop (c + 1 + 1) ++ Q = R at *
    have hRl : R.length = U.length - (c + 1 + 1) + Q.length := by rw [← hR, List.length_append, hdl]
    have hini : P ++ (A ++ (v :: (U.drop (c + 1 + 1)) ++ Q)) = insL P A v A.length R := by
      unfold insL
      rw [List.take_length, List.drop_length, ← hR]; simp
    rw [hini]
    repeat' (first | refine w1g ?_ | refine w1l ?_ | refine w1q ?_ | refine w1b ?_ | refine w1p ?_ | ((first | refine w1r ?_ | refine w1k ?_ | refine w1e ?_); simp (maxSteps := 400000) (disch := omega) only [push_cast, ↓reduceIte, reduceCtorEq, Nat.reduceAdd, Nat.reduceSub, Nat.reduceEqDiff, Nat.reduceLeDiff, Nat.reduceLT, Nat.reduceBEq, Nat.reduceDiv, Nat.reduceMod, Nat.reducePow, Nat.reduceMul, Int.reduceToNat, Int.reduceLT, Int.reduceLE, keepL]) | refine an2 ?_ | fail)
    refine W_loopM (fun e : Nat => [(9, iv ((P.length : Int) + e))]) (fun e => setm M k (rI st (insL P A v e R))) (fun e => e ≤ A.length ∧ ∀ u ∈ A.drop e, lt v u = true) (fun e => e) nx (fun c _ => hfr' _) A.length ⟨Nat.le_refl _, by rw [List.drop_length]; intro u hu; cases hu⟩ (by
      have e1 : (P.length : Int) + 1 + c = P.length + A.length := by omega
      rw [e1]; rfl) (by rfl) (fun e he => ?_)
    obtain ⟨he1, he2⟩ := he
    have hll := insL_len (P := P) (Q := R) (v := v) he1
    have hat := insL_at (P := P) (Q := R) (v := v) (0 : Int) he1
    have ea : ((P.length : Int) + e).toNat = P.length + e := by omega
    obtain ⟨y, hy⟩ : ∃ y, (insL P A v e R).getD ((P.length : Int) + e - 1).toNat (0 : Int) = y := ⟨_, rfl⟩
    have cg := hg v y okv (by rw [← hy]; exact getD_ok ok0 (insL_ok okP okA okv okR) _)
    simp (maxSteps := 400000) (disch := omega) only [push_cast, ↓reduceIte, reduceCtorEq, Nat.reduceAdd, Nat.reduceSub, Nat.reduceEqDiff, Nat.reduceLeDiff, Nat.reduceLT, Nat.reduceBEq, Nat.reduceDiv, Nat.reduceMod, Nat.reducePow, Nat.reduceMul, Int.reduceToNat, Int.reduceLT, Int.reduceLE, keepL]
    repeat' (first | refine w1g ?_ | refine w1l ?_ | refine w1q ?_ | refine w1b ?_ | refine w1p ?_ | ((first | refine w1r ?_ | refine w1k ?_ | refine w1e ?_ | refine CallC.go _ (fun _ => ⟨trivial, cg⟩) rfl ?_); simp (maxSteps := 400000) (disch := omega) only [push_cast, ↓reduceIte, reduceCtorEq, Nat.reduceAdd, Nat.reduceSub, Nat.reduceEqDiff, Nat.reduceLeDiff, Nat.reduceLT, Nat.reduceBEq, Nat.reduceDiv, Nat.reduceMod, Nat.reducePow, Nat.reduceMul, Int.reduceToNat, Int.reduceLT, Int.reduceLE, keepL, hll, ea, hat, hy, hfz, beq_self_eq_true]) | refine an2 ?_ | fail)
    refine W_cond (by rfl) (fun hb => ?_) (fun hb => ?_)
    · simp only [Bool.and_eq_true, decide_eq_true_eq] at hb
      obtain ⟨e', rfl⟩ : ∃ e', e = e' + 1 := ⟨e - 1, by omega⟩
      have hdn := insL_dn (P := P) (Q := R) (v := v) (0 : Int) (show e' < A.length by omega)
      obtain ⟨q1, q2⟩ := hdn
      have eb : ((P.length : Int) + ((e' + 1 : Nat) : Int) - 1).toNat = P.length + e' := by omega
      rw [eb, q1] at hy
      have hlty : lt v y = true := by rw [hcv]; exact decide_eq_true hb.2
      have hall : ∀ u ∈ A.drop e', lt v u = true := by
        have he' : e' < A.length := by omega
        have e1 : A.drop e' = A.getD e' (0 : Int) :: A.drop (e' + 1) := by rw [List.drop_eq_getElem_cons he']; simp [List.getD, he']
        rw [e1, hy]
        intro u hu
        rcases List.mem_cons.1 hu with rfl | hu
        · exact hlty
        · exact he2 u hu
      have eb' : ((P.length : Int) + ((e' : Int) + 1) - 1).toNat = P.length + e' := by omega
      have ea' : ((P.length : Int) + ((e' : Int) + 1)).toNat = P.length + (e' + 1) := by omega
      rw [hy] at q1 q2
      repeat' (first | refine w1g ?_ | refine w1l ?_ | refine w1q ?_ | refine w1b ?_ | refine w1p ?_ | ((first | refine w1r ?_ | refine w1k ?_ | refine w1e ?_); simp (maxSteps := 400000) (disch := omega) only [push_cast, ↓reduceIte, reduceCtorEq, Nat.reduceAdd, Nat.reduceSub, Nat.reduceEqDiff, Nat.reduceLeDiff, Nat.reduceLT, Nat.reduceBEq, Nat.reduceDiv, Nat.reduceMod, Nat.reducePow, Nat.reduceMul, Int.reduceToNat, Int.reduceLT, Int.reduceLE, keepL, hll, ea', eb', hat, q1, beq_self_eq_true]) | refine an2 ?_ | fail)
      refine ⟨rfl, ⟨by dsimp only; omega, hasM_set _ _ _⟩, by omega, y, rfl, rfl, ?_⟩
      simp (maxSteps := 400000) (disch := omega) only [push_cast, ↓reduceIte, reduceCtorEq, Nat.reduceAdd, Nat.reduceSub, Nat.reduceEqDiff, Nat.reduceLeDiff, Nat.reduceLT, Nat.reduceBEq, Nat.reduceDiv, Nat.reduceMod, Nat.reducePow, Nat.reduceMul, Int.reduceToNat, Int.reduceLT, Int.reduceLE, hll, ea', eb', List.length_set]
      repeat' (first | refine w1g ?_ | refine w1l ?_ | refine w1q ?_ | refine w1b ?_ | refine w1p ?_ | ((first | refine w1r ?_ | refine w1k ?_ | refine w1e ?_); simp (maxSteps := 400000) (disch := omega) only [push_cast, ↓reduceIte, reduceCtorEq, Nat.reduceAdd, Nat.reduceSub, Nat.reduceEqDiff, Nat.reduceLeDiff, Nat.reduceLT, Nat.reduceBEq, Nat.reduceDiv, Nat.reduceMod, Nat.reducePow, Nat.reduceMul, Int.reduceToNat, Int.reduceLT, Int.reduceLE, keepL, hll, ea', eb', List.length_set, beq_self_eq_true]) | refine an2 ?_ | fail)
      refine ⟨rfl, ⟨by dsimp only; omega, hasM_set _ _ _⟩, by omega, v, rfl, rfl, ?_⟩
      rw [q2]
      (refine sy1 ?_; try exact True.intro)
      repeat' (first | refine w1g ?_ | refine w1l ?_ | refine w1q ?_ | refine w1b ?_ | refine w1p ?_ | ((first | refine w1r ?_ | refine w1k ?_ | refine w1e ?_); simp (maxSteps := 400000) (disch := omega) only [push_cast, ↓reduceIte, reduceCtorEq, Nat.reduceAdd, Nat.reduceSub, Nat.reduceEqDiff, Nat.reduceLeDiff, Nat.reduceLT, Nat.reduceBEq, Nat.reduceDiv, Nat.reduceMod, Nat.reducePow, Nat.reduceMul, Int.reduceToNat, Int.reduceLT, Int.reduceLE, keepL]) | refine an2 ?_ | fail)
      refine ⟨e', ⟨by omega, hall⟩, by omega, ?_, rfl⟩
      rw [show (P.length : Int) + ((e' : Int) + 1) - 1 = P.length + e' by omega]
    · have hstop : e = 0 ∨ lt v (A.getD (e - 1) (0 : Int)) = false := by
        by_cases e0 : e = 0
        · exact .inl e0
        · right
          obtain ⟨e', rfl⟩ : ∃ e', e = e' + 1 := ⟨e - 1, by omega⟩
          have q1 := (insL_dn (P := P) (Q := R) (v := v) (0 : Int) (show e' < A.length by omega)).1
          have eb : ((P.length : Int) + ((e' + 1 : Nat) : Int) - 1).toNat = P.length + e' := by omega
          rw [eb, q1] at hy
          rw [Nat.add_sub_cancel, hy, hcv]
          simp only [Bool.and_eq_false_iff, decide_eq_false_iff_not] at hb
          exact decide_eq_false (by omega)
      have hins := ins_at hw hA (0 : Int) v he1 hstop he2
      have hfin : insL P A v e R = P ++ (ins lt v A ++ (U.drop (c + 1 + 1) ++ Q)) := by
        unfold insL
        rw [hins, hR]; simp
      rw [hfin, ← hA2]
      repeat' (first | refine w1g ?_ | refine w1l ?_ | refine w1q ?_ | refine w1b ?_ | refine w1p ?_ | ((first | refine w1r ?_ | refine w1k ?_ | refine w1e ?_); simp (maxSteps := 400000) (disch := omega) only [push_cast, ↓reduceIte, reduceCtorEq, Nat.reduceAdd, Nat.reduceSub, Nat.reduceEqDiff, Nat.reduceLeDiff, Nat.reduceLT, Nat.reduceBEq, Nat.reduceDiv, Nat.reduceMod, Nat.reducePow, Nat.reduceMul, Int.reduceToNat, Int.reduceLT, Int.reduceLE, keepL]) | refine an2 ?_ | fail)
      refine ⟨c + 1, .inr (by omega), by omega, ?_, rfl⟩
      rw [show (P.length : Int) + 1 + ((c + 1 : Nat) : Int) = P.length + 1 + c + 1 by omega]
  · have hcl : U.length ≤ c + 1 := by omega
    rw [List.take_of_length_le hcl, List.drop_of_length_le hcl, List.nil_append]
    repeat' (first | refine w1g ?_ | refine w1l ?_ | refine w1q ?_ | refine w1b ?_ | refine w1p ?_ | ((first | refine w1r ?_ | refine w1k ?_ | refine w1e ?_); simp (maxSteps := 400000) (disch := omega) only [push_cast, ↓reduceIte, reduceCtorEq, Nat.reduceAdd, Nat.reduceSub, Nat.reduceEqDiff, Nat.reduceLeDiff, Nat.reduceLT, Nat.reduceBEq, Nat.reduceDiv, Nat.reduceMod, Nat.reducePow, Nat.reduceMul, Int.reduceToNat, Int.reduceLT, Int.reduceLE, keepL]) | refine an2 ?_ | fail)
end Go.Proofs.Ytoiohkjomcbadaa

namespace Go.Proofs.Ytoiohkjomcbadaa
open Go Sy
set_option maxRecDepth 100000
set_option maxHeartbeats 4000000
set_option linter.unusedVariables false
set_option linter.unusedSimpArgs false
theorem w119a {M : List (Nat × Blk)} {k st nx : Nat} {gc : Nat} {ca : List AV} {lt : Int → Int → Bool} {cv : Int → Int → Int} (hw : SW lt) (hfz : frzAll ca = true) (hcv : ∀ x y, lt x y = decide (cv x y < 0))
    {ok : Int → Prop} (ok0 : ok 0) (hg : ∀ x y, ok x → ok y → Sy.Fn Try.prog gc (iv x :: iv y :: ca) (iv (cv x y))) (P V Q : List Int) (u : Int) (oku : ok u) (okV : ∀ x ∈ V, ok x) (hV0 : 0 < V.length) (sV : SrtL lt V) (hlen : P.length + 1 + V.length + Q.length ≤ 1000000) (hk : k < nx) (hfr : ∀ j, nx ≤ j → lm M j = none) :
    W Try.prog 220 Xn138_0 ⟨initT 0 [.row k st, iv P.length, iv ((P.length : Int) + 1), iv ((P.length : Int) + 1 + V.length), .clo gc [] ca], setm M k (rI st (insL P V u 0 Q)), nx⟩
      (fun e s' => (e = .n ∨ e = .r) ∧ s'.mem = setm M k (rI st (P ++ (mrg lt [u] V ++ Q)))) := by
  have hfr' : ∀ b : Blk, ∀ j, nx ≤ j → lm (setm M k b) j = none := fun b j hj => by rw [lm_set_other _ _ (by omega)]; exact hfr j hj
  have e1 : (P.length : Int) + 1 - P.length = 1 := by omega
  have hll0 := insL_len (P := P) (Q := Q) (v := u) (show 0 ≤ V.length by omega)
  have hat0 := insL_at (P := P) (Q := Q) (v := u) (0 : Int) (show 0 ≤ V.length by omega)
  rw [Nat.add_zero] at hat0
  have hpn : ((P.length : Int)).toNat = P.length := by omega
  have hgV : ∀ c, c < V.length → (insL P V u 0 Q).getD (P.length + 1 + c) (0 : Int) = V.getD c (0 : Int) := fun c hc => by
    have : insL P V u 0 Q = P ++ ([u] ++ (V ++ Q)) := by simp [insL]
    rw [this]
    exact get_V (U := [u]) (0 : Int) hc
  simp (maxSteps := 400000) (disch := omega) only [push_cast, ↓reduceIte, reduceCtorEq, Nat.reduceAdd, Nat.reduceSub, Nat.reduceEqDiff, Nat.reduceLeDiff, Nat.reduceLT, Nat.reduceBEq, Nat.reduceDiv, Nat.reduceMod, Nat.reducePow, Nat.reduceMul, Int.reduceToNat, Int.reduceLT, Int.reduceLE, initT]
  repeat' (first | refine w1g ?_ | refine w1l ?_ | refine w1q ?_ | refine w1b ?_ | refine w1p ?_ | ((first | refine w1r ?_ | refine w1k ?_ | refine w1e ?_); simp (maxSteps := 400000) (disch := omega) only [push_cast, ↓reduceIte, reduceCtorEq, Nat.reduceAdd, Nat.reduceSub, Nat.reduceEqDiff, Nat.reduceLeDiff, Nat.reduceLT, Nat.reduceBEq, Nat.reduceDiv, Nat.reduceMod, Nat.reducePow, Nat.reduceMul, Int.reduceToNat, Int.reduceLT, Int.reduceLE, e1]) | refine an2 ?_ | fail)
  refine W_cond (by rfl) (fun hb => ?_) (fun hb => by first | cases hb | (simp at hb))
  repeat' (first | refine w1g ?_ | refine w1l ?_ | refine w1q ?_ | refine w1b ?_ | refine w1p ?_ | ((first | refine w1r ?_ | refine w1k ?_ | refine w1e ?_); (refine sy1 ?_; try exact True.intro)) | refine an2 ?_ | fail)
  refine W_loopM (fun q : Nat × Nat => [(10, iv ((P.length : Int) + 1 + q.1)), (11, iv ((P.length : Int) + 1 + q.2))]) (fun q => setm M k (rI st (insL P V u 0 Q))) (fun q => (q.1 ≤ q.2 ∧ q.2 ≤ V.length) ∧ (q.1 = 0 ∨ lt (V.getD (q.1 - 1) (0 : Int)) u = true) ∧ (q.2 = V.length ∨ lt (V.getD q.2 (0 : Int)) u = false)) (fun q => q.2 - q.1) nx (fun c _ => hfr' _) (0, V.length) ⟨⟨by simp, by simp⟩, .inl rfl, .inl rfl⟩ (by
    simp only [Int.natCast_zero, Int.add_zero]
    rfl) (by rfl) (fun q hq => ?_)
  obtain ⟨c, e⟩ := q
  obtain ⟨⟨h1, h2⟩, h3, h4⟩ := hq
  simp only at h1 h2 h3 h4
  simp (maxSteps := 400000) (disch := omega) only [push_cast, ↓reduceIte, reduceCtorEq, Nat.reduceAdd, Nat.reduceSub, Nat.reduceEqDiff, Nat.reduceLeDiff, Nat.reduceLT, Nat.reduceBEq, Nat.reduceDiv, Nat.reduceMod, Nat.reducePow, Nat.reduceMul, Int.reduceToNat, Int.reduceLT, Int.reduceLE, keepL]
  repeat' (first | refine w1g ?_ | refine w1l ?_ | refine w1q ?_ | refine w1b ?_ | refine w1p ?_ | ((first | refine w1r ?_ | refine w1k ?_ | refine w1e ?_); simp (maxSteps := 400000) (disch := omega) only [push_cast, ↓reduceIte, reduceCtorEq, Nat.reduceAdd, Nat.reduceSub, Nat.reduceEqDiff, Nat.reduceLeDiff, Nat.reduceLT, Nat.reduceBEq, Nat.reduceDiv, Nat.reduceMod, Nat.reducePow, Nat.reduceMul, Int.reduceToNat, Int.reduceLT, Int.reduceLE, keepL]) | refine an2 ?_ | fail)
  refine W_condD (by rfl) (fun h5 => ?_) (fun h5 => ?_)
  · have hlt : c < e := by omega
    obtain ⟨h, hh⟩ : ∃ h, h = (c + e) / 2 := ⟨_, rfl⟩
    have w1 : IntKind.u64.wrap ((P.length : Int) + 1 + c + (P.length + 1 + e)) = P.length + 1 + c + (P.length + 1 + e) := wrapU ⟨by omega, by omega⟩
    have w2 : IntKind.i64.wrap (((P.length : Int) + 1 + c + (P.length + 1 + e)) / 2) = P.length + 1 + h := by rw [wrap64 ⟨by omega, by omega⟩]; omega
    have et : ((P.length : Int) + 1 + h).toNat = P.length + 1 + h := by omega
    have hv := hgV h (by omega)
    have cg := hg (V.getD h (0 : Int)) u (getD_ok ok0 okV _) oku
    generalize hx : V.getD h (0 : Int) = x at *
    repeat' (first | refine w1g ?_ | refine w1l ?_ | refine w1q ?_ | refine w1b ?_ | refine w1p ?_ | ((first | refine w1r ?_ | refine w1k ?_ | refine w1e ?_ | refine CallC.go _ (fun _ => ⟨trivial, cg⟩) rfl ?_); simp (maxSteps := 400000) (disch := omega) only [push_cast, ↓reduceIte, reduceCtorEq, Nat.reduceAdd, Nat.reduceSub, Nat.reduceEqDiff, Nat.reduceLeDiff, Nat.reduceLT, Nat.reduceBEq, Nat.reduceDiv, Nat.reduceMod, Nat.reducePow, Nat.reduceMul, Int.reduceToNat, Int.reduceLT, Int.reduceLE, keepL, w1, w2, shr1, hll0, hat0, hpn, et, hv, hfz, beq_self_eq_true]) | refine an2 ?_ | fail)
    refine W_cond (by rfl) (fun hb2 => ?_) (fun hb2 => ?_)
    · have hl : lt x u = true := by rw [hcv]; exact hb2
      repeat' (first | refine w1g ?_ | refine w1l ?_ | refine w1q ?_ | refine w1b ?_ | refine w1p ?_ | ((first | refine w1r ?_ | refine w1k ?_ | refine w1e ?_); simp (maxSteps := 400000) (disch := omega) only [push_cast, ↓reduceIte, reduceCtorEq, Nat.reduceAdd, Nat.reduceSub, Nat.reduceEqDiff, Nat.reduceLeDiff, Nat.reduceLT, Nat.reduceBEq, Nat.reduceDiv, Nat.reduceMod, Nat.reducePow, Nat.reduceMul, Int.reduceToNat, Int.reduceLT, Int.reduceLE, keepL]) | refine an2 ?_ | fail)
      refine ⟨(h + 1, e), ⟨⟨by dsimp only; omega, h2⟩, .inr (by rw [Nat.add_sub_cancel, hx]; exact hl), h4⟩, by dsimp only; omega, ?_⟩
      rw [show (P.length : Int) + 1 + ((h + 1 : Nat) : Int) = P.length + 1 + h + 1 by omega]
    · have hl : lt x u = false := by rw [hcv]; exact hb2
      repeat' (first | refine w1g ?_ | refine w1l ?_ | refine w1q ?_ | refine w1b ?_ | refine w1p ?_ | ((first | refine w1r ?_ | refine w1k ?_ | refine w1e ?_); simp (maxSteps := 400000) (disch := omega) only [push_cast, ↓reduceIte, reduceCtorEq, Nat.reduceAdd, Nat.reduceSub, Nat.reduceEqDiff, Nat.reduceLeDiff, Nat.reduceLT, Nat.reduceBEq, Nat.reduceDiv, Nat.reduceMod, Nat.reducePow, Nat.reduceMul, Int.reduceToNat, Int.reduceLT, Int.reduceLE, keepL]) | refine an2 ?_ | fail)
      exact ⟨(c, h), ⟨⟨by dsimp only; omega, by dsimp only; omega⟩, h3, .inr (by rw [hx]; exact hl)⟩, by dsimp only; omega, rfl⟩
  · obtain rfl : c = e := by omega
    have hm := one_at hw sV (0 : Int) u h2 h3 h4
    have hfin : insL P V u c Q = P ++ (mrg lt [u] V ++ Q) := by
      unfold insL
      rw [hm]; simp
    repeat' (first | refine w1g ?_ | refine w1l ?_ | refine w1q ?_ | refine w1b ?_ | refine w1p ?_ | ((first | refine w1r ?_ | refine w1k ?_ | refine w1e ?_); simp (maxSteps := 400000) (disch := omega) only [push_cast, ↓reduceIte, reduceCtorEq, Nat.reduceAdd, Nat.reduceSub, Nat.reduceEqDiff, Nat.reduceLeDiff, Nat.reduceLT, Nat.reduceBEq, Nat.reduceDiv, Nat.reduceMod, Nat.reducePow, Nat.reduceMul, Int.reduceToNat, Int.reduceLT, Int.reduceLE, keepL]) | refine an2 ?_ | fail)
    refine W_loopM (fun i : Nat => [(13, iv ((P.length : Int) + i))]) (fun i => setm M k (rI st (insL P V u i Q))) (fun i => i ≤ c) (fun i => c - i) nx (fun c _ => hfr' _) 0 (by omega) (by
      simp only [Int.natCast_zero, Int.add_zero]
      rfl) (by rfl) (fun i hi => ?_)
    have hll := insL_len (P := P) (Q := Q) (v := u) (show i ≤ V.length by omega)
    simp (maxSteps := 400000) (disch := omega) only [push_cast, ↓reduceIte, reduceCtorEq, Nat.reduceAdd, Nat.reduceSub, Nat.reduceEqDiff, Nat.reduceLeDiff, Nat.reduceLT, Nat.reduceBEq, Nat.reduceDiv, Nat.reduceMod, Nat.reducePow, Nat.reduceMul, Int.reduceToNat, Int.reduceLT, Int.reduceLE, keepL]
    repeat' (first | refine w1g ?_ | refine w1l ?_ | refine w1q ?_ | refine w1b ?_ | refine w1p ?_ | ((first | refine w1r ?_ | refine w1k ?_ | refine w1e ?_); simp (maxSteps := 400000) (disch := omega) only [push_cast, ↓reduceIte, reduceCtorEq, Nat.reduceAdd, Nat.reduceSub, Nat.reduceEqDiff, Nat.reduceLeDiff, Nat.reduceLT, Nat.reduceBEq, Nat.reduceDiv, Nat.reduceMod, Nat.reducePow, Nat.reduceMul, Int.reduceToNat, Int.reduceLT, Int.reduceLE, keepL]) | refine an2 ?_ | fail)
    refine W_condD (by rfl) (fun h6 => ?_) (fun h6 => ?_)
    · have hic : i < c := by omega
      obtain ⟨q1, q2⟩ := insL_up (P := P) (Q := Q) (v := u) (0 : Int) (show i < V.length by omega)
      have hat := insL_at (P := P) (Q := Q) (v := u) (0 : Int) (show i ≤ V.length by omega)
      have ea : ((P.length : Int) + i).toNat = P.length + i := by omega
      have eb : ((P.length : Int) + i + 1).toNat = P.length + i + 1 := by omega
      generalize V.getD i (0 : Int) = y at *
      repeat' (first | refine w1g ?_ | refine w1l ?_ | refine w1q ?_ | refine w1b ?_ | refine w1p ?_ | ((first | refine w1r ?_ | refine w1k ?_ | refine w1e ?_); simp (maxSteps := 400000) (disch := omega) only [push_cast, ↓reduceIte, reduceCtorEq, Nat.reduceAdd, Nat.reduceSub, Nat.reduceEqDiff, Nat.reduceLeDiff, Nat.reduceLT, Nat.reduceBEq, Nat.reduceDiv, Nat.reduceMod, Nat.reducePow, Nat.reduceMul, Int.reduceToNat, Int.reduceLT, Int.reduceLE, keepL, hll, ea, eb, hat, q1, beq_self_eq_true]) | refine an2 ?_ | fail)
      refine ⟨rfl, ⟨by dsimp only; omega, hasM_set _ _ _⟩, by omega, y, rfl, rfl, ?_⟩
      simp (maxSteps := 400000) (disch := omega) only [push_cast, ↓reduceIte, reduceCtorEq, Nat.reduceAdd, Nat.reduceSub, Nat.reduceEqDiff, Nat.reduceLeDiff, Nat.reduceLT, Nat.reduceBEq, Nat.reduceDiv, Nat.reduceMod, Nat.reducePow, Nat.reduceMul, Int.reduceToNat, Int.reduceLT, Int.reduceLE, hll, ea, eb, List.length_set]
      repeat' (first | refine w1g ?_ | refine w1l ?_ | refine w1q ?_ | refine w1b ?_ | refine w1p ?_ | ((first | refine w1r ?_ | refine w1k ?_ | refine w1e ?_); simp (maxSteps := 400000) (disch := omega) only [push_cast, ↓reduceIte, reduceCtorEq, Nat.reduceAdd, Nat.reduceSub, Nat.reduceEqDiff, Nat.reduceLeDiff, Nat.reduceLT, Nat.reduceBEq, Nat.reduceDiv, Nat.reduceMod, Nat.reducePow, Nat.reduceMul, Int.reduceToNat, Int.reduceLT, Int.reduceLE, keepL, hll, ea, eb, List.length_set, beq_self_eq_true]) | refine an2 ?_ | fail)
      refine ⟨rfl, ⟨by dsimp only; omega, hasM_set _ _ _⟩, by omega, u, rfl, rfl, ?_⟩
      rw [q2]
      (refine sy1 ?_; try exact True.intro)
      repeat' (first | refine w1g ?_ | refine w1l ?_ | refine w1q ?_ | refine w1b ?_ | refine w1p ?_ | ((first | refine w1r ?_ | refine w1k ?_ | refine w1e ?_); simp (maxSteps := 400000) (disch := omega) only [push_cast, ↓reduceIte, reduceCtorEq, Nat.reduceAdd, Nat.reduceSub, Nat.reduceEqDiff, Nat.reduceLeDiff, Nat.reduceLT, Nat.reduceBEq, Nat.reduceDiv, Nat.reduceMod, Nat.reducePow, Nat.reduceMul, Int.reduceToNat, Int.reduceLT, Int.reduceLE, keepL]) | refine an2 ?_ | fail)
      refine ⟨i + 1, by omega, by omega, ?_, rfl⟩
      rw [show (P.length : Int) + ((i + 1 : Nat) : Int) = P.length + i + 1 by omega]
    · obtain rfl : i = c := by omega
      rw [hfin]
      repeat' (first | refine w1g ?_ | refine w1l ?_ | refine w1q ?_ | refine w1b ?_ | refine w1p ?_ | ((first | refine w1r ?_ | refine w1k ?_ | refine w1e ?_); simp (maxSteps := 400000) (disch := omega) only [push_cast, ↓reduceIte, reduceCtorEq, Nat.reduceAdd, Nat.reduceSub, Nat.reduceEqDiff, Nat.reduceLeDiff, Nat.reduceLT, Nat.reduceBEq, Nat.reduceDiv, Nat.reduceMod, Nat.reducePow, Nat.reduceMul, Int.reduceToNat, Int.reduceLT, Int.reduceLE, keepL]) | refine an2 ?_ | fail)
      exact W_ret ⟨.inr rfl, rfl⟩
theorem w119b {M : List (Nat × Blk)} {k st nx : Nat} {gc : Nat} {ca : List AV} {lt : Int → Int → Bool} {cv : Int → Int → Int} (hw : SW lt) (hfz : frzAll ca = true) (hcv : ∀ x y, lt x y = decide (cv x y < 0))
    {ok : Int → Prop} (ok0 : ok 0) (hg : ∀ x y, ok x → ok y → Sy.Fn Try.prog gc (iv x :: iv y :: ca) (iv (cv x y))) (P U Q : List Int) (v : Int) (okv : ok v) (okU : ∀ x ∈ U, ok x) (hU0 : 1 < U.length) (sU : SrtL lt U) (hlen : P.length + 1 + U.length + Q.length ≤ 1000000) (hk : k < nx) (hfr : ∀ j, nx ≤ j → lm M j = none) :
    W Try.prog 220 Xn138_0 ⟨initT 0 [.row k st, iv P.length, iv ((P.length : Int) + U.length), iv ((P.length : Int) + U.length + 1), .clo gc [] ca], setm M k (rI st (insL P U v U.length Q)), nx⟩
      (fun e s' => (e = .n ∨ e = .r) ∧ s'.mem = setm M k (rI st (P ++ (mrg lt U [v] ++ Q)))) := by
  have hfr' : ∀ b : Blk, ∀ j, nx ≤ j → lm (setm M k b) j = none := fun b j hj => by rw [lm_set_other _ _ (by omega)]; exact hfr j hj
  have e1 : (P.length : Int) + U.length - P.length = U.length := by omega
  have e2 : (P.length : Int) + U.length + 1 - (P.length + U.length) = 1 := by omega
  have hll0 := insL_len (P := P) (Q := Q) (v := v) (show U.length ≤ U.length by omega)
  have hat0 := insL_at (P := P) (Q := Q) (v := v) (0 : Int) (show U.length ≤ U.length by omega)
  have hpn : ((P.length : Int) + U.length).toNat = P.length + U.length := by omega
  have hgU : ∀ c, c < U.length → (insL P U v U.length Q).getD (P.length + c) (0 : Int) = U.getD c (0 : Int) := fun c hc => by
    have : insL P U v U.length Q = P ++ (U ++ ([v] ++ Q)) := by simp [insL]
    rw [this]
    exact get_U (0 : Int) hc
  simp (maxSteps := 400000) (disch := omega) only [push_cast, ↓reduceIte, reduceCtorEq, Nat.reduceAdd, Nat.reduceSub, Nat.reduceEqDiff, Nat.reduceLeDiff, Nat.reduceLT, Nat.reduceBEq, Nat.reduceDiv, Nat.reduceMod, Nat.reducePow, Nat.reduceMul, Int.reduceToNat, Int.reduceLT, Int.reduceLE, initT]
  repeat' (first | refine w1g ?_ | refine w1l ?_ | refine w1q ?_ | refine w1b ?_ | refine w1p ?_ | ((first | refine w1r ?_ | refine w1k ?_ | refine w1e ?_); simp (maxSteps := 400000) (disch := omega) only [push_cast, ↓reduceIte, reduceCtorEq, Nat.reduceAdd, Nat.reduceSub, Nat.reduceEqDiff, Nat.reduceLeDiff, Nat.reduceLT, Nat.reduceBEq, Nat.reduceDiv, Nat.reduceMod, Nat.reducePow, Nat.reduceMul, Int.reduceToNat, Int.reduceLT, Int.reduceLE, e1]) | refine an2 ?_ | fail)
  refine W_cond (by rfl) (fun hb => by simp only [beq_iff_eq] at hb; omega) (fun hb => ?_)
  repeat' (first | refine w1g ?_ | refine w1l ?_ | refine w1q ?_ | refine w1b ?_ | refine w1p ?_ | ((first | refine w1r ?_ | refine w1k ?_ | refine w1e ?_); simp (maxSteps := 400000) (disch := omega) only [push_cast, ↓reduceIte, reduceCtorEq, Nat.reduceAdd, Nat.reduceSub, Nat.reduceEqDiff, Nat.reduceLeDiff, Nat.reduceLT, Nat.reduceBEq, Nat.reduceDiv, Nat.reduceMod, Nat.reducePow, Nat.reduceMul, Int.reduceToNat, Int.reduceLT, Int.reduceLE, e2]) | refine an2 ?_ | fail)
  refine W_cond (by rfl) (fun hb => ?_) (fun hb => by first | cases hb | (simp at hb))
  repeat' (first | refine w1g ?_ | refine w1l ?_ | refine w1q ?_ | refine w1b ?_ | refine w1p ?_ | ((first | refine w1r ?_ | refine w1k ?_ | refine w1e ?_); (refine sy1 ?_; try exact True.intro)) | refine an2 ?_ | fail)
  refine W_loopM (fun q : Nat × Nat => [(14, iv ((P.length : Int) + q.1)), (15, iv ((P.length : Int) + q.2))]) (fun q => setm M k (rI st (insL P U v U.length Q))) (fun q => (q.1 ≤ q.2 ∧ q.2 ≤ U.length) ∧ (q.1 = 0 ∨ lt v (U.getD (q.1 - 1) (0 : Int)) = false) ∧ (q.2 = U.length ∨ lt v (U.getD q.2 (0 : Int)) = true)) (fun q => q.2 - q.1) nx (fun c _ => hfr' _) (0, U.length) ⟨⟨by simp, by simp⟩, .inl rfl, .inl rfl⟩ (by
    simp only [Int.natCast_zero, Int.add_zero]
    rfl) (by rfl) (fun q hq => ?_)
  obtain ⟨c, e⟩ := q
  obtain ⟨⟨h1, h2⟩, h3, h4⟩ := hq
  simp only at h1 h2 h3 h4
  simp (maxSteps := 400000) (disch := omega) only [push_cast, ↓reduceIte, reduceCtorEq, Nat.reduceAdd, Nat.reduceSub, Nat.reduceEqDiff, Nat.reduceLeDiff, Nat.reduceLT, Nat.reduceBEq, Nat.reduceDiv, Nat.reduceMod, Nat.reducePow, Nat.reduceMul, Int.reduceToNat, Int.reduceLT, Int.reduceLE, keepL]
  repeat' (first | refine w1g ?_ | refine w1l ?_ | refine w1q ?_ | refine w1b ?_ | refine w1p ?_ | ((first | refine w1r ?_ | refine w1k ?_ | refine w1e ?_); simp (maxSteps := 400000) (disch := omega) only [push_cast, ↓reduceIte, reduceCtorEq, Nat.reduceAdd, Nat.reduceSub, Nat.reduceEqDiff, Nat.reduceLeDiff, Nat.reduceLT, Nat.reduceBEq, Nat.reduceDiv, Nat.reduceMod, Nat.reducePow, Nat.reduceMul, Int.reduceToNat, Int.reduceLT, Int.reduceLE, keepL]) | refine an2 ?_ | fail)
  refine W_condD (by rfl) (fun h5 => ?_) (fun h5 => ?_)
  · have hlt : c < e := by omega
    obtain ⟨h, hh⟩ : ∃ h, h = (c + e) / 2 := ⟨_, rfl⟩
    have w1 : IntKind.u64.wrap ((P.length : Int) + c + (P.length + e)) = P.length + c + (P.length + e) := wrapU ⟨by omega, by omega⟩
    have w2 : IntKind.i64.wrap (((P.length : Int) + c + (P.length + e)) / 2) = P.length + h := by rw [wrap64 ⟨by omega, by omega⟩]; omega
    have et : ((P.length : Int) + h).toNat = P.length + h := by omega
    have hv := hgU h (by omega)
    have cg := hg v (U.getD h (0 : Int)) okv (getD_ok ok0 okU _)
    generalize hx : U.getD h (0 : Int) = x at *
    repeat' (first | refine w1g ?_ | refine w1l ?_ | refine w1q ?_ | refine w1b ?_ | refine w1p ?_ | ((first | refine w1r ?_ | refine w1k ?_ | refine w1e ?_ | refine CallC.go _ (fun _ => ⟨trivial, cg⟩) rfl ?_); simp (maxSteps := 400000) (disch := omega) only [push_cast, ↓reduceIte, reduceCtorEq, Nat.reduceAdd, Nat.reduceSub, Nat.reduceEqDiff, Nat.reduceLeDiff, Nat.reduceLT, Nat.reduceBEq, Nat.reduceDiv, Nat.reduceMod, Nat.reducePow, Nat.reduceMul, Int.reduceToNat, Int.reduceLT, Int.reduceLE, keepL, w1, w2, shr1, hll0, hat0, hpn, et, hv, hfz, beq_self_eq_true]) | refine an2 ?_ | fail)
    refine W_cond (by rfl) (fun hb2 => ?_) (fun hb2 => ?_)
    · have hl : lt v x = false := by rw [hcv]; simpa using hb2
      repeat' (first | refine w1g ?_ | refine w1l ?_ | refine w1q ?_ | refine w1b ?_ | refine w1p ?_ | ((first | refine w1r ?_ | refine w1k ?_ | refine w1e ?_); simp (maxSteps := 400000) (disch := omega) only [push_cast, ↓reduceIte, reduceCtorEq, Nat.reduceAdd, Nat.reduceSub, Nat.reduceEqDiff, Nat.reduceLeDiff, Nat.reduceLT, Nat.reduceBEq, Nat.reduceDiv, Nat.reduceMod, Nat.reducePow, Nat.reduceMul, Int.reduceToNat, Int.reduceLT, Int.reduceLE, keepL]) | refine an2 ?_ | fail)
      refine ⟨(h + 1, e), ⟨⟨by dsimp only; omega, h2⟩, .inr (by rw [Nat.add_sub_cancel, hx]; exact hl), h4⟩, by dsimp only; omega, ?_⟩
      rw [show (P.length : Int) + ((h + 1 : Nat) : Int) = P.length + h + 1 by omega]
    · have hl : lt v x = true := by rw [hcv]; simpa using hb2
      repeat' (first | refine w1g ?_ | refine w1l ?_ | refine w1q ?_ | refine w1b ?_ | refine w1p ?_ | ((first | refine w1r ?_ | refine w1k ?_ | refine w1e ?_); simp (maxSteps := 400000) (disch := omega) only [push_cast, ↓reduceIte, reduceCtorEq, Nat.reduceAdd, Nat.reduceSub, Nat.reduceEqDiff, Nat.reduceLeDiff, Nat.reduceLT, Nat.reduceBEq, Nat.reduceDiv, Nat.reduceMod, Nat.reducePow, Nat.reduceMul, Int.reduceToNat, Int.reduceLT, Int.reduceLE, keepL]) | refine an2 ?_ | fail)
      exact ⟨(c, h), ⟨⟨by dsimp only; omega, by dsimp only; omega⟩, h3, .inr (by rw [hx]; exact hl)⟩, by dsimp only; omega, rfl⟩
  · obtain rfl : c = e := by omega
    have hm := at_one hw sU (0 : Int) v h2 h3 h4
    have hfin : insL P U v c Q = P ++ (mrg lt U [v] ++ Q) := by
      unfold insL
      rw [hm]; simp
    repeat' (first | refine w1g ?_ | refine w1l ?_ | refine w1q ?_ | refine w1b ?_ | refine w1p ?_ | ((first | refine w1r ?_ | refine w1k ?_ | refine w1e ?_); simp (maxSteps := 400000) (disch := omega) only [push_cast, ↓reduceIte, reduceCtorEq, Nat.reduceAdd, Nat.reduceSub, Nat.reduceEqDiff, Nat.reduceLeDiff, Nat.reduceLT, Nat.reduceBEq, Nat.reduceDiv, Nat.reduceMod, Nat.reducePow, Nat.reduceMul, Int.reduceToNat, Int.reduceLT, Int.reduceLE, keepL]) | refine an2 ?_ | fail)
    refine W_loopM (fun i : Nat => [(17, iv ((P.length : Int) + i))]) (fun i => setm M k (rI st (insL P U v i Q))) (fun i => c ≤ i ∧ i ≤ U.length) (fun i => i - c) nx (fun c _ => hfr' _) U.length ⟨h2, Nat.le_refl _⟩ (by rfl) (by rfl) (fun i hi => ?_)
    obtain ⟨hi1, hi2⟩ := hi
    simp (maxSteps := 400000) (disch := omega) only [push_cast, ↓reduceIte, reduceCtorEq, Nat.reduceAdd, Nat.reduceSub, Nat.reduceEqDiff, Nat.reduceLeDiff, Nat.reduceLT, Nat.reduceBEq, Nat.reduceDiv, Nat.reduceMod, Nat.reducePow, Nat.reduceMul, Int.reduceToNat, Int.reduceLT, Int.reduceLE, keepL]
    repeat' (first | refine w1g ?_ | refine w1l ?_ | refine w1q ?_ | refine w1b ?_ | refine w1p ?_ | ((first | refine w1r ?_ | refine w1k ?_ | refine w1e ?_); simp (maxSteps := 400000) (disch := omega) only [push_cast, ↓reduceIte, reduceCtorEq, Nat.reduceAdd, Nat.reduceSub, Nat.reduceEqDiff, Nat.reduceLeDiff, Nat.reduceLT, Nat.reduceBEq, Nat.reduceDiv, Nat.reduceMod, Nat.reducePow, Nat.reduceMul, Int.reduceToNat, Int.reduceLT, Int.reduceLE, keepL]) | refine an2 ?_ | fail)
    refine W_condD (by rfl) (fun h6 => ?_) (fun h6 => ?_)
    · obtain ⟨i', rfl⟩ : ∃ i', i = i' + 1 := ⟨i - 1, by omega⟩
      have hll := insL_len (P := P) (Q := Q) (v := v) hi2
      obtain ⟨q1, q2⟩ := insL_dn (P := P) (Q := Q) (v := v) (0 : Int) (show i' < U.length by omega)
      have hat := insL_at (P := P) (Q := Q) (v := v) (0 : Int) hi2
      have ea : ((P.length : Int) + ((i' : Int) + 1)).toNat = P.length + (i' + 1) := by omega
      have eb : ((P.length : Int) + ((i' : Int) + 1) - 1).toNat = P.length + i' := by omega
      generalize U.getD i' (0 : Int) = y at *
      repeat' (first | refine w1g ?_ | refine w1l ?_ | refine w1q ?_ | refine w1b ?_ | refine w1p ?_ | ((first | refine w1r ?_ | refine w1k ?_ | refine w1e ?_); simp (maxSteps := 400000) (disch := omega) only [push_cast, ↓reduceIte, reduceCtorEq, Nat.reduceAdd, Nat.reduceSub, Nat.reduceEqDiff, Nat.reduceLeDiff, Nat.reduceLT, Nat.reduceBEq, Nat.reduceDiv, Nat.reduceMod, Nat.reducePow, Nat.reduceMul, Int.reduceToNat, Int.reduceLT, Int.reduceLE, keepL, hll, ea, eb, hat, q1, beq_self_eq_true]) | refine an2 ?_ | fail)
      refine ⟨rfl, ⟨by dsimp only; omega, hasM_set _ _ _⟩, by omega, y, rfl, rfl, ?_⟩
      simp (maxSteps := 400000) (disch := omega) only [push_cast, ↓reduceIte, reduceCtorEq, Nat.reduceAdd, Nat.reduceSub, Nat.reduceEqDiff, Nat.reduceLeDiff, Nat.reduceLT, Nat.reduceBEq, Nat.reduceDiv, Nat.reduceMod, Nat.reducePow, Nat.reduceMul, Int.reduceToNat, Int.reduceLT, Int.reduceLE, hll, ea, eb, List.length_set]
      repeat' (first | refine w1g ?_ | refine w1l ?_ | refine w1q ?_ | refine w1b ?_ | refine w1p ?_ | ((first | refine w1r ?_ | refine w1k ?_ | refine w1e ?_); simp (maxSteps := 400000) (disch := omega) only [push_cast, ↓reduceIte, reduceCtorEq, Nat.reduceAdd, Nat.reduceSub, Nat.reduceEqDiff, Nat.reduceLeDiff, Nat.reduceLT, Nat.reduceBEq, Nat.reduceDiv, Nat.reduceMod, Nat.reducePow, Nat.reduceMul, Int.reduceToNat, Int.reduceLT, Int.reduceLE, keepL, hll, ea, eb, List.length_set, beq_self_eq_true]) | refine an2 ?_ | fail)
      refine ⟨rfl, ⟨by dsimp only; omega, hasM_set _ _ _⟩, by omega, v, rfl, rfl, ?_⟩
      rw [q2]
      (refine sy1 ?_; try exact True.intro)
      repeat' (first | refine w1g ?_ | refine w1l ?_ | refine w1q ?_ | refine w1b ?_ | refine w1p ?_ | ((first | refine w1r ?_ | refine w1k ?_ | refine w1e ?_); simp (maxSteps := 400000) (disch := omega) only [push_cast, ↓reduceIte, reduceCtorEq, Nat.reduceAdd, Nat.reduceSub, Nat.reduceEqDiff, Nat.reduceLeDiff, Nat.reduceLT, Nat.reduceBEq, Nat.reduceDiv, Nat.reduceMod, Nat.reducePow, Nat.reduceMul, Int.reduceToNat, Int.reduceLT, Int.reduceLE, keepL]) | refine an2 ?_ | fail)
      refine ⟨i', ⟨by omega, by omega⟩, by omega, ?_, rfl⟩
      rw [show (P.length : Int) + ((i' : Int) + 1) - 1 = P.length + i' by omega]
    · obtain rfl : i = c := by omega
      rw [hfin]
      repeat' (first | refine w1g ?_ | refine w1l ?_ | refine w1q ?_ | refine w1b ?_ | refine w1p ?_ | ((first | refine w1r ?_ | refine w1k ?_ | refine w1e ?_); simp (maxSteps := 400000) (disch := omega) only [push_cast, ↓reduceIte, reduceCtorEq, Nat.reduceAdd, Nat.reduceSub, Nat.reduceEqDiff, Nat.reduceLeDiff, Nat.reduceLT, Nat.reduceBEq, Nat.reduceDiv, Nat.reduceMod, Nat.reducePow, Nat.reduceMul, Int.reduceToNat, Int.reduceLT, Int.reduceLE, keepL]) | refine an2 ?_ | fail)
      exact W_ret ⟨.inr rfl, rfl⟩
end Go.Proofs.Ytoiohkjomcbadaa

namespace Go.Proofs.Ytoiohkjomcbadaa
open Go Sy
set_option maxRecDepth 100000
set_option maxHeartbeats 4000000
set_option linter.unusedVariables false
set_option linter.unusedSimpArgs false
def SymW (ok : Int → Prop) (gc : Nat) (ca : List AV) (lt : Int → Int → Bool) (n : Nat) : Prop :=
  ∀ (P U V Q : List Int), (∀ x ∈ U, ok x) → (∀ x ∈ V, ok x) → U.length + V.length ≤ n → 0 < U.length → 0 < V.length → SrtL lt U → SrtL lt V → P.length + U.length + V.length + Q.length ≤ 1000000 → ∀ (M : List (Nat × Blk)) (k st nx : Nat), k < nx → (∀ j, nx ≤ j → lm M j = none) →
    W Try.prog 220 Xn138_0 ⟨initT 0 [.row k st, iv P.length, iv ((P.length : Int) + U.length), iv ((P.length : Int) + U.length + V.length), .clo gc [] ca], setm M k (rI st (P ++ (U ++ (V ++ Q)))), nx⟩
      (fun e s' => (e = .n ∨ e = .r) ∧ s'.mem = setm M k (rI st (P ++ (mrg lt U V ++ Q))))
theorem i119 {gc : Nat} {ca : List AV} {lt : Int → Int → Bool} {n : Nat} {ok : Int → Prop} (ih : SymW ok gc ca lt n) {s : S} {k st : Nat} {L L' : List Int} (P U V Q : List Int) (okU : ∀ x ∈ U, ok x) (okV : ∀ x ∈ V, ok x) {a b c : Int} {K : AV → S → Prop} (hk : lm s.mem k = some (rI st L)) (hfr : ∀ j, s.nx ≤ j → lm s.mem j = none) (hlen : L.length ≤ 1000000)
    (hn : U.length + V.length ≤ n) (hU : 0 < U.length) (hV : 0 < V.length) (sU : SrtL lt U) (sV : SrtL lt V) (hL : L = P ++ (U ++ (V ++ Q))) (hL' : P ++ (mrg lt U V ++ Q) = L') (ha : a = P.length) (hb : b = P.length + U.length) (hc : c = P.length + U.length + V.length) (hK : K (.tup []) ⟨s.tm, setm s.mem k (rI st L'), s.nx⟩) :
    Inl Try.prog 138 [.row k st, iv a, iv b, iv c, .clo gc [] ca] s K := by
  subst ha hb hc hL'
  subst hL
  simp only [List.length_append] at hlen
  exact Inl_row mixed Xt138 rfl hk hfr (fun M nx h1 h2 => ih P U V Q okU okV hn hU hV sU sV (by omega) M k st nx h1 h2) hK
theorem w119 {gc : Nat} {ca : List AV} {lt : Int → Int → Bool} {cv : Int → Int → Int} (hw : SW lt) (hfz : frzAll ca = true) (hcv : ∀ x y, lt x y = decide (cv x y < 0))
    {ok : Int → Prop} (ok0 : ok 0) (hg : ∀ x y, ok x → ok y → Sy.Fn Try.prog gc (iv x :: iv y :: ca) (iv (cv x y))) : ∀ n, SymW ok gc ca lt n
  | 0 => fun P U V Q _ _ h1 h2 h3 => by omega
  | n + 1 => fun P U V Q okU okV hn hU hV sU sV hlen M k st nx hk hfr => by
    have ih := w119 hw hfz hcv ok0 hg n
    by_cases u1 : U.length = 1
    · obtain ⟨u, rfl⟩ := List.length_eq_one_iff.1 u1
      have := w119a hw hfz hcv ok0 hg P V Q u (okU u (by simp)) okV hV sV (by rw [u1] at hlen; omega) hk hfr (st := st)
      have e : insL P V u 0 Q = P ++ ([u] ++ (V ++ Q)) := by simp [insL]
      rw [e] at this
      exact this
    by_cases v1 : V.length = 1
    · obtain ⟨v, rfl⟩ := List.length_eq_one_iff.1 v1
      have := w119b hw hfz hcv ok0 hg P U Q v (okV v (by simp)) okU (by omega) sU (by rw [v1] at hlen; omega) hk hfr (st := st)
      have e : insL P U v U.length Q = P ++ (U ++ ([v] ++ Q)) := by simp [insL]
      rw [e] at this
      exact this
    have hfr' : ∀ b : Blk, ∀ j, nx ≤ j → lm (setm M k b) j = none := fun b j hj => by rw [lm_set_other _ _ (by omega)]; exact hfr j hj
    obtain ⟨h, hh⟩ : ∃ h, h = (U.length + V.length) / 2 := ⟨_, rfl⟩
    obtain ⟨a, ha⟩ : ∃ a : Int, a = P.length := ⟨_, rfl⟩
    obtain ⟨m, hm⟩ : ∃ m : Int, m = a + U.length := ⟨_, rfl⟩
    obtain ⟨b, hb⟩ : ∃ b : Int, b = m + V.length := ⟨_, rfl⟩
    obtain ⟨mid, hmid⟩ : ∃ mid : Int, mid = a + h := ⟨_, rfl⟩
    obtain ⟨nn, hnn⟩ : ∃ nn : Int, nn = mid + m := ⟨_, rfl⟩
    obtain ⟨pp, hpp⟩ : ∃ pp : Int, pp = nn - 1 := ⟨_, rfl⟩
    obtain ⟨s0, hs0⟩ : ∃ s0, s0 = h - V.length := ⟨_, rfl⟩
    obtain ⟨r0, hr0⟩ : ∃ r0, r0 = min U.length h := ⟨_, rfl⟩
    have w1 : IntKind.u64.wrap (a + b) = a + b := wrapU ⟨by omega, by omega⟩
    have w2 : IntKind.i64.wrap ((a + b) / 2) = mid := by rw [wrap64 ⟨by omega, by omega⟩]; omega
    have e1 : m - a = U.length := by omega
    have e2 : b - m = V.length := by omega
    have hLl : (P ++ (U ++ (V ++ Q))).length = P.length + U.length + V.length + Q.length := by simp only [List.length_append]; omega
    have gU : ∀ c, c < U.length → (P ++ (U ++ (V ++ Q))).getD (P.length + c) (0 : Int) = U.getD c (0 : Int) := fun c hc => get_U (0 : Int) hc
    have gV : ∀ c, c < V.length → (P ++ (U ++ (V ++ Q))).getD (P.length + U.length + c) (0 : Int) = V.getD c (0 : Int) := fun c hc => get_V (0 : Int) hc
    rw [← ha, ← hm, ← hb]
    generalize hL0 : P ++ (U ++ (V ++ Q)) = L0 at *
    simp (maxSteps := 400000) (disch := omega) only [push_cast, ↓reduceIte, reduceCtorEq, Nat.reduceAdd, Nat.reduceSub, Nat.reduceEqDiff, Nat.reduceLeDiff, Nat.reduceLT, Nat.reduceBEq, Nat.reduceDiv, Nat.reduceMod, Nat.reducePow, Nat.reduceMul, Int.reduceToNat, Int.reduceLT, Int.reduceLE, initT]
    repeat' (first | refine w1g ?_ | refine w1l ?_ | refine w1q ?_ | refine w1b ?_ | refine w1p ?_ | ((first | refine w1r ?_ | refine w1k ?_ | refine w1e ?_); simp (maxSteps := 400000) (disch := omega) only [push_cast, ↓reduceIte, reduceCtorEq, Nat.reduceAdd, Nat.reduceSub, Nat.reduceEqDiff, Nat.reduceLeDiff, Nat.reduceLT, Nat.reduceBEq, Nat.reduceDiv, Nat.reduceMod, Nat.reducePow, Nat.reduceMul, Int.reduceToNat, Int.reduceLT, Int.reduceLE, e1]) | refine an2 ?_ | fail)
    refine W_cond (by rfl) (fun hb1 => by simp only [beq_iff_eq] at hb1; omega) (fun _ => ?_)
    repeat' (first | refine w1g ?_ | refine w1l ?_ | refine w1q ?_ | refine w1b ?_ | refine w1p ?_ | ((first | refine w1r ?_ | refine w1k ?_ | refine w1e ?_); simp (maxSteps := 400000) (disch := omega) only [push_cast, ↓reduceIte, reduceCtorEq, Nat.reduceAdd, Nat.reduceSub, Nat.reduceEqDiff, Nat.reduceLeDiff, Nat.reduceLT, Nat.reduceBEq, Nat.reduceDiv, Nat.reduceMod, Nat.reducePow, Nat.reduceMul, Int.reduceToNat, Int.reduceLT, Int.reduceLE, e2]) | refine an2 ?_ | fail)
    refine W_cond (by rfl) (fun hb1 => by simp only [beq_iff_eq] at hb1; omega) (fun _ => ?_)
    repeat' (first | refine w1g ?_ | refine w1l ?_ | refine w1q ?_ | refine w1b ?_ | refine w1p ?_ | ((first | refine w1r ?_ | refine w1k ?_ | refine w1e ?_); simp (maxSteps := 400000) (disch := omega) only [push_cast, ↓reduceIte, reduceCtorEq, Nat.reduceAdd, Nat.reduceSub, Nat.reduceEqDiff, Nat.reduceLeDiff, Nat.reduceLT, Nat.reduceBEq, Nat.reduceDiv, Nat.reduceMod, Nat.reducePow, Nat.reduceMul, Int.reduceToNat, Int.reduceLT, Int.reduceLE, w1, w2, shr1, ← hnn]) | refine an2 ?_ | fail)
    refine W_meetM [(20, iv (a + s0)), (21, iv (a + r0))] (setm M k (rI st L0)) nx (hfr' _) ?_ ?_
    · refine W_condD (by rfl) (fun h5 => ?_) (fun h5 => ?_)
      · have q1 : nn - b = a + s0 := by omega
        have q2 : mid = a + r0 := by omega
        repeat' (first | refine w1g ?_ | refine w1l ?_ | refine w1q ?_ | refine w1b ?_ | refine w1p ?_ | ((first | refine w1r ?_ | refine w1k ?_ | refine w1e ?_); simp (maxSteps := 400000) (disch := omega) only [push_cast, ↓reduceIte, reduceCtorEq, Nat.reduceAdd, Nat.reduceSub, Nat.reduceEqDiff, Nat.reduceLeDiff, Nat.reduceLT, Nat.reduceBEq, Nat.reduceDiv, Nat.reduceMod, Nat.reducePow, Nat.reduceMul, Int.reduceToNat, Int.reduceLT, Int.reduceLE, keepL, q1]) | refine an2 ?_ | fail)
        rw [q2]
      · have q1 : a = a + s0 := by omega
        have q2 : m = a + r0 := by omega
        repeat' (first | refine w1g ?_ | refine w1l ?_ | refine w1q ?_ | refine w1b ?_ | refine w1p ?_ | ((first | refine w1r ?_ | refine w1k ?_ | refine w1e ?_); simp (maxSteps := 400000) (disch := omega) only [push_cast, ↓reduceIte, reduceCtorEq, Nat.reduceAdd, Nat.reduceSub, Nat.reduceEqDiff, Nat.reduceLeDiff, Nat.reduceLT, Nat.reduceBEq, Nat.reduceDiv, Nat.reduceMod, Nat.reducePow, Nat.reduceMul, Int.reduceToNat, Int.reduceLT, Int.reduceLE, keepL]) | refine an2 ?_ | fail)
        rw [← q1, ← q2]
    simp (maxSteps := 400000) (disch := omega) only [push_cast, ↓reduceIte, reduceCtorEq, Nat.reduceAdd, Nat.reduceSub, Nat.reduceEqDiff, Nat.reduceLeDiff, Nat.reduceLT, Nat.reduceBEq, Nat.reduceDiv, Nat.reduceMod, Nat.reducePow, Nat.reduceMul, Int.reduceToNat, Int.reduceLT, Int.reduceLE, keepL]
    repeat' (first | refine w1g ?_ | refine w1l ?_ | refine w1q ?_ | refine w1b ?_ | refine w1p ?_ | ((first | refine w1r ?_ | refine w1k ?_ | refine w1e ?_); simp (maxSteps := 400000) (disch := omega) only [push_cast, ↓reduceIte, reduceCtorEq, Nat.reduceAdd, Nat.reduceSub, Nat.reduceEqDiff, Nat.reduceLeDiff, Nat.reduceLT, Nat.reduceBEq, Nat.reduceDiv, Nat.reduceMod, Nat.reducePow, Nat.reduceMul, Int.reduceToNat, Int.reduceLT, Int.reduceLE, keepL, ← hpp]) | refine an2 ?_ | fail)
    refine W_loopM (fun q : Nat × Nat => [(20, iv (a + q.1)), (21, iv (a + q.2))]) (fun q => setm M k (rI st L0)) (fun q => (s0 ≤ q.1 ∧ q.1 ≤ q.2 ∧ q.2 ≤ r0) ∧ (q.1 = s0 ∨ lt (V.getD (h - q.1) (0 : Int)) (U.getD (q.1 - 1) (0 : Int)) = false) ∧ (q.2 = r0 ∨ lt (V.getD (h - 1 - q.2) (0 : Int)) (U.getD q.2 (0 : Int)) = true)) (fun q => q.2 - q.1) nx (fun c _ => hfr' _) (s0, r0) ⟨⟨Nat.le_refl _, by dsimp only; omega, Nat.le_refl _⟩, .inl rfl, .inl rfl⟩ (by rfl) (by rfl) (fun q hq => ?_)
    obtain ⟨s, r⟩ := q
    obtain ⟨⟨p1, p2, p3⟩, p4, p5⟩ := hq
    simp only at p1 p2 p3 p4 p5
    simp (maxSteps := 400000) (disch := omega) only [push_cast, ↓reduceIte, reduceCtorEq, Nat.reduceAdd, Nat.reduceSub, Nat.reduceEqDiff, Nat.reduceLeDiff, Nat.reduceLT, Nat.reduceBEq, Nat.reduceDiv, Nat.reduceMod, Nat.reducePow, Nat.reduceMul, Int.reduceToNat, Int.reduceLT, Int.reduceLE, keepL]
    repeat' (first | refine w1g ?_ | refine w1l ?_ | refine w1q ?_ | refine w1b ?_ | refine w1p ?_ | ((first | refine w1r ?_ | refine w1k ?_ | refine w1e ?_); simp (maxSteps := 400000) (disch := omega) only [push_cast, ↓reduceIte, reduceCtorEq, Nat.reduceAdd, Nat.reduceSub, Nat.reduceEqDiff, Nat.reduceLeDiff, Nat.reduceLT, Nat.reduceBEq, Nat.reduceDiv, Nat.reduceMod, Nat.reducePow, Nat.reduceMul, Int.reduceToNat, Int.reduceLT, Int.reduceLE, keepL]) | refine an2 ?_ | fail)
    refine W_condD (by rfl) (fun h5 => ?_) (fun h5 => ?_)
    · have hlt : s < r := by omega
      obtain ⟨c, hc⟩ : ∃ c, c = (s + r) / 2 := ⟨_, rfl⟩
      have w3 : IntKind.u64.wrap (a + s + (a + r)) = a + s + (a + r) := wrapU ⟨by omega, by omega⟩
      have w4 : IntKind.i64.wrap ((a + s + (a + r)) / 2) = a + c := by rw [wrap64 ⟨by omega, by omega⟩]; omega
      have et1 : (a + (c : Int)).toNat = P.length + c := by omega
      have et2 : (pp - (a + (c : Int))).toNat = P.length + U.length + (h - 1 - c) := by omega
      have q1 := gU c (by omega)
      have q2 := gV (h - 1 - c) (by omega)
      have cg := hg (V.getD (h - 1 - c) (0 : Int)) (U.getD c (0 : Int)) (getD_ok ok0 okV _) (getD_ok ok0 okU _)
      generalize hx : U.getD c (0 : Int) = x at *
      generalize hy : V.getD (h - 1 - c) (0 : Int) = y at *
      repeat' (first | refine w1g ?_ | refine w1l ?_ | refine w1q ?_ | refine w1b ?_ | refine w1p ?_ | ((first | refine w1r ?_ | refine w1k ?_ | refine w1e ?_ | refine CallC.go _ (fun _ => ⟨trivial, cg⟩) rfl ?_); simp (maxSteps := 400000) (disch := omega) only [push_cast, ↓reduceIte, reduceCtorEq, Nat.reduceAdd, Nat.reduceSub, Nat.reduceEqDiff, Nat.reduceLeDiff, Nat.reduceLT, Nat.reduceBEq, Nat.reduceDiv, Nat.reduceMod, Nat.reducePow, Nat.reduceMul, Int.reduceToNat, Int.reduceLT, Int.reduceLE, keepL, w3, w4, shr1, hLl, et1, et2, q1, q2, hfz, beq_self_eq_true]) | refine an2 ?_ | fail)
      refine W_cond (by rfl) (fun hb2 => ?_) (fun hb2 => ?_)
      · have hl : lt y x = false := by rw [hcv]; simpa using hb2
        repeat' (first | refine w1g ?_ | refine w1l ?_ | refine w1q ?_ | refine w1b ?_ | refine w1p ?_ | ((first | refine w1r ?_ | refine w1k ?_ | refine w1e ?_); simp (maxSteps := 400000) (disch := omega) only [push_cast, ↓reduceIte, reduceCtorEq, Nat.reduceAdd, Nat.reduceSub, Nat.reduceEqDiff, Nat.reduceLeDiff, Nat.reduceLT, Nat.reduceBEq, Nat.reduceDiv, Nat.reduceMod, Nat.reducePow, Nat.reduceMul, Int.reduceToNat, Int.reduceLT, Int.reduceLE, keepL]) | refine an2 ?_ | fail)
        refine ⟨(c + 1, r), ⟨⟨by dsimp only; omega, by dsimp only; omega, p3⟩, .inr (by rw [Nat.add_sub_cancel, hx, show h - (c + 1) = h - 1 - c by omega, hy]; exact hl), p5⟩, by dsimp only; omega, ?_⟩
        rw [show a + ((c + 1 : Nat) : Int) = a + c + 1 by omega]
      · have hl : lt y x = true := by rw [hcv]; simpa using hb2
        repeat' (first | refine w1g ?_ | refine w1l ?_ | refine w1q ?_ | refine w1b ?_ | refine w1p ?_ | ((first | refine w1r ?_ | refine w1k ?_ | refine w1e ?_); simp (maxSteps := 400000) (disch := omega) only [push_cast, ↓reduceIte, reduceCtorEq, Nat.reduceAdd, Nat.reduceSub, Nat.reduceEqDiff, Nat.reduceLeDiff, Nat.reduceLT, Nat.reduceBEq, Nat.reduceDiv, Nat.reduceMod, Nat.reducePow, Nat.reduceMul, Int.reduceToNat, Int.reduceLT, Int.reduceLE, keepL]) | refine an2 ?_ | fail)
        exact ⟨(s, c), ⟨⟨p1, by dsimp only; omega, by dsimp only; omega⟩, p4, .inr (by rw [hx, hy]; exact hl)⟩, by dsimp only; omega, rfl⟩
    · obtain rfl : s = r := by omega
      obtain ⟨e, he⟩ : ∃ e, e = h - s := ⟨_, rfl⟩
      obtain ⟨E, hE⟩ : ∃ E : Int, E = m + e := ⟨_, rfl⟩
      have e3 : nn - (a + (s : Int)) = E := by omega
      have hsp := sym_split hw sU sV (0 : Int) (s := s) (e := e) (by omega) (by omega) (by
        rcases p4 with p4 | p4
        · omega
        · exact .inr (.inr (by rw [he]; exact p4))) (by
        rcases p5 with p5 | p5
        · omega
        · exact .inr (.inr (by rw [he, show h - s - 1 = h - 1 - s by omega]; exact p5)))
      have t1 : (U.take s).length = s := by rw [List.length_take]; omega
      have t2 : (U.drop s).length = U.length - s := List.length_drop
      have t3 : (V.take e).length = e := by rw [List.length_take]; omega
      have t4 : (V.drop e).length = V.length - e := List.length_drop
      have t5 : U.take s ++ U.drop s = U := List.take_append_drop _ _
      have t6 : V.take e ++ V.drop e = V := List.take_append_drop _ _
      have o1 : ∀ x ∈ U.take s, ok x := fun x hx => okU x (List.mem_of_mem_take hx)
      have o2 : ∀ x ∈ U.drop s, ok x := fun x hx => okU x (List.mem_of_mem_drop hx)
      have o3 : ∀ x ∈ V.take e, ok x := fun x hx => okV x (List.mem_of_mem_take hx)
      have o4 : ∀ x ∈ V.drop e, ok x := fun x hx => okV x (List.mem_of_mem_drop hx)
      have t7 := srt_take sU s
      have t8 := srt_drop sU s
      have t9 := srt_take sV e
      have t10 := srt_drop sV e
      generalize U.take s = U1 at *
      generalize U.drop s = U2 at *
      generalize V.take e = V1 at *
      generalize V.drop e = V2 at *
      have m1 : (mrg lt U1 V1).length = U1.length + V1.length := mrg_len _ _
      repeat' (first | refine w1g ?_ | refine w1l ?_ | refine w1q ?_ | refine w1b ?_ | refine w1p ?_ | ((first | refine w1r ?_ | refine w1k ?_ | refine w1e ?_); simp (maxSteps := 400000) (disch := omega) only [push_cast, ↓reduceIte, reduceCtorEq, Nat.reduceAdd, Nat.reduceSub, Nat.reduceEqDiff, Nat.reduceLeDiff, Nat.reduceLT, Nat.reduceBEq, Nat.reduceDiv, Nat.reduceMod, Nat.reducePow, Nat.reduceMul, Int.reduceToNat, Int.reduceLT, Int.reduceLE, keepL, e3]) | refine an2 ?_ | fail)
      refine W_meetM [] (setm M k (rI st (P ++ (U1 ++ (V1 ++ (U2 ++ (V2 ++ Q))))))) nx (hfr' _) ?_ ?_
      · refine W_cond (by rfl) (fun hb3 => ?_) (fun hb3 => ?_)
        · simp only [Bool.and_eq_true, decide_eq_true_eq] at hb3
          repeat' (first | refine w1g ?_ | refine w1l ?_ | refine w1q ?_ | refine w1b ?_ | refine w1p ?_ | ((first | refine w1r ?_ | refine w1k ?_ | refine w1e ?_); simp (maxSteps := 400000) (disch := omega) only [push_cast, ↓reduceIte, reduceCtorEq, Nat.reduceAdd, Nat.reduceSub, Nat.reduceEqDiff, Nat.reduceLeDiff, Nat.reduceLT, Nat.reduceBEq, Nat.reduceDiv, Nat.reduceMod, Nat.reducePow, Nat.reduceMul, Int.reduceToNat, Int.reduceLT, Int.reduceLE, keepL]) | refine an2 ?_ | fail)
          refine CallC.inl (i125 (P ++ U1) U2 V1 (V2 ++ Q) (lm_set_same _ _ _) (fun j hj => hfr' _ j (by dsimp only at hj; omega)) (by omega) (by omega) (by omega) (by rw [← hL0, ← t5, ← t6]; simp) rfl (by rw [List.length_append]; omega) (by rw [List.length_append]; omega) (by rw [List.length_append]; omega) ?_)
          (refine sy1 ?_; try exact True.intro)
          repeat' (first | refine w1g ?_ | refine w1l ?_ | refine w1q ?_ | refine w1b ?_ | refine w1p ?_ | ((first | refine w1r ?_ | refine w1k ?_ | refine w1e ?_); simp (maxSteps := 400000) (disch := omega) only [push_cast, ↓reduceIte, reduceCtorEq, Nat.reduceAdd, Nat.reduceSub, Nat.reduceEqDiff, Nat.reduceLeDiff, Nat.reduceLT, Nat.reduceBEq, Nat.reduceDiv, Nat.reduceMod, Nat.reducePow, Nat.reduceMul, Int.reduceToNat, Int.reduceLT, Int.reduceLE, keepL, List.append_assoc]) | refine an2 ?_ | fail)
          rw [List.append_assoc]
        · simp only [Bool.and_eq_false_iff, decide_eq_false_iff_not] at hb3
          have hL2 : L0 = P ++ (U1 ++ (V1 ++ (U2 ++ (V2 ++ Q)))) := by
            rw [← hL0, ← t5, ← t6]
            by_cases z : U2.length = 0
            · rw [List.length_eq_zero_iff.1 z]; simp
            · have z2 : V1.length = 0 := by omega
              rw [List.length_eq_zero_iff.1 z2]; simp
          repeat' (first | refine w1g ?_ | refine w1l ?_ | refine w1q ?_ | refine w1b ?_ | refine w1p ?_ | ((first | refine w1r ?_ | refine w1k ?_ | refine w1e ?_); simp (maxSteps := 400000) (disch := omega) only [push_cast, ↓reduceIte, reduceCtorEq, Nat.reduceAdd, Nat.reduceSub, Nat.reduceEqDiff, Nat.reduceLeDiff, Nat.reduceLT, Nat.reduceBEq, Nat.reduceDiv, Nat.reduceMod, Nat.reducePow, Nat.reduceMul, Int.reduceToNat, Int.reduceLT, Int.reduceLE, keepL]) | refine an2 ?_ | fail)
          rw [hL2]
      simp (maxSteps := 400000) (disch := omega) only [push_cast, ↓reduceIte, reduceCtorEq, Nat.reduceAdd, Nat.reduceSub, Nat.reduceEqDiff, Nat.reduceLeDiff, Nat.reduceLT, Nat.reduceBEq, Nat.reduceDiv, Nat.reduceMod, Nat.reducePow, Nat.reduceMul, Int.reduceToNat, Int.reduceLT, Int.reduceLE, keepL]
      repeat' (first | refine w1g ?_ | refine w1l ?_ | refine w1q ?_ | refine w1b ?_ | refine w1p ?_ | ((first | refine w1r ?_ | refine w1k ?_ | refine w1e ?_); simp (maxSteps := 400000) (disch := omega) only [push_cast, ↓reduceIte, reduceCtorEq, Nat.reduceAdd, Nat.reduceSub, Nat.reduceEqDiff, Nat.reduceLeDiff, Nat.reduceLT, Nat.reduceBEq, Nat.reduceDiv, Nat.reduceMod, Nat.reducePow, Nat.reduceMul, Int.reduceToNat, Int.reduceLT, Int.reduceLE, keepL]) | refine an2 ?_ | fail)
      refine W_meetM [] (setm M k (rI st (P ++ (mrg lt U1 V1 ++ (U2 ++ (V2 ++ Q)))))) nx (hfr' _) ?_ ?_
      · refine W_cond (by rfl) (fun hb4 => ?_) (fun hb4 => ?_)
        · simp only [Bool.and_eq_true, decide_eq_true_eq] at hb4
          repeat' (first | refine w1g ?_ | refine w1l ?_ | refine w1q ?_ | refine w1b ?_ | refine w1p ?_ | ((first | refine w1r ?_ | refine w1k ?_ | refine w1e ?_); simp (maxSteps := 400000) (disch := omega) only [push_cast, ↓reduceIte, reduceCtorEq, Nat.reduceAdd, Nat.reduceSub, Nat.reduceEqDiff, Nat.reduceLeDiff, Nat.reduceLT, Nat.reduceBEq, Nat.reduceDiv, Nat.reduceMod, Nat.reducePow, Nat.reduceMul, Int.reduceToNat, Int.reduceLT, Int.reduceLE, keepL]) | refine an2 ?_ | fail)
          refine CallC.inl (i119 ih P U1 V1 (U2 ++ (V2 ++ Q)) o1 o3 (lm_set_same _ _ _) (fun j hj => hfr' _ j (by dsimp only at hj; omega)) (by simp only [List.length_append]; omega) (by omega) (by omega) (by omega) t7 t9 rfl rfl (by omega) (by omega) (by omega) ?_)
          (refine sy1 ?_; try exact True.intro)
          repeat' (first | refine w1g ?_ | refine w1l ?_ | refine w1q ?_ | refine w1b ?_ | refine w1p ?_ | ((first | refine w1r ?_ | refine w1k ?_ | refine w1e ?_); simp (maxSteps := 400000) (disch := omega) only [push_cast, ↓reduceIte, reduceCtorEq, Nat.reduceAdd, Nat.reduceSub, Nat.reduceEqDiff, Nat.reduceLeDiff, Nat.reduceLT, Nat.reduceBEq, Nat.reduceDiv, Nat.reduceMod, Nat.reducePow, Nat.reduceMul, Int.reduceToNat, Int.reduceLT, Int.reduceLE, keepL]) | refine an2 ?_ | fail)
        · simp only [Bool.and_eq_false_iff, decide_eq_false_iff_not] at hb4
          have hL3 : mrg lt U1 V1 = U1 ++ V1 := by
            by_cases z : U1.length = 0
            · rw [List.length_eq_zero_iff.1 z, nil_mrg]; rfl
            · have z2 : V1.length = 0 := by omega
              rw [List.length_eq_zero_iff.1 z2, mrg_nil, List.append_nil]
          repeat' (first | refine w1g ?_ | refine w1l ?_ | refine w1q ?_ | refine w1b ?_ | refine w1p ?_ | ((first | refine w1r ?_ | refine w1k ?_ | refine w1e ?_); simp (maxSteps := 400000) (disch := omega) only [push_cast, ↓reduceIte, reduceCtorEq, Nat.reduceAdd, Nat.reduceSub, Nat.reduceEqDiff, Nat.reduceLeDiff, Nat.reduceLT, Nat.reduceBEq, Nat.reduceDiv, Nat.reduceMod, Nat.reducePow, Nat.reduceMul, Int.reduceToNat, Int.reduceLT, Int.reduceLE, keepL]) | refine an2 ?_ | fail)
          rw [hL3, List.append_assoc]
      simp (maxSteps := 400000) (disch := omega) only [push_cast, ↓reduceIte, reduceCtorEq, Nat.reduceAdd, Nat.reduceSub, Nat.reduceEqDiff, Nat.reduceLeDiff, Nat.reduceLT, Nat.reduceBEq, Nat.reduceDiv, Nat.reduceMod, Nat.reducePow, Nat.reduceMul, Int.reduceToNat, Int.reduceLT, Int.reduceLE, keepL]
      repeat' (first | refine w1g ?_ | refine w1l ?_ | refine w1q ?_ | refine w1b ?_ | refine w1p ?_ | ((first | refine w1r ?_ | refine w1k ?_ | refine w1e ?_); simp (maxSteps := 400000) (disch := omega) only [push_cast, ↓reduceIte, reduceCtorEq, Nat.reduceAdd, Nat.reduceSub, Nat.reduceEqDiff, Nat.reduceLeDiff, Nat.reduceLT, Nat.reduceBEq, Nat.reduceDiv, Nat.reduceMod, Nat.reducePow, Nat.reduceMul, Int.reduceToNat, Int.reduceLT, Int.reduceLE, keepL]) | refine an2 ?_ | fail)
      have hfin : P ++ (mrg lt U V ++ Q) = (P ++ mrg lt U1 V1) ++ (mrg lt U2 V2 ++ Q) := by rw [hsp]; simp
      rw [hfin]
      refine W_cond (by rfl) (fun hb4 => ?_) (fun hb4 => ?_)
      · simp only [Bool.and_eq_true, decide_eq_true_eq] at hb4
        repeat' (first | refine w1g ?_ | refine w1l ?_ | refine w1q ?_ | refine w1b ?_ | refine w1p ?_ | ((first | refine w1r ?_ | refine w1k ?_ | refine w1e ?_); simp (maxSteps := 400000) (disch := omega) only [push_cast, ↓reduceIte, reduceCtorEq, Nat.reduceAdd, Nat.reduceSub, Nat.reduceEqDiff, Nat.reduceLeDiff, Nat.reduceLT, Nat.reduceBEq, Nat.reduceDiv, Nat.reduceMod, Nat.reducePow, Nat.reduceMul, Int.reduceToNat, Int.reduceLT, Int.reduceLE, keepL]) | refine an2 ?_ | fail)
        refine CallC.inl (i119 ih (P ++ mrg lt U1 V1) U2 V2 Q o2 o4 (lm_set_same _ _ _) (fun j hj => hfr' _ j (by dsimp only at hj; omega)) (by simp only [List.length_append]; omega) (by omega) (by omega) (by omega) t8 t10 (by simp) rfl (by rw [List.length_append]; omega) (by rw [List.length_append]; omega) (by rw [List.length_append]; omega) ?_)
        (refine sy1 ?_; try exact True.intro)
        repeat' (first | refine w1g ?_ | refine w1l ?_ | refine w1q ?_ | refine w1b ?_ | refine w1p ?_ | ((first | refine w1r ?_ | refine w1k ?_ | refine w1e ?_); simp (maxSteps := 400000) (disch := omega) only [push_cast, ↓reduceIte, reduceCtorEq, Nat.reduceAdd, Nat.reduceSub, Nat.reduceEqDiff, Nat.reduceLeDiff, Nat.reduceLT, Nat.reduceBEq, Nat.reduceDiv, Nat.reduceMod, Nat.reducePow, Nat.reduceMul, Int.reduceToNat, Int.reduceLT, Int.reduceLE, keepL]) | refine an2 ?_ | fail)
      · simp only [Bool.and_eq_false_iff, decide_eq_false_iff_not] at hb4
        have hL3 : mrg lt U2 V2 = U2 ++ V2 := by
          by_cases z : U2.length = 0
          · rw [List.length_eq_zero_iff.1 z, nil_mrg]; rfl
          · have z2 : V2.length = 0 := by omega
            rw [List.length_eq_zero_iff.1 z2, mrg_nil, List.append_nil]
        rw [hL3]
        repeat' (first | refine w1g ?_ | refine w1l ?_ | refine w1q ?_ | refine w1b ?_ | refine w1p ?_ | ((first | refine w1r ?_ | refine w1k ?_ | refine w1e ?_); simp (maxSteps := 400000) (disch := omega) only [push_cast, ↓reduceIte, reduceCtorEq, Nat.reduceAdd, Nat.reduceSub, Nat.reduceEqDiff, Nat.reduceLeDiff, Nat.reduceLT, Nat.reduceBEq, Nat.reduceDiv, Nat.reduceMod, Nat.reducePow, Nat.reduceMul, Int.reduceToNat, Int.reduceLT, Int.reduceLE, keepL]) | refine an2 ?_ | fail)
        simp only [List.append_assoc]
end Go.Proofs.Ytoiohkjomcbadaa

namespace Go.Proofs.Ytoiohkjomcbadaa
open Go Sy
set_option maxRecDepth 100000
set_option maxHeartbeats 4000000
set_option linter.unusedVariables false
set_option linter.unusedSimpArgs false
theorem i118 {gc : Nat} {ca : List AV} {lt : Int → Int → Bool} {cv : Int → Int → Int} (hw : SW lt) (hfz : frzAll ca = true) (hcv : ∀ x y, lt x y = decide (cv x y < 0))
    {ok : Int → Prop} (ok0 : ok 0) (hg : ∀ x y, ok x → ok y → Sy.Fn Try.prog gc (iv x :: iv y :: ca) (iv (cv x y))) {s : S} {k st : Nat} {L L' : List Int} (P U Q : List Int) (okP : ∀ x ∈ P, ok x) (okU : ∀ x ∈ U, ok x) (okQ : ∀ x ∈ Q, ok x) {a b : Int} {K : AV → S → Prop} (hk : lm s.mem k = some (rI st L)) (hfr : ∀ j, s.nx ≤ j → lm s.mem j = none) (hlen : L.length ≤ 1000000)
    (hL : L = P ++ (U ++ Q)) (hL' : P ++ (isort lt U ++ Q) = L') (ha : a = P.length) (hb : b = P.length + U.length) (hK : K (.tup []) ⟨s.tm, setm s.mem k (rI st L'), s.nx⟩) :
    Inl Try.prog 137 [.row k st, iv a, iv b, .clo gc [] ca] s K := by
  subst ha hb hL'
  subst hL
  simp only [List.length_append] at hlen
  exact Inl_row mixed Xt137 rfl hk hfr (fun M nx h1 h2 => w118 hw hfz hcv ok0 hg P U Q okP okU okQ (by omega) h1 h2) hK
theorem chS_mem {lt : Int → Int → Bool} {n : Nat} (hn : 0 < n) {x : Int} : ∀ (k : Nat) (l : List Int), l.length ≤ k → (x ∈ chS lt n l ↔ x ∈ l)
  | 0, l, h => by rw [chS_one (by omega), isort_mem]
  | k + 1, l, h => by
    by_cases q : l.length ≤ n
    · rw [chS_one q, isort_mem]
    · rw [chS_eq hn, List.mem_append, isort_mem, chS_mem hn k _ (by rw [List.length_drop]; omega), ← List.mem_append, List.take_append_drop]
theorem w103 {M : List (Nat × Blk)} {k st nx : Nat} {gc : Nat} {ca : List AV} {lt : Int → Int → Bool} {cv : Int → Int → Int} (hw : SW lt) (hfz : frzAll ca = true) (hcv : ∀ x y, lt x y = decide (cv x y < 0))
    {ok : Int → Prop} (ok0 : ok 0) (hg : ∀ x y, ok x → ok y → Sy.Fn Try.prog gc (iv x :: iv y :: ca) (iv (cv x y))) (L : List Int) (okL : ∀ x ∈ L, ok x) (hlen : L.length ≤ 1000000) (hk : k < nx) (hfr : ∀ j, nx ≤ j → lm M j = none) :
    W Try.prog 63 Xn126_0 ⟨initT 0 [.row k st, iv L.length, .clo gc [] ca], setm M k (rI st L), nx⟩
      (fun e s' => (e = .n ∨ e = .r) ∧ s'.mem = setm M k (rI st (isort lt L))) := by
  have hfr' : ∀ b : Blk, ∀ j, nx ≤ j → lm (setm M k b) j = none := fun b j hj => by rw [lm_set_other _ _ (by omega)]; exact hfr j hj
  have hsym := w119 hw hfz hcv ok0 hg L.length
  simp (maxSteps := 400000) (disch := omega) only [push_cast, ↓reduceIte, reduceCtorEq, Nat.reduceAdd, Nat.reduceSub, Nat.reduceEqDiff, Nat.reduceLeDiff, Nat.reduceLT, Nat.reduceBEq, Nat.reduceDiv, Nat.reduceMod, Nat.reducePow, Nat.reduceMul, Int.reduceToNat, Int.reduceLT, Int.reduceLE, initT]
  repeat' (first | refine w1g ?_ | refine w1l ?_ | refine w1q ?_ | refine w1b ?_ | refine w1p ?_ | ((first | refine w1r ?_ | refine w1k ?_ | refine w1e ?_); (refine sy1 ?_; try exact True.intro)) | refine an2 ?_ | fail)
  refine W_loopM (fun q : List Int × List Int => [(7, iv q.1.length), (8, iv ((q.1.length : Int) + 20))]) (fun q => setm M k (rI st (q.1 ++ q.2))) (fun q => q.1.length + q.2.length = L.length ∧ q.1 ++ chS lt 20 q.2 = chS lt 20 L) (fun q => q.2.length) nx (fun c _ => hfr' _) ([], L) ⟨by simp, by simp⟩ (by rfl) (by rfl) (fun q hq => ?_)
  obtain ⟨A, R⟩ := q
  obtain ⟨h1, h2⟩ := hq
  simp only at h1 h2
  have okA : ∀ x ∈ A, ok x := fun x hx => okL x ((chS_mem (lt := lt) (n := 20) (by omega) L.length L (Nat.le_refl _)).1 (by rw [← h2]; exact List.mem_append_left _ hx))
  have okR : ∀ x ∈ R, ok x := fun x hx => okL x ((chS_mem (lt := lt) (n := 20) (by omega) L.length L (Nat.le_refl _)).1 (by rw [← h2]; exact List.mem_append_right _ ((chS_mem (by omega) R.length R (Nat.le_refl _)).2 hx)))
  simp (maxSteps := 400000) (disch := omega) only [push_cast, ↓reduceIte, reduceCtorEq, Nat.reduceAdd, Nat.reduceSub, Nat.reduceEqDiff, Nat.reduceLeDiff, Nat.reduceLT, Nat.reduceBEq, Nat.reduceDiv, Nat.reduceMod, Nat.reducePow, Nat.reduceMul, Int.reduceToNat, Int.reduceLT, Int.reduceLE, keepL]
  repeat' (first | refine w1g ?_ | refine w1l ?_ | refine w1q ?_ | refine w1b ?_ | refine w1p ?_ | ((first | refine w1r ?_ | refine w1k ?_ | refine w1e ?_); simp (maxSteps := 400000) (disch := omega) only [push_cast, ↓reduceIte, reduceCtorEq, Nat.reduceAdd, Nat.reduceSub, Nat.reduceEqDiff, Nat.reduceLeDiff, Nat.reduceLT, Nat.reduceBEq, Nat.reduceDiv, Nat.reduceMod, Nat.reducePow, Nat.reduceMul, Int.reduceToNat, Int.reduceLT, Int.reduceLE, keepL]) | refine an2 ?_ | fail)
  refine W_condD (by rfl) (fun h5 => ?_) (fun h5 => ?_)
  · have hR : 20 ≤ R.length := by omega
    have t1 : (R.take 20).length = 20 := by rw [List.length_take]; omega
    have t2 : (R.drop 20).length = R.length - 20 := List.length_drop
    have t3 : (isort lt (R.take 20)).length = 20 := by rw [isort_len, t1]
    have hch := chS_eq (lt := lt) (n := 20) (by omega) R
    repeat' (first | refine w1g ?_ | refine w1l ?_ | refine w1q ?_ | refine w1b ?_ | refine w1p ?_ | ((first | refine w1r ?_ | refine w1k ?_ | refine w1e ?_); simp (maxSteps := 400000) (disch := omega) only [push_cast, ↓reduceIte, reduceCtorEq, Nat.reduceAdd, Nat.reduceSub, Nat.reduceEqDiff, Nat.reduceLeDiff, Nat.reduceLT, Nat.reduceBEq, Nat.reduceDiv, Nat.reduceMod, Nat.reducePow, Nat.reduceMul, Int.reduceToNat, Int.reduceLT, Int.reduceLE, keepL]) | refine an2 ?_ | fail)
    refine CallC.inl (i118 hw hfz hcv ok0 hg A (R.take 20) (R.drop 20) okA (fun x hx => okR x (List.mem_of_mem_take hx)) (fun x hx => okR x (List.mem_of_mem_drop hx)) (lm_set_same _ _ _) (fun j hj => hfr' _ j (by dsimp only at hj; omega)) (by rw [List.length_append]; omega) (by rw [List.take_append_drop]) rfl (by omega) (by omega) ?_)
    (refine sy1 ?_; try exact True.intro)
    repeat' (first | refine w1g ?_ | refine w1l ?_ | refine w1q ?_ | refine w1b ?_ | refine w1p ?_ | ((first | refine w1r ?_ | refine w1k ?_ | refine w1e ?_); simp (maxSteps := 400000) (disch := omega) only [push_cast, ↓reduceIte, reduceCtorEq, Nat.reduceAdd, Nat.reduceSub, Nat.reduceEqDiff, Nat.reduceLeDiff, Nat.reduceLT, Nat.reduceBEq, Nat.reduceDiv, Nat.reduceMod, Nat.reducePow, Nat.reduceMul, Int.reduceToNat, Int.reduceLT, Int.reduceLE, keepL]) | refine an2 ?_ | fail)
    have t4 : (A ++ isort lt (R.take 20)).length = A.length + 20 := by rw [List.length_append, t3]
    refine ⟨(A ++ isort lt (R.take 20), R.drop 20), ⟨by dsimp only; omega, ?_⟩, by dsimp only; omega, ?_, ?_⟩
    · dsimp only
      rw [← h2, hch, List.append_assoc]
    · dsimp only
      rw [t4]; rfl
    · dsimp only
      rw [List.append_assoc]
  · have hR : R.length < 20 := by omega
    have hch : chS lt 20 R = isort lt R := chS_one (by omega)
    repeat' (first | refine w1g ?_ | refine w1l ?_ | refine w1q ?_ | refine w1b ?_ | refine w1p ?_ | ((first | refine w1r ?_ | refine w1k ?_ | refine w1e ?_); simp (maxSteps := 400000) (disch := omega) only [push_cast, ↓reduceIte, reduceCtorEq, Nat.reduceAdd, Nat.reduceSub, Nat.reduceEqDiff, Nat.reduceLeDiff, Nat.reduceLT, Nat.reduceBEq, Nat.reduceDiv, Nat.reduceMod, Nat.reducePow, Nat.reduceMul, Int.reduceToNat, Int.reduceLT, Int.reduceLE, keepL]) | refine an2 ?_ | fail)
    refine CallC.inl (i118 hw hfz hcv ok0 hg A R [] okA okR (fun x hx => by cases hx) (lm_set_same _ _ _) (fun j hj => hfr' _ j (by dsimp only at hj; omega)) (by rw [List.length_append]; omega) (by rw [List.append_nil]) (L' := chS lt 20 L) (by rw [← h2, hch, List.append_nil]) (by omega) (by omega) ?_)
    (refine sy1 ?_; try exact True.intro)
    repeat' (first | refine w1g ?_ | refine w1l ?_ | refine w1q ?_ | refine w1b ?_ | refine w1p ?_ | ((first | refine w1r ?_ | refine w1k ?_ | refine w1e ?_); simp (maxSteps := 400000) (disch := omega) only [push_cast, ↓reduceIte, reduceCtorEq, Nat.reduceAdd, Nat.reduceSub, Nat.reduceEqDiff, Nat.reduceLeDiff, Nat.reduceLT, Nat.reduceBEq, Nat.reduceDiv, Nat.reduceMod, Nat.reducePow, Nat.reduceMul, Int.reduceToNat, Int.reduceLT, Int.reduceLE, keepL]) | refine an2 ?_ | fail)
    refine W_loopM (fun q : Nat => [(6, iv q)]) (fun q => setm M k (rI st (chS lt q L))) (fun q => 20 ≤ q ∧ (q = 20 ∨ q ≤ 2 * L.length)) (fun q => L.length - q) nx (fun c _ => hfr' _) 20 ⟨by omega, .inl rfl⟩ (by rfl) (by rfl) (fun q hq => ?_)
    obtain ⟨g1, g2⟩ := hq
    simp (maxSteps := 400000) (disch := omega) only [push_cast, ↓reduceIte, reduceCtorEq, Nat.reduceAdd, Nat.reduceSub, Nat.reduceEqDiff, Nat.reduceLeDiff, Nat.reduceLT, Nat.reduceBEq, Nat.reduceDiv, Nat.reduceMod, Nat.reducePow, Nat.reduceMul, Int.reduceToNat, Int.reduceLT, Int.reduceLE, keepL]
    repeat' (first | refine w1g ?_ | refine w1l ?_ | refine w1q ?_ | refine w1b ?_ | refine w1p ?_ | ((first | refine w1r ?_ | refine w1k ?_ | refine w1e ?_); simp (maxSteps := 400000) (disch := omega) only [push_cast, ↓reduceIte, reduceCtorEq, Nat.reduceAdd, Nat.reduceSub, Nat.reduceEqDiff, Nat.reduceLeDiff, Nat.reduceLT, Nat.reduceBEq, Nat.reduceDiv, Nat.reduceMod, Nat.reducePow, Nat.reduceMul, Int.reduceToNat, Int.reduceLT, Int.reduceLE, keepL]) | refine an2 ?_ | fail)
    refine W_condD (by rfl) (fun h6 => ?_) (fun h6 => ?_)
    · have hqL : q < L.length := by omega
      repeat' (first | refine w1g ?_ | refine w1l ?_ | refine w1q ?_ | refine w1b ?_ | refine w1p ?_ | ((first | refine w1r ?_ | refine w1k ?_ | refine w1e ?_); simp (maxSteps := 400000) (disch := omega) only [push_cast, ↓reduceIte, reduceCtorEq, Nat.reduceAdd, Nat.reduceSub, Nat.reduceEqDiff, Nat.reduceLeDiff, Nat.reduceLT, Nat.reduceBEq, Nat.reduceDiv, Nat.reduceMod, Nat.reducePow, Nat.reduceMul, Int.reduceToNat, Int.reduceLT, Int.reduceLE, keepL]) | refine an2 ?_ | fail)
      refine W_loopM (fun p : List Int × List Int => [(7, iv p.1.length), (8, iv ((p.1.length : Int) + 2 * q))]) (fun p => setm M k (rI st (p.1 ++ chS lt q p.2))) (fun p => p.1.length + p.2.length = L.length ∧ p.1 ++ chS lt (2 * q) p.2 = chS lt (2 * q) L) (fun p => p.2.length) nx (fun c _ => hfr' _) ([], L) ⟨by simp, by simp⟩ (by
        have : ((([] : List Int).length : Int) + 2 * q) = 2 * q := by simp
        dsimp only
        rw [this]; rfl) (by rfl) (fun p hp => ?_)
      clear h1 h2 h5 hR hch okA okR A R
      obtain ⟨A, R⟩ := p
      obtain ⟨h1, h2⟩ := hp
      simp only at h1 h2
      have okR : ∀ x ∈ R, ok x := fun x hx => okL x ((chS_mem (lt := lt) (n := 2 * q) (by omega) L.length L (Nat.le_refl _)).1 (by rw [← h2]; exact List.mem_append_right _ ((chS_mem (by omega) R.length R (Nat.le_refl _)).2 hx)))
      have hcl : (A ++ chS lt q R).length = L.length := by rw [List.length_append, chS_len (by omega) R.length R (Nat.le_refl _)]; exact h1
      simp (maxSteps := 400000) (disch := omega) only [push_cast, ↓reduceIte, reduceCtorEq, Nat.reduceAdd, Nat.reduceSub, Nat.reduceEqDiff, Nat.reduceLeDiff, Nat.reduceLT, Nat.reduceBEq, Nat.reduceDiv, Nat.reduceMod, Nat.reducePow, Nat.reduceMul, Int.reduceToNat, Int.reduceLT, Int.reduceLE, keepL]
      repeat' (first | refine w1g ?_ | refine w1l ?_ | refine w1q ?_ | refine w1b ?_ | refine w1p ?_ | ((first | refine w1r ?_ | refine w1k ?_ | refine w1e ?_); simp (maxSteps := 400000) (disch := omega) only [push_cast, ↓reduceIte, reduceCtorEq, Nat.reduceAdd, Nat.reduceSub, Nat.reduceEqDiff, Nat.reduceLeDiff, Nat.reduceLT, Nat.reduceBEq, Nat.reduceDiv, Nat.reduceMod, Nat.reducePow, Nat.reduceMul, Int.reduceToNat, Int.reduceLT, Int.reduceLE, keepL]) | refine an2 ?_ | fail)
      refine W_condD (by rfl) (fun h7 => ?_) (fun h7 => ?_)
      · have hR : 2 * q ≤ R.length := by omega
        have c1 := chS_eq (lt := lt) (n := q) (by omega) R
        have c2 := chS_eq (lt := lt) (n := q) (by omega) (R.drop q)
        have c3 := chS_eq (lt := lt) (n := 2 * q) (by omega) R
        have c4 : R.take q ++ (R.drop q).take q = R.take (2 * q) := by rw [Nat.two_mul, List.take_add]
        have c5 : (R.drop q).drop q = R.drop (2 * q) := by rw [List.drop_drop, Nat.two_mul]
        have l1 : (isort lt (R.take q)).length = q := by rw [isort_len, List.length_take]; omega
        have l2 : (isort lt ((R.drop q).take q)).length = q := by rw [isort_len, List.length_take, List.length_drop]; omega
        have l3 : (isort lt (R.take (2 * q))).length = 2 * q := by rw [isort_len, List.length_take]; omega
        have l4 : (R.drop (2 * q)).length = R.length - 2 * q := List.length_drop
        have c6 := mrg_isort hw (R.take q) ((R.drop q).take q)
        have s1 := srt_isort hw (R.take q)
        have s2 := srt_isort hw ((R.drop q).take q)
        rw [c4] at c6
        rw [c5] at c2
        rw [c2] at c1
        repeat' (first | refine w1g ?_ | refine w1l ?_ | refine w1q ?_ | refine w1b ?_ | refine w1p ?_ | ((first | refine w1r ?_ | refine w1k ?_ | refine w1e ?_); simp (maxSteps := 400000) (disch := omega) only [push_cast, ↓reduceIte, reduceCtorEq, Nat.reduceAdd, Nat.reduceSub, Nat.reduceEqDiff, Nat.reduceLeDiff, Nat.reduceLT, Nat.reduceBEq, Nat.reduceDiv, Nat.reduceMod, Nat.reducePow, Nat.reduceMul, Int.reduceToNat, Int.reduceLT, Int.reduceLE, keepL]) | refine an2 ?_ | fail)
        refine CallC.inl (i119 hsym A (isort lt (R.take q)) (isort lt ((R.drop q).take q)) (chS lt q (R.drop (2 * q))) (fun x hx => okR x (List.mem_of_mem_take ((isort_mem _).1 hx))) (fun x hx => okR x (List.mem_of_mem_drop (List.mem_of_mem_take ((isort_mem _).1 hx)))) (lm_set_same _ _ _) (fun j hj => hfr' _ j (by dsimp only at hj; omega)) (by omega) (by omega) (by omega) (by omega) s1 s2 (by rw [c1]) rfl (by omega) (by omega) (by omega) ?_)
        rw [c6]
        (refine sy1 ?_; try exact True.intro)
        repeat' (first | refine w1g ?_ | refine w1l ?_ | refine w1q ?_ | refine w1b ?_ | refine w1p ?_ | ((first | refine w1r ?_ | refine w1k ?_ | refine w1e ?_); simp (maxSteps := 400000) (disch := omega) only [push_cast, ↓reduceIte, reduceCtorEq, Nat.reduceAdd, Nat.reduceSub, Nat.reduceEqDiff, Nat.reduceLeDiff, Nat.reduceLT, Nat.reduceBEq, Nat.reduceDiv, Nat.reduceMod, Nat.reducePow, Nat.reduceMul, Int.reduceToNat, Int.reduceLT, Int.reduceLE, keepL]) | refine an2 ?_ | fail)
        have t4 : (A ++ isort lt (R.take (2 * q))).length = A.length + 2 * q := by rw [List.length_append, l3]
        refine ⟨(A ++ isort lt (R.take (2 * q)), R.drop (2 * q)), ⟨by dsimp only; omega, ?_⟩, by dsimp only; omega, ?_, ?_⟩
        · dsimp only
          rw [← h2, c3, List.append_assoc]
        · dsimp only
          rw [t4]
          have e1 : ((A.length + 2 * q : Nat) : Int) = A.length + 2 * q := by omega
          rw [e1]
        · dsimp only
          rw [List.append_assoc]
      · have hR : R.length < 2 * q := by omega
        have c3 : chS lt (2 * q) R = isort lt R := chS_one (by omega)
        rw [c3] at h2
        repeat' (first | refine w1g ?_ | refine w1l ?_ | refine w1q ?_ | refine w1b ?_ | refine w1p ?_ | ((first | refine w1r ?_ | refine w1k ?_ | refine w1e ?_); simp (maxSteps := 400000) (disch := omega) only [push_cast, ↓reduceIte, reduceCtorEq, Nat.reduceAdd, Nat.reduceSub, Nat.reduceEqDiff, Nat.reduceLeDiff, Nat.reduceLT, Nat.reduceBEq, Nat.reduceDiv, Nat.reduceMod, Nat.reducePow, Nat.reduceMul, Int.reduceToNat, Int.reduceLT, Int.reduceLE, keepL]) | refine an2 ?_ | fail)
        refine W_meetM [] (setm M k (rI st (chS lt (2 * q) L))) nx (hfr' _) ?_ ?_
        · refine W_condD (by rfl) (fun h8 => ?_) (fun h8 => ?_)
          · have hR2 : q < R.length := by omega
            have c1 := chS_eq (lt := lt) (n := q) (by omega) R
            have l0 : (R.drop q).length = R.length - q := List.length_drop
            have c2 : chS lt q (R.drop q) = isort lt (R.drop q) := chS_one (by omega)
            have l1 : (isort lt (R.take q)).length = q := by rw [isort_len, List.length_take]; omega
            have l2 : (isort lt (R.drop q)).length = R.length - q := by rw [isort_len, l0]
            have c6 := mrg_isort hw (R.take q) (R.drop q)
            rw [List.take_append_drop] at c6
            have s1 := srt_isort hw (R.take q)
            have s2 := srt_isort hw (R.drop q)
            rw [c2] at c1
            repeat' (first | refine w1g ?_ | refine w1l ?_ | refine w1q ?_ | refine w1b ?_ | refine w1p ?_ | ((first | refine w1r ?_ | refine w1k ?_ | refine w1e ?_); simp (maxSteps := 400000) (disch := omega) only [push_cast, ↓reduceIte, reduceCtorEq, Nat.reduceAdd, Nat.reduceSub, Nat.reduceEqDiff, Nat.reduceLeDiff, Nat.reduceLT, Nat.reduceBEq, Nat.reduceDiv, Nat.reduceMod, Nat.reducePow, Nat.reduceMul, Int.reduceToNat, Int.reduceLT, Int.reduceLE, keepL]) | refine an2 ?_ | fail)
            refine CallC.inl (i119 hsym A (isort lt (R.take q)) (isort lt (R.drop q)) [] (fun x hx => okR x (List.mem_of_mem_take ((isort_mem _).1 hx))) (fun x hx => okR x (List.mem_of_mem_drop ((isort_mem _).1 hx))) (lm_set_same _ _ _) (fun j hj => hfr' _ j (by dsimp only at hj; omega)) (by omega) (by omega) (by omega) (by omega) s1 s2 (by rw [c1, List.append_nil]) (L' := chS lt (2 * q) L) (by rw [c6, List.append_nil]; exact h2) (by omega) (by omega) (by omega) ?_)
            (refine sy1 ?_; try exact True.intro)
            repeat' (first | refine w1g ?_ | refine w1l ?_ | refine w1q ?_ | refine w1b ?_ | refine w1p ?_ | ((first | refine w1r ?_ | refine w1k ?_ | refine w1e ?_); simp (maxSteps := 400000) (disch := omega) only [push_cast, ↓reduceIte, reduceCtorEq, Nat.reduceAdd, Nat.reduceSub, Nat.reduceEqDiff, Nat.reduceLeDiff, Nat.reduceLT, Nat.reduceBEq, Nat.reduceDiv, Nat.reduceMod, Nat.reducePow, Nat.reduceMul, Int.reduceToNat, Int.reduceLT, Int.reduceLE, keepL]) | refine an2 ?_ | fail)
          · have hR2 : R.length ≤ q := by omega
            have c1 : chS lt q R = isort lt R := chS_one hR2
            rw [c1, h2]
            repeat' (first | refine w1g ?_ | refine w1l ?_ | refine w1q ?_ | refine w1b ?_ | refine w1p ?_ | ((first | refine w1r ?_ | refine w1k ?_ | refine w1e ?_); simp (maxSteps := 400000) (disch := omega) only [push_cast, ↓reduceIte, reduceCtorEq, Nat.reduceAdd, Nat.reduceSub, Nat.reduceEqDiff, Nat.reduceLeDiff, Nat.reduceLT, Nat.reduceBEq, Nat.reduceDiv, Nat.reduceMod, Nat.reducePow, Nat.reduceMul, Int.reduceToNat, Int.reduceLT, Int.reduceLE, keepL]) | refine an2 ?_ | fail)
        simp (maxSteps := 400000) (disch := omega) only [push_cast, ↓reduceIte, reduceCtorEq, Nat.reduceAdd, Nat.reduceSub, Nat.reduceEqDiff, Nat.reduceLeDiff, Nat.reduceLT, Nat.reduceBEq, Nat.reduceDiv, Nat.reduceMod, Nat.reducePow, Nat.reduceMul, Int.reduceToNat, Int.reduceLT, Int.reduceLE, keepL]
        repeat' (first | refine w1g ?_ | refine w1l ?_ | refine w1q ?_ | refine w1b ?_ | refine w1p ?_ | ((first | refine w1r ?_ | refine w1k ?_ | refine w1e ?_); simp (maxSteps := 400000) (disch := omega) only [push_cast, ↓reduceIte, reduceCtorEq, Nat.reduceAdd, Nat.reduceSub, Nat.reduceEqDiff, Nat.reduceLeDiff, Nat.reduceLT, Nat.reduceBEq, Nat.reduceDiv, Nat.reduceMod, Nat.reducePow, Nat.reduceMul, Int.reduceToNat, Int.reduceLT, Int.reduceLE, keepL]) | refine an2 ?_ | fail)
        refine ⟨2 * q, ⟨by omega, .inr (by omega)⟩, by omega, ?_, rfl⟩
        rw [show ((2 * q : Nat) : Int) = q * 2 by omega]
    · have hqL : chS lt q L = isort lt L := chS_one (by omega)
      rw [hqL]
      repeat' (first | refine w1g ?_ | refine w1l ?_ | refine w1q ?_ | refine w1b ?_ | refine w1p ?_ | ((first | refine w1r ?_ | refine w1k ?_ | refine w1e ?_); simp (maxSteps := 400000) (disch := omega) only [push_cast, ↓reduceIte, reduceCtorEq, Nat.reduceAdd, Nat.reduceSub, Nat.reduceEqDiff, Nat.reduceLeDiff, Nat.reduceLT, Nat.reduceBEq, Nat.reduceDiv, Nat.reduceMod, Nat.reducePow, Nat.reduceMul, Int.reduceToNat, Int.reduceLT, Int.reduceLE, keepL]) | refine an2 ?_ | fail)
theorem i77 {gc : Nat} {ca : List AV} {lt : Int → Int → Bool} {cv : Int → Int → Int} (hw : SW lt) (hfz : frzAll ca = true) (hcv : ∀ x y, lt x y = decide (cv x y < 0))
    {ok : Int → Prop} (ok0 : ok 0) (hg : ∀ x y, ok x → ok y → Sy.Fn Try.prog gc (iv x :: iv y :: ca) (iv (cv x y))) {s : S} {k st : Nat} {L : List Int} (okL : ∀ x ∈ L, ok x) {K : AV → S → Prop} (hk : lm s.mem k = some (rI st L)) (hfr : ∀ j, s.nx ≤ j → lm s.mem j = none) (hlen : L.length ≤ 1000000)
    (hK : K (.tup []) ⟨s.tm, setm s.mem k (rI st (isort lt L)), s.nx⟩) : Inl Try.prog 97 [.row k st, .clo gc [] ca] s K := by
  refine Inl_row mixed Xt97 rfl hk hfr (fun M nx h1 h2 => ?_) hK
  have hfr' : ∀ b : Blk, ∀ j, nx ≤ j → lm (setm M k b) j = none := fun b j hj => by rw [lm_set_other _ _ (by omega)]; exact h2 j hj
  simp (maxSteps := 400000) (disch := omega) only [push_cast, ↓reduceIte, reduceCtorEq, Nat.reduceAdd, Nat.reduceSub, Nat.reduceEqDiff, Nat.reduceLeDiff, Nat.reduceLT, Nat.reduceBEq, Nat.reduceDiv, Nat.reduceMod, Nat.reducePow, Nat.reduceMul, Int.reduceToNat, Int.reduceLT, Int.reduceLE, initT]
  repeat' (first | refine w1g ?_ | refine w1l ?_ | refine w1q ?_ | refine w1b ?_ | refine w1p ?_ | ((first | refine w1r ?_ | refine w1k ?_ | refine w1e ?_); (refine sy1 ?_; try exact True.intro)) | refine an2 ?_ | fail)
  refine CallC.inl (Inl_row mixed Xt126 rfl (lm_set_same _ _ _) (fun j hj => hfr' _ j (by dsimp only at hj; omega)) (fun M' nx' h1 h2 => w103 hw hfz hcv ok0 hg L okL hlen h1 h2) ?_)
  (refine sy1 ?_; try exact True.intro)
  repeat' (first | refine w1g ?_ | refine w1l ?_ | refine w1q ?_ | refine w1b ?_ | refine w1p ?_ | ((first | refine w1r ?_ | refine w1k ?_ | refine w1e ?_); simp (maxSteps := 400000) (disch := omega) only [push_cast, ↓reduceIte, reduceCtorEq, Nat.reduceAdd, Nat.reduceSub, Nat.reduceEqDiff, Nat.reduceLeDiff, Nat.reduceLT, Nat.reduceBEq, Nat.reduceDiv, Nat.reduceMod, Nat.reducePow, Nat.reduceMul, Int.reduceToNat, Int.reduceLT, Int.reduceLE, keepL]) | refine an2 ?_ | fail)
end Go.Proofs.Ytoiohkjomcbadaa

namespace Go.Proofs.Ytoiohkjomcbadaa
open Go Sy
set_option maxRecDepth 100000
set_option maxHeartbeats 4000000
set_option linter.unusedVariables false
set_option linter.unusedSimpArgs false
theorem fn127 (x : Int) : Sy.Fn Try.prog 127 [iv x] (bv false) := by
  refine Fn_of_W mixed Xt127 rfl ?_
  repeat' (first | refine w1g ?_ | refine w1l ?_ | refine w1q ?_ | refine w1b ?_ | refine w1p ?_ | ((first | refine w1r ?_ | refine w1k ?_ | refine w1e ?_); simp (maxSteps := 400000) (disch := omega) only [push_cast, ↓reduceIte, reduceCtorEq, Nat.reduceAdd, Nat.reduceSub, Nat.reduceEqDiff, Nat.reduceLeDiff, Nat.reduceLT, Nat.reduceBEq, Nat.reduceDiv, Nat.reduceMod, Nat.reducePow, Nat.reduceMul, Int.reduceToNat, Int.reduceLT, Int.reduceLE, bne_self_eq_false]) | refine an2 ?_ | fail)
  exact W_ret ⟨[_], ⟨rfl, rfl⟩, rfl⟩
def cmI (x y : Int) : Int := if x < y then -1 else if y < x then 1 else 0
theorem fn100 (x y : Int) : Sy.Fn Try.prog 100 [iv x, iv y] (iv (cmI x y)) := by
  refine Fn_of_W mixed Xt100 rfl ?_
  repeat' (first | refine w1g ?_ | refine w1l ?_ | refine w1q ?_ | refine w1b ?_ | refine w1p ?_ | ((first | refine w1r ?_ | refine w1k ?_ | refine w1e ?_ | refine CallC.go _ (fun _ => ⟨trivial, fn127 _⟩) rfl ?_); (refine sy1 ?_; try exact True.intro)) | refine an2 ?_ | fail)
  refine W_cond (by rfl) (fun h => by cases h) (fun _ => ?_)
  repeat' (first | refine w1g ?_ | refine w1l ?_ | refine w1q ?_ | refine w1b ?_ | refine w1p ?_ | ((first | refine w1r ?_ | refine w1k ?_ | refine w1e ?_); (refine sy1 ?_; try exact True.intro)) | refine an2 ?_ | fail)
  refine W_cond (by rfl) (fun h => by cases h) (fun _ => ?_)
  repeat' (first | refine w1g ?_ | refine w1l ?_ | refine w1q ?_ | refine w1b ?_ | refine w1p ?_ | ((first | refine w1r ?_ | refine w1k ?_ | refine w1e ?_); (refine sy1 ?_; try exact True.intro)) | refine an2 ?_ | fail)
  refine W_condD (by rfl) (fun h1 => ?_) (fun h1 => ?_)
  · rw [show cmI x y = -1 by unfold cmI; rw [if_pos h1]]
    repeat' (first | refine w1g ?_ | refine w1l ?_ | refine w1q ?_ | refine w1b ?_ | refine w1p ?_ | ((first | refine w1r ?_ | refine w1k ?_ | refine w1e ?_); (refine sy1 ?_; try exact True.intro)) | refine an2 ?_ | fail)
    exact W_ret ⟨[_], ⟨rfl, rfl⟩, rfl⟩
  repeat' (first | refine w1g ?_ | refine w1l ?_ | refine w1q ?_ | refine w1b ?_ | refine w1p ?_ | ((first | refine w1r ?_ | refine w1k ?_ | refine w1e ?_); (refine sy1 ?_; try exact True.intro)) | refine an2 ?_ | fail)
  refine W_condD (by rfl) (fun h2 => ?_) (fun h2 => ?_)
  · rw [show cmI x y = 1 by unfold cmI; rw [if_neg h1, if_pos h2]]
    repeat' (first | refine w1g ?_ | refine w1l ?_ | refine w1q ?_ | refine w1b ?_ | refine w1p ?_ | ((first | refine w1r ?_ | refine w1k ?_ | refine w1e ?_); (refine sy1 ?_; try exact True.intro)) | refine an2 ?_ | fail)
    exact W_ret ⟨[_], ⟨rfl, rfl⟩, rfl⟩
  · rw [show cmI x y = 0 by unfold cmI; rw [if_neg h1, if_neg h2]]
    repeat' (first | refine w1g ?_ | refine w1l ?_ | refine w1q ?_ | refine w1b ?_ | refine w1p ?_ | ((first | refine w1r ?_ | refine w1k ?_ | refine w1e ?_); (refine sy1 ?_; try exact True.intro)) | refine an2 ?_ | fail)
    exact W_ret ⟨[_], ⟨rfl, rfl⟩, rfl⟩
theorem fn99 (x y : Int) : Sy.Fn Try.prog 99 [aI [x, y]] (iv (if x = 0 then y else x)) := by
  refine Fn_of_W mixed Xt99 rfl ?_
  repeat' (first | refine w1g ?_ | refine w1l ?_ | refine w1q ?_ | refine w1b ?_ | refine w1p ?_ | ((first | refine w1r ?_ | refine w1k ?_ | refine w1e ?_); (refine sy1 ?_; try exact True.intro)) | refine an2 ?_ | fail)
  refine W_loopU (fun i : Nat => [(8, iv i)]) (fun i => []) (fun i => i ≤ 2 ∧ (0 < i → x = 0) ∧ (1 < i → y = 0)) (fun i => 2 - i) 0 ⟨by omega, fun h => by omega, fun h => by omega⟩ (by rfl) (by rfl) (fun i hi => ?_)
  obtain ⟨hi, h0, h1⟩ := hi
  (refine sy1 ?_; try exact True.intro)
  repeat' (first | refine w1g ?_ | refine w1l ?_ | refine w1q ?_ | refine w1b ?_ | refine w1p ?_ | ((first | refine w1r ?_ | refine w1k ?_ | refine w1e ?_); (refine sy1 ?_; try exact True.intro)) | refine an2 ?_ | fail)
  refine W_condD (by rfl) (fun h5 => ?_) (fun h5 => ?_)
  · have key : ∀ z, [x, y].getD i 0 = z → (z ≠ 0 → (if x = 0 then y else x) = z) ∧ (z = 0 → (0 < i + 1 → x = 0) ∧ (1 < i + 1 → y = 0)) := fun z hz => by
      rcases i with _ | _ | i
      · have hz : x = z := hz
        subst hz
        exact ⟨fun q => by rw [if_neg q], fun q => ⟨fun _ => q, fun w => absurd w (by omega)⟩⟩
      · have hz : y = z := hz
        subst hz
        have hx := h0 (by omega)
        exact ⟨fun _ => by rw [if_pos hx], fun q => ⟨fun _ => hx, fun _ => q⟩⟩
      · omega
    obtain ⟨z, hz⟩ : ∃ z, [x, y].getD i 0 = z := ⟨_, rfl⟩
    obtain ⟨k1, k2⟩ := key z hz
    repeat' (first | refine w1g ?_ | refine w1l ?_ | refine w1q ?_ | refine w1b ?_ | refine w1p ?_ | ((first | refine w1r ?_ | refine w1k ?_ | refine w1e ?_); simp (maxSteps := 400000) (disch := omega) only [push_cast, ↓reduceIte, reduceCtorEq, Nat.reduceAdd, Nat.reduceSub, Nat.reduceEqDiff, Nat.reduceLeDiff, Nat.reduceLT, Nat.reduceBEq, Nat.reduceDiv, Nat.reduceMod, Nat.reducePow, Nat.reduceMul, Int.reduceToNat, Int.reduceLT, Int.reduceLE, hz]) | refine an2 ?_ | fail)
    by_cases q : z = 0
    · obtain ⟨k3, k4⟩ := k2 q
      rw [show (z != 0) = false by rw [q]; rfl]
      refine W_cond (by rfl) (fun h => by cases h) (fun _ => ?_)
      repeat' (first | refine w1g ?_ | refine w1l ?_ | refine w1q ?_ | refine w1b ?_ | refine w1p ?_ | ((first | refine w1r ?_ | refine w1k ?_ | refine w1e ?_); (refine sy1 ?_; try exact True.intro)) | refine an2 ?_ | fail)
      refine ⟨i + 1, ⟨by omega, k3, k4⟩, by omega, by rfl, ?_⟩
      (refine syE ?_; try exact True.intro)
    · rw [show (z != 0) = true from bne_iff_ne.2 q, k1 q]
      refine W_cond (by rfl) (fun _ => ?_) (fun h => by cases h)
      repeat' (first | refine w1g ?_ | refine w1l ?_ | refine w1q ?_ | refine w1b ?_ | refine w1p ?_ | ((first | refine w1r ?_ | refine w1k ?_ | refine w1e ?_); (refine sy1 ?_; try exact True.intro)) | refine an2 ?_ | fail)
      exact W_ret ⟨[_], ⟨rfl, rfl⟩, rfl⟩
  · rw [if_pos (h0 (by omega)), h1 (by omega)]
    repeat' (first | refine w1g ?_ | refine w1l ?_ | refine w1q ?_ | refine w1b ?_ | refine w1p ?_ | ((first | refine w1r ?_ | refine w1k ?_ | refine w1e ?_); (refine sy1 ?_; try exact True.intro)) | refine an2 ?_ | fail)
    exact W_ret ⟨[_], ⟨rfl, rfl⟩, rfl⟩
def k1O (l : List Int) (x : Int) : Int := gi l x.toNat
def k2O (j : Jb) (x : Int) : Int := (gt j.ts x.toNat).mi
def cvO (j : Jb) (l : List Int) (x y : Int) : Int := if cmI (k1O l x) (k1O l y) = 0 then cmI (k2O j x) (k2O j y) else cmI (k1O l x) (k1O l y)
def ltO (j : Jb) (l : List Int) (x y : Int) : Bool := decide (cvO j l x y < 0)
theorem cm_lt (x y : Int) : cmI x y < 0 ↔ x < y := by unfold cmI; repeat' split <;> omega
theorem cm_eq (x y : Int) : cmI x y = 0 ↔ x = y := by unfold cmI; repeat' split <;> omega
theorem ltO_iff {j : Jb} {l : List Int} {x y : Int} : ltO j l x y = true ↔ k1O l x < k1O l y ∨ (k1O l x = k1O l y ∧ k2O j x < k2O j y) := by
  unfold ltO cvO
  rw [decide_eq_true_eq]
  have h1 := cm_lt (k1O l x) (k1O l y)
  have h2 := cm_eq (k1O l x) (k1O l y)
  have h3 := cm_lt (k2O j x) (k2O j y)
  split <;> omega
theorem ltO_no {j : Jb} {l : List Int} {x y : Int} : ltO j l x y = false ↔ k1O l y < k1O l x ∨ (k1O l x = k1O l y ∧ k2O j y ≤ k2O j x) := by
  rw [← Bool.not_eq_true, ltO_iff]
  omega
theorem ltO_sw (j : Jb) (l : List Int) : SW (ltO j l) := { asym := fun {a b} h => by rw [ltO_iff] at h; rw [ltO_no]; omega, nt := fun {a b c} h1 h2 => by rw [ltO_no] at h1 h2 ⊢; omega }
def okX (n : Nat) (x : Int) : Prop := 0 ≤ x ∧ x.toNat < n
theorem fn98 (j : Jb) (l : List Int) (hl : l.length = j.ts.length) (x y : Int) (hx : okX j.ts.length x) (hy : okX j.ts.length y) : Sy.Fn Try.prog 98 [iv x, iv y, .fp [aI l] 0, .fp (cJ j) 0] (iv (cvO j l x y)) := by
  refine Fn_of_W mixed Xt98 rfl ?_
  have e : cvO j l x y = if cmI (k1O l x) (k1O l y) = 0 then cmI (k2O j x) (k2O j y) else cmI (k1O l x) (k1O l y) := rfl
  have c1 := fn100 (k1O l x) (k1O l y)
  have c2 := fn100 (k2O j x) (k2O j y)
  have c3 := fn99 (cmI (k1O l x) (k1O l y)) (cmI (k2O j x) (k2O j y))
  rw [← e] at c3
  have g1 : ∀ x : Int, l.getD x.toNat 0 = k1O l x := fun _ => rfl
  have g2 : ∀ x : Int, (j.ts.getD x.toNat dTk).mi = k2O j x := fun _ => rfl
  obtain ⟨hx1, hx2⟩ := hx
  obtain ⟨hy1, hy2⟩ := hy
  generalize cvO j l x y = r at *
  generalize cmI (k1O l x) (k1O l y) = u at *
  generalize cmI (k2O j x) (k2O j y) = v at *
  repeat' (first | refine w1g ?_ | refine w1l ?_ | refine w1q ?_ | refine w1b ?_ | refine w1p ?_ | ((first | refine w1r ?_ | refine w1k ?_ | refine w1e ?_ | refine CallC.now (c1) ?_ | refine CallC.now (c2) ?_); simp (maxSteps := 400000) (disch := omega) only [push_cast, ↓reduceIte, reduceCtorEq, Nat.reduceAdd, Nat.reduceSub, Nat.reduceEqDiff, Nat.reduceLeDiff, Nat.reduceLT, Nat.reduceBEq, Nat.reduceDiv, Nat.reduceMod, Nat.reducePow, Nat.reduceMul, Int.reduceToNat, Int.reduceLT, Int.reduceLE, g1, g2]) | refine an2 ?_ | fail)
  refine ⟨rfl, trivial, Int, 0, cI, [u, v], rfl, by omega, fun x _ => ⟨rfl, rfl⟩, rfl, ?_⟩
  (refine sy1 ?_; try exact True.intro)
  repeat' (first | refine w1g ?_ | refine w1l ?_ | refine w1q ?_ | refine w1b ?_ | refine w1p ?_ | ((first | refine w1r ?_ | refine w1k ?_ | refine w1e ?_ | refine CallC.go _ (fun _ => ⟨trivial, c3⟩) rfl ?_); (refine sy1 ?_; try exact True.intro)) | refine an2 ?_ | fail)
  exact W_ret ⟨[_], ⟨rfl, rfl⟩, rfl⟩
def rwL (j : Jb) (l : List Int) (t : Int) : List Int := isort (ltO j l) (memT j t)
def orS (j : Jb) (l : List Int) (k : Nat) : List (List Int) := (List.range k).map fun t => rwL j l (t : Nat)
theorem orS_len (j : Jb) (l : List Int) (k : Nat) : (orS j l k).length = k := by unfold orS; rw [List.length_map, List.length_range]
theorem orS_succ (j : Jb) (l : List Int) (k : Nat) : orS j l (k + 1) = orS j l k ++ [rwL j l (k : Nat)] := by unfold orS; rw [List.range_succ, List.map_append]; rfl
def orE (j : Jb) (l : List Int) : Int := if chkJ j = 0 then stE j l else chkJ j
def orL (j : Jb) (l : List Int) : List (List Int) := if orE j l = 0 then orS j l j.tm.length else []
theorem rwL_len (j : Jb) (l : List Int) (t : Int) : (rwL j l t).length ≤ j.ts.length := by
  unfold rwL; rw [isort_len]; exact memK_len j t _
theorem fn45 (j : Jb) (l : List Int) (h : Gj j) (hl : l.length ≤ 1000000) : Sy.Fn Try.prog 45 [aJ j, aI l] (.tup [aO (orL j l), iv (orE j l)]) := by
  refine Fn_of_W mixed Xt45 rfl ?_
  have c39 := fn39 j h
  have c51 := fn51 j l hl (by have := h.t; omega)
  have hE : orE j l = if chkJ j = 0 then stE j l else chkJ j := rfl
  have hO : orL j l = if orE j l = 0 then orS j l j.tm.length else [] := rfl
  have hok : chkJ j = 0 → OkJ j := chkJ_ok
  have hst : stE j l = 0 → l.length = j.ts.length := fun q => (stE_ok q).1
  by_cases h1 : chkJ j = 0
  rotate_left
  · rw [if_neg h1] at hE
    rw [hE] at hO
    rw [if_neg h1] at hO
    rw [hO, hE]
    generalize chkJ j = E at *
    repeat' (first | refine w1g ?_ | refine w1l ?_ | refine w1q ?_ | refine w1b ?_ | refine w1p ?_ | ((first | refine w1r ?_ | refine w1k ?_ | refine w1e ?_ | refine CallC.now (c39) ?_); (refine sy1 ?_; try exact True.intro)) | refine an2 ?_ | fail)
    refine W_cond (by rfl) (fun _ => ?_) (fun h => absurd (by simpa using h) h1)
    repeat' (first | refine w1g ?_ | refine w1l ?_ | refine w1q ?_ | refine w1b ?_ | refine w1p ?_ | ((first | refine w1r ?_ | refine w1k ?_ | refine w1e ?_); (refine sy1 ?_; try exact True.intro)) | refine an2 ?_ | fail)
    refine W_le (le_nil 4 1 ([] : List Int) cO rfl) ?_
    exact W_ret ⟨[_, _], ⟨rfl, rfl, rfl⟩, rfl⟩
  rw [if_pos h1] at hE
  have hok := hok h1
  rw [h1] at c39
  by_cases h2 : stE j l = 0
  rotate_left
  · rw [hE] at hO
    rw [if_neg h2] at hO
    rw [hO, hE]
    generalize stE j l = E at *
    repeat' (first | refine w1g ?_ | refine w1l ?_ | refine w1q ?_ | refine w1b ?_ | refine w1p ?_ | ((first | refine w1r ?_ | refine w1k ?_ | refine w1e ?_ | refine CallC.now (c39) ?_); (refine sy1 ?_; try exact True.intro)) | refine an2 ?_ | fail)
    refine W_cond (by rfl) (fun h => by cases h) (fun _ => ?_)
    repeat' (first | refine w1g ?_ | refine w1l ?_ | refine w1q ?_ | refine w1b ?_ | refine w1p ?_ | ((first | refine w1r ?_ | refine w1k ?_ | refine w1e ?_ | refine CallC.now (c51) ?_); (refine sy1 ?_; try exact True.intro)) | refine an2 ?_ | fail)
    refine W_cond (by rfl) (fun _ => ?_) (fun h => absurd (by simpa using h) h2)
    repeat' (first | refine w1g ?_ | refine w1l ?_ | refine w1q ?_ | refine w1b ?_ | refine w1p ?_ | ((first | refine w1r ?_ | refine w1k ?_ | refine w1e ?_); (refine sy1 ?_; try exact True.intro)) | refine an2 ?_ | fail)
    refine W_le (le_nil 4 1 ([] : List Int) cO rfl) ?_
    exact W_ret ⟨[_, _], ⟨rfl, rfl, rfl⟩, rfl⟩
  have hll := hst h2
  rw [h2] at c51 hE
  rw [hE] at hO ⊢
  rw [if_pos rfl] at hO
  rw [hO]
  have hn := hok.n
  have h0 := hok.n0
  have ht := hok.nt
  have hss := orS_succ j l
  have hsl := orS_len j l
  have hg : ∀ x y, okX j.ts.length x → okX j.ts.length y → Sy.Fn Try.prog 98 (iv x :: iv y :: [.fp [aI l] 0, .fp (cJ j) 0]) (iv (cvO j l x y)) := fun x y => fn98 j l hll x y
  have hmk : ∀ t : Int, ∀ x ∈ memT j t, okX j.ts.length x := fun t x hx => by
    have := memT_iff.1 hx
    exact ⟨this.1, this.2.1⟩
  have hml : ∀ t, (memT j t).length ≤ 1000000 := fun t => Nat.le_trans (memK_len j t j.ts.length) (by omega)
  have hrw : ∀ t, rwL j l t = isort (ltO j l) (memT j t) := fun _ => rfl
  repeat' (first | refine w1g ?_ | refine w1l ?_ | refine w1q ?_ | refine w1b ?_ | refine w1p ?_ | ((first | refine w1r ?_ | refine w1k ?_ | refine w1e ?_ | refine CallC.now (c39) ?_); (refine sy1 ?_; try exact True.intro)) | refine an2 ?_ | fail)
  refine W_cond (by rfl) (fun h => by cases h) (fun _ => ?_)
  repeat' (first | refine w1g ?_ | refine w1l ?_ | refine w1q ?_ | refine w1b ?_ | refine w1p ?_ | ((first | refine w1r ?_ | refine w1k ?_ | refine w1e ?_ | refine CallC.now (c51) ?_); (refine sy1 ?_; try exact True.intro)) | refine an2 ?_ | fail)
  refine W_cond (by rfl) (fun h => by cases h) (fun _ => ?_)
  repeat' (first | refine w1g ?_ | refine w1l ?_ | refine w1q ?_ | refine w1b ?_ | refine w1p ?_ | ((first | refine w1r ?_ | refine w1k ?_ | refine w1e ?_); (refine sy1 ?_; try exact True.intro)) | refine an2 ?_ | fail)
  refine W_le (le_adopt 8 52 1 ([] : List Int) cO (by omega) rfl) ?_
  (refine sy1 ?_; try exact True.intro)
  refine W_loopU (fun i : Nat => [(8, .row 20 i), (25, iv i)]) (fun i => [(20, .row i 52 1 [] cO (orS j l i))]) (fun i => i ≤ j.tm.length) (fun i => j.tm.length - i) 0 (by omega) (by rfl) (by rfl) (fun i hi => ?_)
  have hss := hss i
  have hsl := hsl i
  (refine sy1 ?_; try exact True.intro)
  repeat' (first | refine w1g ?_ | refine w1l ?_ | refine w1q ?_ | refine w1b ?_ | refine w1p ?_ | ((first | refine w1r ?_ | refine w1k ?_ | refine w1e ?_); (refine sy1 ?_; try exact True.intro)) | refine an2 ?_ | fail)
  refine W_condD (by rfl) (fun h5 => ?_) (fun h5 => ?_)
  · have f58 := fo58 j (i : Nat) (by omega)
    have hmk := hmk (i : Nat)
    have hml := hml (i : Nat)
    have hrw := hrw (i : Nat)
    generalize orS j l i = OS at *
    generalize rwL j l (i : Nat) = RW at *
    generalize memT j (i : Nat) = MM at *
    repeat' (first | refine w1g ?_ | refine w1l ?_ | refine w1q ?_ | refine w1b ?_ | refine w1p ?_ | ((first | refine w1r ?_ | refine w1k ?_ | refine w1e ?_); (refine sy1 ?_; try exact True.intro)) | refine an2 ?_ | (refine CallC.inl (Inl_of_FnO f58 (by rfl) ?_); (refine sy1 ?_; try exact True.intro)) | fail)
    refine CallC.inl (i77 (ltO_sw j l) (by rfl) (fun x y => rfl) (ok := okX j.ts.length) ⟨Int.le_refl 0, h0⟩ hg hmk rfl (fun k hk => by simp only [lm]; rw [if_neg (by dsimp only at hk; omega), if_neg (by dsimp only at hk; omega)]) hml ?_)
    rw [← hrw]
    (refine sy1 ?_; try exact True.intro)
    refine W_le (le_frzR 10 [2, 3, 8, 24, 25] [20] 31 26 0 3 1 0 cI RW rfl rfl rfl rfl) ?_
    simp (maxSteps := 400000) (disch := omega) only [push_cast, ↓reduceIte, reduceCtorEq, Nat.reduceAdd, Nat.reduceSub, Nat.reduceEqDiff, Nat.reduceLeDiff, Nat.reduceLT, Nat.reduceBEq, Nat.reduceDiv, Nat.reduceMod, Nat.reducePow, Nat.reduceMul, Int.reduceToNat, Int.reduceLT, Int.reduceLE, List.map_cons, List.map_nil, keepM]
    repeat' (first | refine w1g ?_ | refine w1l ?_ | refine w1q ?_ | refine w1b ?_ | refine w1p ?_ | ((first | refine w1r ?_ | refine w1k ?_ | refine w1e ?_); (refine sy1 ?_; try exact True.intro)) | refine an2 ?_ | fail)
    refine ⟨rfl, trivial, List Int, [], cO, [RW], rfl, by omega, fun x _ => ⟨rfl, rfl⟩, rfl, ?_⟩
    (refine sy1 ?_; try exact True.intro)
    refine ⟨rfl, ⟨Nat.le_of_ble_eq_true rfl, rfl⟩, trivial, [RW], rfl, by first | omega | (simp; omega), by first | omega | (simp; omega), ?_⟩
    (refine sy1 ?_; try exact True.intro)
    rw [← hss]
    repeat' (first | refine w1g ?_ | refine w1l ?_ | refine w1q ?_ | refine w1b ?_ | refine w1p ?_ | ((first | refine w1r ?_ | refine w1k ?_ | refine w1e ?_); (refine sy1 ?_; try exact True.intro)) | refine an2 ?_ | fail)
    refine ⟨i + 1, by omega, by omega, by rfl, ?_⟩
    (refine syE ?_; try exact True.intro)
  · obtain rfl : i = j.tm.length := by omega
    repeat' (first | refine w1g ?_ | refine w1l ?_ | refine w1q ?_ | refine w1b ?_ | refine w1p ?_ | ((first | refine w1r ?_ | refine w1k ?_ | refine w1e ?_); (refine sy1 ?_; try exact True.intro)) | refine an2 ?_ | fail)
    refine W_le (le_frzR 4 [5] [] 25 20 j.tm.length 52 1 [] cO (orS j l j.tm.length) rfl rfl rfl rfl) ?_
    simp (maxSteps := 400000) (disch := omega) only [push_cast, ↓reduceIte, reduceCtorEq, Nat.reduceAdd, Nat.reduceSub, Nat.reduceEqDiff, Nat.reduceLeDiff, Nat.reduceLT, Nat.reduceBEq, Nat.reduceDiv, Nat.reduceMod, Nat.reducePow, Nat.reduceMul, Int.reduceToNat, Int.reduceLT, Int.reduceLE, List.map_cons, List.map_nil, keepM]
    exact W_ret ⟨[_, _], ⟨rfl, rfl, rfl⟩, rfl⟩
end Go.Proofs.Ytoiohkjomcbadaa

namespace Go.Proofs.Ytoiohkjomcbadaa
open Go Sy
set_option maxRecDepth 100000
set_option maxHeartbeats 4000000
set_option linter.unusedVariables false
set_option linter.unusedSimpArgs false
theorem fn22 (a b : List Int) (ha : a.length ≤ 140737488355328) (hb : b.length ≤ 140737488355328) (e : a = b) : Sy.Fn Try.prog 22 [aI a, aI b] (bv true) := by
  subst e
  refine Fn_of_W mixed Xt22 rfl ?_
  repeat' (first | refine w1g ?_ | refine w1l ?_ | refine w1q ?_ | refine w1b ?_ | refine w1p ?_ | ((first | refine w1r ?_ | refine w1k ?_ | refine w1e ?_); simp (maxSteps := 400000) (disch := omega) only [push_cast, ↓reduceIte, reduceCtorEq, Nat.reduceAdd, Nat.reduceSub, Nat.reduceEqDiff, Nat.reduceLeDiff, Nat.reduceLT, Nat.reduceBEq, Nat.reduceDiv, Nat.reduceMod, Nat.reducePow, Nat.reduceMul, Int.reduceToNat, Int.reduceLT, Int.reduceLE, bne_self_eq_false]) | refine an2 ?_ | fail)
  refine W_cond (by rfl) (fun h => by cases h) (fun _ => ?_)
  repeat' (first | refine w1g ?_ | refine w1l ?_ | refine w1q ?_ | refine w1b ?_ | refine w1p ?_ | ((first | refine w1r ?_ | refine w1k ?_ | refine w1e ?_); (refine sy1 ?_; try exact True.intro)) | refine an2 ?_ | fail)
  refine W_loopU (fun i : Nat => [(5, iv i)]) (fun i => []) (fun i => i ≤ a.length) (fun i => a.length - i) 0 (by omega) (by rfl) (by rfl) (fun i hi => ?_)
  (refine sy1 ?_; try exact True.intro)
  repeat' (first | refine w1g ?_ | refine w1l ?_ | refine w1q ?_ | refine w1b ?_ | refine w1p ?_ | ((first | refine w1r ?_ | refine w1k ?_ | refine w1e ?_); (refine sy1 ?_; try exact True.intro)) | refine an2 ?_ | fail)
  refine W_condD (by rfl) (fun h5 => ?_) (fun h5 => ?_)
  · repeat' (first | refine w1g ?_ | refine w1l ?_ | refine w1q ?_ | refine w1b ?_ | refine w1p ?_ | ((first | refine w1r ?_ | refine w1k ?_ | refine w1e ?_); simp (maxSteps := 400000) (disch := omega) only [push_cast, ↓reduceIte, reduceCtorEq, Nat.reduceAdd, Nat.reduceSub, Nat.reduceEqDiff, Nat.reduceLeDiff, Nat.reduceLT, Nat.reduceBEq, Nat.reduceDiv, Nat.reduceMod, Nat.reducePow, Nat.reduceMul, Int.reduceToNat, Int.reduceLT, Int.reduceLE, bne_self_eq_false]) | refine an2 ?_ | fail)
    refine W_cond (by rfl) (fun h => by cases h) (fun _ => ?_)
    repeat' (first | refine w1g ?_ | refine w1l ?_ | refine w1q ?_ | refine w1b ?_ | refine w1p ?_ | ((first | refine w1r ?_ | refine w1k ?_ | refine w1e ?_); (refine sy1 ?_; try exact True.intro)) | refine an2 ?_ | fail)
    refine ⟨i + 1, by omega, by omega, by rfl, ?_⟩
    (refine syE ?_; try exact True.intro)
  · repeat' (first | refine w1g ?_ | refine w1l ?_ | refine w1q ?_ | refine w1b ?_ | refine w1p ?_ | ((first | refine w1r ?_ | refine w1k ?_ | refine w1e ?_); (refine sy1 ?_; try exact True.intro)) | refine an2 ?_ | fail)
    exact W_ret ⟨[_], ⟨rfl, rfl⟩, rfl⟩
theorem fn21 (a : List (List Int)) (ha : a.length ≤ 1000000) (hr : ∀ i, i < a.length → (a.getD i []).length ≤ 1000000) : Sy.Fn Try.prog 21 [aO a, aO a] (bv true) := by
  refine Fn_of_W mixed Xt21 rfl ?_
  repeat' (first | refine w1g ?_ | refine w1l ?_ | refine w1q ?_ | refine w1b ?_ | refine w1p ?_ | ((first | refine w1r ?_ | refine w1k ?_ | refine w1e ?_); simp (maxSteps := 400000) (disch := omega) only [push_cast, ↓reduceIte, reduceCtorEq, Nat.reduceAdd, Nat.reduceSub, Nat.reduceEqDiff, Nat.reduceLeDiff, Nat.reduceLT, Nat.reduceBEq, Nat.reduceDiv, Nat.reduceMod, Nat.reducePow, Nat.reduceMul, Int.reduceToNat, Int.reduceLT, Int.reduceLE, bne_self_eq_false]) | refine an2 ?_ | fail)
  refine W_cond (by rfl) (fun h => by cases h) (fun _ => ?_)
  repeat' (first | refine w1g ?_ | refine w1l ?_ | refine w1q ?_ | refine w1b ?_ | refine w1p ?_ | ((first | refine w1r ?_ | refine w1k ?_ | refine w1e ?_); (refine sy1 ?_; try exact True.intro)) | refine an2 ?_ | fail)
  refine W_loopU (fun i : Nat => [(5, iv i)]) (fun i => []) (fun i => i ≤ a.length) (fun i => a.length - i) 0 (by omega) (by rfl) (by rfl) (fun i hi => ?_)
  (refine sy1 ?_; try exact True.intro)
  repeat' (first | refine w1g ?_ | refine w1l ?_ | refine w1q ?_ | refine w1b ?_ | refine w1p ?_ | ((first | refine w1r ?_ | refine w1k ?_ | refine w1e ?_); (refine sy1 ?_; try exact True.intro)) | refine an2 ?_ | fail)
  refine W_condD (by rfl) (fun h5 => ?_) (fun h5 => ?_)
  · have hr := hr i (by omega)
    repeat' (first | refine w1g ?_ | refine w1l ?_ | refine w1q ?_ | refine w1b ?_ | refine w1p ?_ | ((first | refine w1r ?_ | refine w1k ?_ | refine w1e ?_); simp (maxSteps := 400000) (disch := omega) only [push_cast, ↓reduceIte, reduceCtorEq, Nat.reduceAdd, Nat.reduceSub, Nat.reduceEqDiff, Nat.reduceLeDiff, Nat.reduceLT, Nat.reduceBEq, Nat.reduceDiv, Nat.reduceMod, Nat.reducePow, Nat.reduceMul, Int.reduceToNat, Int.reduceLT, Int.reduceLE, bne_self_eq_false]) | refine an2 ?_ | fail)
    refine W_cond (by rfl) (fun h => by cases h) (fun _ => ?_)
    repeat' (first | refine w1g ?_ | refine w1l ?_ | refine w1q ?_ | refine w1b ?_ | refine w1p ?_ | ((first | refine w1r ?_ | refine w1k ?_ | refine w1e ?_); (refine sy1 ?_; try exact True.intro)) | refine an2 ?_ | fail)
    obtain ⟨R, hR⟩ : ∃ R, a.getD i [] = R := ⟨_, rfl⟩
    rw [hR] at hr
    refine W_loopU (fun k : Nat => [(6, iv k)]) (fun k => []) (fun k => k ≤ R.length) (fun k => R.length - k) 0 (by omega) (by rfl) (by rfl) (fun k hk => ?_)
    (refine sy1 ?_; try exact True.intro)
    repeat' (first | refine w1g ?_ | refine w1l ?_ | refine w1q ?_ | refine w1b ?_ | refine w1p ?_ | ((first | refine w1r ?_ | refine w1k ?_ | refine w1e ?_); simp (maxSteps := 400000) (disch := omega) only [push_cast, ↓reduceIte, reduceCtorEq, Nat.reduceAdd, Nat.reduceSub, Nat.reduceEqDiff, Nat.reduceLeDiff, Nat.reduceLT, Nat.reduceBEq, Nat.reduceDiv, Nat.reduceMod, Nat.reducePow, Nat.reduceMul, Int.reduceToNat, Int.reduceLT, Int.reduceLE, hR]) | refine an2 ?_ | fail)
    refine W_condD (by rfl) (fun h6 => ?_) (fun h6 => ?_)
    · repeat' (first | refine w1g ?_ | refine w1l ?_ | refine w1q ?_ | refine w1b ?_ | refine w1p ?_ | ((first | refine w1r ?_ | refine w1k ?_ | refine w1e ?_); simp (maxSteps := 400000) (disch := omega) only [push_cast, ↓reduceIte, reduceCtorEq, Nat.reduceAdd, Nat.reduceSub, Nat.reduceEqDiff, Nat.reduceLeDiff, Nat.reduceLT, Nat.reduceBEq, Nat.reduceDiv, Nat.reduceMod, Nat.reducePow, Nat.reduceMul, Int.reduceToNat, Int.reduceLT, Int.reduceLE, hR, bne_self_eq_false]) | refine an2 ?_ | fail)
      refine W_cond (by rfl) (fun h => by cases h) (fun _ => ?_)
      repeat' (first | refine w1g ?_ | refine w1l ?_ | refine w1q ?_ | refine w1b ?_ | refine w1p ?_ | ((first | refine w1r ?_ | refine w1k ?_ | refine w1e ?_); (refine sy1 ?_; try exact True.intro)) | refine an2 ?_ | fail)
      refine ⟨k + 1, by omega, by omega, by rfl, ?_⟩
      (refine syE ?_; try exact True.intro)
    · repeat' (first | refine w1g ?_ | refine w1l ?_ | refine w1q ?_ | refine w1b ?_ | refine w1p ?_ | ((first | refine w1r ?_ | refine w1k ?_ | refine w1e ?_); (refine sy1 ?_; try exact True.intro)) | refine an2 ?_ | fail)
      refine ⟨i + 1, by omega, by omega, by rfl, ?_⟩
      (refine syE ?_; try exact True.intro)
  · repeat' (first | refine w1g ?_ | refine w1l ?_ | refine w1q ?_ | refine w1b ?_ | refine w1p ?_ | ((first | refine w1r ?_ | refine w1k ?_ | refine w1e ?_); (refine sy1 ?_; try exact True.intro)) | refine an2 ?_ | fail)
    exact W_ret ⟨[_], ⟨rfl, rfl⟩, rfl⟩
def bfO (j : Jb) (l : List Int) (x y : Int) : Bool := if k1O l x = k1O l y then (if k2O j x = k2O j y then decide (x < y) else decide (k2O j x < k2O j y)) else decide (k1O l x < k1O l y)
theorem bf_lt {j : Jb} {l : List Int} {x y : Int} (h : x < y) : bfO j l x y = !ltO j l y x := by
  cases q : ltO j l y x
  · rw [ltO_no] at q
    unfold bfO
    repeat' split
    · simpa using h
    · simp; omega
    · simp; omega
  · rw [ltO_iff] at q
    unfold bfO
    repeat' split
    · omega
    · simp; omega
    · simp; omega
theorem fn101 (j : Jb) (l : List Int) (hl : l.length = j.ts.length) (x y : Int) (hx : okX j.ts.length x) (hy : okX j.ts.length y) : Sy.Fn Try.prog 101 [aJ j, aI l, iv x, iv y] (bv (bfO j l x y)) := by
  refine Fn_of_W mixed Xt101 rfl ?_
  have e : bfO j l x y = if k1O l x = k1O l y then (if k2O j x = k2O j y then decide (x < y) else decide (k2O j x < k2O j y)) else decide (k1O l x < k1O l y) := rfl
  have g1 : ∀ x : Int, l.getD x.toNat 0 = k1O l x := fun _ => rfl
  have g2 : ∀ x : Int, (j.ts.getD x.toNat dTk).mi = k2O j x := fun _ => rfl
  obtain ⟨hx1, hx2⟩ := hx
  obtain ⟨hy1, hy2⟩ := hy
  generalize bfO j l x y = r at *
  repeat' (first | refine w1g ?_ | refine w1l ?_ | refine w1q ?_ | refine w1b ?_ | refine w1p ?_ | ((first | refine w1r ?_ | refine w1k ?_ | refine w1e ?_); simp (maxSteps := 400000) (disch := omega) only [push_cast, ↓reduceIte, reduceCtorEq, Nat.reduceAdd, Nat.reduceSub, Nat.reduceEqDiff, Nat.reduceLeDiff, Nat.reduceLT, Nat.reduceBEq, Nat.reduceDiv, Nat.reduceMod, Nat.reducePow, Nat.reduceMul, Int.reduceToNat, Int.reduceLT, Int.reduceLE, g1, g2]) | refine an2 ?_ | fail)
  by_cases q1 : k1O l x = k1O l y
  rotate_left
  · rw [if_neg q1] at e
    rw [show (k1O l x != k1O l y) = true from bne_iff_ne.2 q1]
    refine W_cond (by rfl) (fun _ => ?_) (fun h => by cases h)
    repeat' (first | refine w1g ?_ | refine w1l ?_ | refine w1q ?_ | refine w1b ?_ | refine w1p ?_ | ((first | refine w1r ?_ | refine w1k ?_ | refine w1e ?_); simp (maxSteps := 400000) (disch := omega) only [push_cast, ↓reduceIte, reduceCtorEq, Nat.reduceAdd, Nat.reduceSub, Nat.reduceEqDiff, Nat.reduceLeDiff, Nat.reduceLT, Nat.reduceBEq, Nat.reduceDiv, Nat.reduceMod, Nat.reducePow, Nat.reduceMul, Int.reduceToNat, Int.reduceLT, Int.reduceLE, g1, g2]) | refine an2 ?_ | fail)
    rw [e]
    exact W_ret ⟨[_], ⟨rfl, rfl⟩, rfl⟩
  rw [if_pos q1] at e
  rw [show (k1O l x != k1O l y) = false by rw [q1, bne_self_eq_false]]
  refine W_cond (by rfl) (fun h => by cases h) (fun _ => ?_)
  repeat' (first | refine w1g ?_ | refine w1l ?_ | refine w1q ?_ | refine w1b ?_ | refine w1p ?_ | ((first | refine w1r ?_ | refine w1k ?_ | refine w1e ?_); simp (maxSteps := 400000) (disch := omega) only [push_cast, ↓reduceIte, reduceCtorEq, Nat.reduceAdd, Nat.reduceSub, Nat.reduceEqDiff, Nat.reduceLeDiff, Nat.reduceLT, Nat.reduceBEq, Nat.reduceDiv, Nat.reduceMod, Nat.reducePow, Nat.reduceMul, Int.reduceToNat, Int.reduceLT, Int.reduceLE, g1, g2]) | refine an2 ?_ | fail)
  by_cases q2 : k2O j x = k2O j y
  rotate_left
  · rw [if_neg q2] at e
    rw [show (k2O j x != k2O j y) = true from bne_iff_ne.2 q2]
    refine W_cond (by rfl) (fun _ => ?_) (fun h => by cases h)
    repeat' (first | refine w1g ?_ | refine w1l ?_ | refine w1q ?_ | refine w1b ?_ | refine w1p ?_ | ((first | refine w1r ?_ | refine w1k ?_ | refine w1e ?_); simp (maxSteps := 400000) (disch := omega) only [push_cast, ↓reduceIte, reduceCtorEq, Nat.reduceAdd, Nat.reduceSub, Nat.reduceEqDiff, Nat.reduceLeDiff, Nat.reduceLT, Nat.reduceBEq, Nat.reduceDiv, Nat.reduceMod, Nat.reducePow, Nat.reduceMul, Int.reduceToNat, Int.reduceLT, Int.reduceLE, g1, g2]) | refine an2 ?_ | fail)
    rw [e]
    exact W_ret ⟨[_], ⟨rfl, rfl⟩, rfl⟩
  rw [if_pos q2] at e
  rw [show (k2O j x != k2O j y) = false by rw [q2, bne_self_eq_false]]
  refine W_cond (by rfl) (fun h => by cases h) (fun _ => ?_)
  repeat' (first | refine w1g ?_ | refine w1l ?_ | refine w1q ?_ | refine w1b ?_ | refine w1p ?_ | ((first | refine w1r ?_ | refine w1k ?_ | refine w1e ?_); (refine sy1 ?_; try exact True.intro)) | refine an2 ?_ | fail)
  rw [e]
  exact W_ret ⟨[_], ⟨rfl, rfl⟩, rfl⟩
theorem fn46 (j : Jb) (l : List Int) (h : Gj j) (hl : l.length ≤ 1000000) : Sy.Fn Try.prog 46 [aJ j, aI l] (.tup [aO (orL j l), iv (orE j l)]) := by
  refine Fn_of_W mixed Xt46 rfl ?_
  have c17 := fn17 j h
  have c96 := fn96 j l hl (by have := h.t; omega)
  have hE : orE j l = if chkJ j = 0 then stE j l else chkJ j := rfl
  have hO : orL j l = if orE j l = 0 then orS j l j.tm.length else [] := rfl
  have hok : chkJ j = 0 → OkJ j := chkJ_ok
  have hst : stE j l = 0 → l.length = j.ts.length := fun q => (stE_ok q).1
  by_cases h1 : chkJ j = 0
  rotate_left
  · rw [if_neg h1] at hE
    rw [hE] at hO
    rw [if_neg h1] at hO
    rw [hO, hE]
    generalize chkJ j = E at *
    repeat' (first | refine w1g ?_ | refine w1l ?_ | refine w1q ?_ | refine w1b ?_ | refine w1p ?_ | ((first | refine w1r ?_ | refine w1k ?_ | refine w1e ?_ | refine CallC.now (c17) ?_); (refine sy1 ?_; try exact True.intro)) | refine an2 ?_ | fail)
    refine W_cond (by rfl) (fun _ => ?_) (fun h => absurd (by simpa using h) h1)
    repeat' (first | refine w1g ?_ | refine w1l ?_ | refine w1q ?_ | refine w1b ?_ | refine w1p ?_ | ((first | refine w1r ?_ | refine w1k ?_ | refine w1e ?_); (refine sy1 ?_; try exact True.intro)) | refine an2 ?_ | fail)
    refine W_le (le_nil 4 1 ([] : List Int) cO rfl) ?_
    exact W_ret ⟨[_, _], ⟨rfl, rfl, rfl⟩, rfl⟩
  rw [if_pos h1] at hE
  have hok := hok h1
  rw [h1] at c17
  by_cases h2 : stE j l = 0
  rotate_left
  · rw [hE] at hO
    rw [if_neg h2] at hO
    rw [hO, hE]
    generalize stE j l = E at *
    repeat' (first | refine w1g ?_ | refine w1l ?_ | refine w1q ?_ | refine w1b ?_ | refine w1p ?_ | ((first | refine w1r ?_ | refine w1k ?_ | refine w1e ?_ | refine CallC.now (c17) ?_); (refine sy1 ?_; try exact True.intro)) | refine an2 ?_ | fail)
    refine W_cond (by rfl) (fun h => by cases h) (fun _ => ?_)
    repeat' (first | refine w1g ?_ | refine w1l ?_ | refine w1q ?_ | refine w1b ?_ | refine w1p ?_ | ((first | refine w1r ?_ | refine w1k ?_ | refine w1e ?_ | refine CallC.now (c96) ?_); (refine sy1 ?_; try exact True.intro)) | refine an2 ?_ | fail)
    refine W_cond (by rfl) (fun _ => ?_) (fun h => absurd (by simpa using h) h2)
    repeat' (first | refine w1g ?_ | refine w1l ?_ | refine w1q ?_ | refine w1b ?_ | refine w1p ?_ | ((first | refine w1r ?_ | refine w1k ?_ | refine w1e ?_); (refine sy1 ?_; try exact True.intro)) | refine an2 ?_ | fail)
    refine W_le (le_nil 4 1 ([] : List Int) cO rfl) ?_
    exact W_ret ⟨[_, _], ⟨rfl, rfl, rfl⟩, rfl⟩
  have hll := hst h2
  rw [h2] at c96 hE
  rw [hE] at hO ⊢
  rw [if_pos rfl] at hO
  rw [hO]
  have hn := hok.n
  have h0 := hok.n0
  have ht := hok.nt
  have hss := orS_succ j l
  have hsl := orS_len j l
  have hb := fun x y hx hy => fn101 j l hll x y hx hy
  have hmk : ∀ t k x, x ∈ memK j t k → 0 ≤ x ∧ x < (k : Int) := fun t k x hx => by
    unfold memK at hx
    obtain ⟨y, hy, rfl⟩ := List.mem_map.1 hx
    have := List.mem_range.1 (List.mem_filter.1 hy).1
    show 0 ≤ (y : Int) ∧ (y : Int) < k
    omega
  have hml := memK_len j
  have hms := memK_succ j
  have hrw : ∀ t, rwL j l t = isort (ltO j l) (memK j t j.ts.length) := fun _ => rfl
  repeat' (first | refine w1g ?_ | refine w1l ?_ | refine w1q ?_ | refine w1b ?_ | refine w1p ?_ | ((first | refine w1r ?_ | refine w1k ?_ | refine w1e ?_ | refine CallC.now (c17) ?_); (refine sy1 ?_; try exact True.intro)) | refine an2 ?_ | fail)
  refine W_cond (by rfl) (fun h => by cases h) (fun _ => ?_)
  repeat' (first | refine w1g ?_ | refine w1l ?_ | refine w1q ?_ | refine w1b ?_ | refine w1p ?_ | ((first | refine w1r ?_ | refine w1k ?_ | refine w1e ?_ | refine CallC.now (c96) ?_); (refine sy1 ?_; try exact True.intro)) | refine an2 ?_ | fail)
  refine W_cond (by rfl) (fun h => by cases h) (fun _ => ?_)
  repeat' (first | refine w1g ?_ | refine w1l ?_ | refine w1q ?_ | refine w1b ?_ | refine w1p ?_ | ((first | refine w1r ?_ | refine w1k ?_ | refine w1e ?_); (refine sy1 ?_; try exact True.intro)) | refine an2 ?_ | fail)
  refine W_le (le_adopt 7 52 1 ([] : List Int) cO (by omega) rfl) ?_
  (refine sy1 ?_; try exact True.intro)
  refine W_loopU (fun i : Nat => [(7, .row 16 i), (8, iv i)]) (fun i => [(16, .row i 52 1 [] cO (orS j l i))]) (fun i => i ≤ j.tm.length) (fun i => j.tm.length - i) 0 (by omega) (by rfl) (by rfl) (fun i hi => ?_)
  have hss := hss i
  have hsl := hsl i
  (refine sy1 ?_; try exact True.intro)
  repeat' (first | refine w1g ?_ | refine w1l ?_ | refine w1q ?_ | refine w1b ?_ | refine w1p ?_ | ((first | refine w1r ?_ | refine w1k ?_ | refine w1e ?_); (refine sy1 ?_; try exact True.intro)) | refine an2 ?_ | fail)
  refine W_condD (by rfl) (fun h5 => ?_) (fun h5 => ?_)
  · have hmk := hmk (i : Nat)
    have hml := hml (i : Nat)
    have hms := hms (i : Nat)
    have hrw := hrw (i : Nat)
    generalize orS j l i = OS at *
    generalize rwL j l (i : Nat) = RW at *
    have hm0 : isort (ltO j l) (memK j (i : Nat) 0) = [] := rfl
    have hiM : ∀ k, isM j (i : Nat) k = ((gt j.ts k).tm == (i : Int)) := fun _ => rfl
    generalize memK j (i : Nat) = MK at *
    repeat' (first | refine w1g ?_ | refine w1l ?_ | refine w1q ?_ | refine w1b ?_ | refine w1p ?_ | ((first | refine w1r ?_ | refine w1k ?_ | refine w1e ?_); (refine sy1 ?_; try exact True.intro)) | refine an2 ?_ | fail)
    refine W_le (le_adopt 9 3 1 (0 : Int) cI (by omega) rfl) ?_
    (refine sy1 ?_; try exact True.intro)
    refine W_loopU (fun k : Nat => [(9, .row 24 0), (10, iv k)]) (fun k => [(24, .row 0 3 1 0 cI (isort (ltO j l) (MK k)))]) (fun k => k ≤ j.ts.length) (fun k => j.ts.length - k) 0 (by omega) (by rfl) (by simp only [hm0]; rfl) (fun k hk => ?_)
    have hms := hms k
    have hmk := hmk k
    have hiM := hiM k
    have hml := hml k
    have hsr := srt_isort (ltO_sw j l) (MK k)
    have hsl2 : (isort (ltO j l) (MK k)).length = (MK k).length := isort_len _
    have hsm : ∀ x, x ∈ isort (ltO j l) (MK k) → 0 ≤ x ∧ x < (k : Int) := fun x hx => hmk x ((isort_mem _).1 hx)
    have hsk : isort (ltO j l) (MK (k + 1)) = if isM j (i : Nat) k = true then ins (ltO j l) (k : Int) (isort (ltO j l) (MK k)) else isort (ltO j l) (MK k) := by
      rw [hms]
      split
      · exact isort_snoc _ _
      · rw [List.append_nil]
    generalize hOO : isort (ltO j l) (MK k) = O at *
    (refine sy1 ?_; try exact True.intro)
    repeat' (first | refine w1g ?_ | refine w1l ?_ | refine w1q ?_ | refine w1b ?_ | refine w1p ?_ | ((first | refine w1r ?_ | refine w1k ?_ | refine w1e ?_); (refine sy1 ?_; try exact True.intro)) | refine an2 ?_ | fail)
    refine W_condD (by rfl) (fun h6 => ?_) (fun h6 => ?_)
    · have hkn : k < j.ts.length := by omega
      obtain ⟨T, hT⟩ : ∃ T, gt j.ts k = T := ⟨_, rfl⟩
      have hgt : j.ts.getD k dTk = T := hT
      rw [hT] at hiM
      repeat' (first | refine w1g ?_ | refine w1l ?_ | refine w1q ?_ | refine w1b ?_ | refine w1p ?_ | ((first | refine w1r ?_ | refine w1k ?_ | refine w1e ?_); simp (maxSteps := 400000) (disch := omega) only [push_cast, ↓reduceIte, reduceCtorEq, Nat.reduceAdd, Nat.reduceSub, Nat.reduceEqDiff, Nat.reduceLeDiff, Nat.reduceLT, Nat.reduceBEq, Nat.reduceDiv, Nat.reduceMod, Nat.reducePow, Nat.reduceMul, Int.reduceToNat, Int.reduceLT, Int.reduceLE, hgt]) | refine an2 ?_ | fail)
      by_cases q : T.tm = (i : Int)
      rotate_left
      · rw [show isM j (i : Nat) k = false by rw [hiM]; exact beq_eq_false_iff_ne.2 q, if_neg (by decide)] at hsk
        rw [show (T.tm != (i : Int)) = true from bne_iff_ne.2 q]
        refine W_cond (by rfl) (fun _ => ?_) (fun h => by cases h)
        repeat' (first | refine w1g ?_ | refine w1l ?_ | refine w1q ?_ | refine w1b ?_ | refine w1p ?_ | ((first | refine w1r ?_ | refine w1k ?_ | refine w1e ?_); (refine sy1 ?_; try exact True.intro)) | refine an2 ?_ | fail)
        refine ⟨k + 1, by omega, by omega, by rfl, ?_⟩
        rw [hsk]
        (refine syE ?_; try exact True.intro)
      rw [show isM j (i : Nat) k = true by rw [hiM]; exact beq_iff_eq.2 q, if_pos rfl] at hsk
      rw [show (T.tm != (i : Int)) = false by rw [q, bne_self_eq_false]]
      refine W_cond (by rfl) (fun h => by cases h) (fun _ => ?_)
      repeat' (first | refine w1g ?_ | refine w1l ?_ | refine w1q ?_ | refine w1b ?_ | refine w1p ?_ | ((first | refine w1r ?_ | refine w1k ?_ | refine w1e ?_); (refine sy1 ?_; try exact True.intro)) | refine an2 ?_ | fail)
      refine W_loopU (fun e : Nat => [(11, iv e)]) (fun e => []) (fun e => e ≤ O.length ∧ (e = 0 ∨ ltO j l (k : Int) (O.getD (e - 1) 0) = false)) (fun e => O.length - e) 0 ⟨by omega, .inl rfl⟩ (by rfl) (by rfl) (fun e he => ?_)
      obtain ⟨he1, he2⟩ := he
      obtain ⟨y, hy⟩ : ∃ y, O.getD e 0 = y := ⟨_, rfl⟩
      have hyr : e < O.length → 0 ≤ y ∧ y < (k : Int) := fun q => hsm y (by rw [← hy]; exact getD_mem' 0 O _ q)
      have hyo : okX j.ts.length y := by
        rcases Nat.lt_or_ge e O.length with q | q
        · have := hyr q
          exact ⟨this.1, by omega⟩
        · rw [← hy, List.getD_eq_getElem?_getD, List.getElem?_eq_none q]
          exact ⟨Int.le_refl 0, h0⟩
      have c101 := hb y (k : Nat) hyo ⟨by omega, by omega⟩
      have hbl : e < O.length → bfO j l y (k : Nat) = !ltO j l (k : Nat) y := fun q => bf_lt (hyr q).2
      generalize bfO j l y (k : Nat) = B at *
      (refine sy1 ?_; try exact True.intro)
      repeat' (first | refine w1g ?_ | refine w1l ?_ | refine w1q ?_ | refine w1b ?_ | refine w1p ?_ | ((first | refine w1r ?_ | refine w1k ?_ | refine w1e ?_ | refine CallC.now (c101) ?_); simp (maxSteps := 400000) (disch := omega) only [push_cast, ↓reduceIte, reduceCtorEq, Nat.reduceAdd, Nat.reduceSub, Nat.reduceEqDiff, Nat.reduceLeDiff, Nat.reduceLT, Nat.reduceBEq, Nat.reduceDiv, Nat.reduceMod, Nat.reducePow, Nat.reduceMul, Int.reduceToNat, Int.reduceLT, Int.reduceLE, hy]) | refine an2 ?_ | fail)
      refine W_cond (by rfl) (fun hc => ?_) (fun hc => ?_)
      · simp only [Bool.and_eq_true, decide_eq_true_eq] at hc
        have hlt : e < O.length := by omega
        have := hbl hlt
        rw [hc.2] at this
        repeat' (first | refine w1g ?_ | refine w1l ?_ | refine w1q ?_ | refine w1b ?_ | refine w1p ?_ | ((first | refine w1r ?_ | refine w1k ?_ | refine w1e ?_); (refine sy1 ?_; try exact True.intro)) | refine an2 ?_ | fail)
        refine ⟨e + 1, ⟨by omega, .inr ?_⟩, by omega, by rfl, ?_⟩
        · rw [Nat.add_sub_cancel, hy]
          simpa using this.symm
        · (refine syE ?_; try exact True.intro)
      · have hstop : e = O.length ∨ ltO j l (k : Int) (O.getD e 0) = true := by
          rcases Nat.lt_or_ge e O.length with q | q
          · right
            have hB := hbl q
            rw [show decide ((e : Int) < (O.length : Int)) = true from decide_eq_true (by omega), Bool.true_and] at hc
            rw [hc] at hB
            rw [hy]
            simpa using hB.symm
          · exact .inl (by omega)
        have hi2 := ins_at (ltO_sw j l) hsr (0 : Int) (k : Int) he1 he2 (gt_of_at (ltO_sw j l) hsr (0 : Int) hstop)
        rw [hi2] at hsk
        have lt1 : (O.take e).length = e := by rw [List.length_take]; omega
        have lt2 : (O.drop e).length = O.length - e := List.length_drop
        clear hbl c101 hyo hyr hy
        refine W_exit ?_
        (refine sy1 ?_; try exact True.intro)
        refine WK_go (W_le (le_frzR 9 [1, 2, 7, 8, 10, 11] [16] 53 24 0 3 1 0 cI O rfl rfl rfl rfl) ?_)
        simp (maxSteps := 400000) (disch := omega) only [push_cast, ↓reduceIte, reduceCtorEq, Nat.reduceAdd, Nat.reduceSub, Nat.reduceEqDiff, Nat.reduceLeDiff, Nat.reduceLT, Nat.reduceBEq, Nat.reduceDiv, Nat.reduceMod, Nat.reducePow, Nat.reduceMul, Int.reduceToNat, Int.reduceLT, Int.reduceLE, List.map_cons, List.map_nil, keepL, keepM]
        repeat' (first | refine w1g ?_ | refine w1l ?_ | refine w1q ?_ | refine w1b ?_ | refine w1p ?_ | ((first | refine w1r ?_ | refine w1k ?_ | refine w1e ?_); simp (maxSteps := 400000) (disch := omega) only [push_cast, ↓reduceIte, reduceCtorEq, Nat.reduceAdd, Nat.reduceSub, Nat.reduceEqDiff, Nat.reduceLeDiff, Nat.reduceLT, Nat.reduceBEq, Nat.reduceDiv, Nat.reduceMod, Nat.reducePow, Nat.reduceMul, Int.reduceToNat, Int.reduceLT, Int.reduceLE, keepL, keepM]) | refine an2 ?_ | fail)
        refine ⟨rfl, trivial, Int, 0, cI, [], rfl, by omega, fun x _ => ⟨rfl, rfl⟩, rfl, ?_⟩
        (refine sy1 ?_; try exact True.intro)
        repeat' (first | refine w1g ?_ | refine w1l ?_ | refine w1q ?_ | refine w1b ?_ | refine w1p ?_ | ((first | refine w1r ?_ | refine w1k ?_ | refine w1e ?_); simp (maxSteps := 400000) (disch := omega) only [push_cast, ↓reduceIte, reduceCtorEq, Nat.reduceAdd, Nat.reduceSub, Nat.reduceEqDiff, Nat.reduceLeDiff, Nat.reduceLT, Nat.reduceBEq, Nat.reduceDiv, Nat.reduceMod, Nat.reducePow, Nat.reduceMul, Int.reduceToNat, Int.reduceLT, Int.reduceLE, lt1]) | refine an2 ?_ | fail)
        refine ⟨rfl, ⟨Nat.le_of_ble_eq_true rfl, rfl⟩, trivial, (O.take e), rfl, by first | omega | (simp; omega), by first | omega | (simp; omega), ?_⟩
        (refine sy1 ?_; try exact True.intro)
        repeat' (first | refine w1g ?_ | refine w1l ?_ | refine w1q ?_ | refine w1b ?_ | refine w1p ?_ | ((first | refine w1r ?_ | refine w1k ?_ | refine w1e ?_); simp (maxSteps := 400000) (disch := omega) only [push_cast, ↓reduceIte, reduceCtorEq, Nat.reduceAdd, Nat.reduceSub, Nat.reduceEqDiff, Nat.reduceLeDiff, Nat.reduceLT, Nat.reduceBEq, Nat.reduceDiv, Nat.reduceMod, Nat.reducePow, Nat.reduceMul, Int.reduceToNat, Int.reduceLT, Int.reduceLE, lt1]) | refine an2 ?_ | fail)
        refine ⟨rfl, trivial, Int, 0, cI, [(k : Int)], rfl, by omega, fun x _ => ⟨rfl, rfl⟩, rfl, ?_⟩
        (refine sy1 ?_; try exact True.intro)
        repeat' (first | refine w1g ?_ | refine w1l ?_ | refine w1q ?_ | refine w1b ?_ | refine w1p ?_ | ((first | refine w1r ?_ | refine w1k ?_ | refine w1e ?_); (refine sy1 ?_; try exact True.intro)) | refine an2 ?_ | fail)
        refine ⟨rfl, ⟨Nat.le_of_ble_eq_true rfl, rfl⟩, trivial, [(k : Int)], rfl, by first | omega | (simp; omega), by first | omega | (simp; omega), ?_⟩
        (refine sy1 ?_; try exact True.intro)
        repeat' (first | refine w1g ?_ | refine w1l ?_ | refine w1q ?_ | refine w1b ?_ | refine w1p ?_ | ((first | refine w1r ?_ | refine w1k ?_ | refine w1e ?_); simp (maxSteps := 400000) (disch := omega) only [push_cast, ↓reduceIte, reduceCtorEq, Nat.reduceAdd, Nat.reduceSub, Nat.reduceEqDiff, Nat.reduceLeDiff, Nat.reduceLT, Nat.reduceBEq, Nat.reduceDiv, Nat.reduceMod, Nat.reducePow, Nat.reduceMul, Int.reduceToNat, Int.reduceLT, Int.reduceLE, lt2]) | refine an2 ?_ | fail)
        refine ⟨rfl, ⟨Nat.le_of_ble_eq_true rfl, rfl⟩, trivial, (O.drop e), rfl, by first | omega | (simp; omega), by first | omega | (simp; omega), ?_⟩
        (refine sy1 ?_; try exact True.intro)
        have hlist : (O.take e ++ [(k : Int)]) ++ O.drop e = isort (ltO j l) (MK (k + 1)) := by rw [hsk]; simp
        refine WK_go (W_le (le_move 9 24 0 53 3 3 1 [1, 2, 7, 8, 10] [16] 54 (0 : Int) cI ((O.take e ++ [(k : Int)]) ++ O.drop e) rfl rfl rfl rfl rfl rfl rfl (by omega)) ?_)
        rw [hlist]
        simp (maxSteps := 400000) (disch := omega) only [push_cast, ↓reduceIte, reduceCtorEq, Nat.reduceAdd, Nat.reduceSub, Nat.reduceEqDiff, Nat.reduceLeDiff, Nat.reduceLT, Nat.reduceBEq, Nat.reduceDiv, Nat.reduceMod, Nat.reducePow, Nat.reduceMul, Int.reduceToNat, Int.reduceLT, Int.reduceLE, List.map_cons, List.map_nil, keepM]
        repeat' (first | refine w1g ?_ | refine w1l ?_ | refine w1q ?_ | refine w1b ?_ | refine w1p ?_ | ((first | refine w1r ?_ | refine w1k ?_ | refine w1e ?_); (refine sy1 ?_; try exact True.intro)) | refine an2 ?_ | fail)
        refine ⟨k + 1, by omega, by omega, by rfl, ?_⟩
        (refine syE ?_; try exact True.intro)
    · obtain rfl : k = j.ts.length := by omega
      (repeat' (first | refine w1g ?_ | refine w1l ?_ | refine w1q ?_ | refine w1b ?_ | refine w1p ?_ | fail))
      refine w1e ?_
      (refine sy1 ?_; try exact True.intro)
      (repeat' (first | refine w1g ?_ | refine w1l ?_ | refine w1q ?_ | refine w1b ?_ | refine w1p ?_ | fail))
      rw [← hOO, ← hrw]
      refine W_le (le_frzR 9 [1, 2, 7, 8] [16] 30 24 0 3 1 0 cI RW rfl rfl rfl rfl) ?_
      simp (maxSteps := 400000) (disch := omega) only [push_cast, ↓reduceIte, reduceCtorEq, Nat.reduceAdd, Nat.reduceSub, Nat.reduceEqDiff, Nat.reduceLeDiff, Nat.reduceLT, Nat.reduceBEq, Nat.reduceDiv, Nat.reduceMod, Nat.reducePow, Nat.reduceMul, Int.reduceToNat, Int.reduceLT, Int.reduceLE, List.map_cons, List.map_nil, keepM]
      repeat' (first | refine w1g ?_ | refine w1l ?_ | refine w1q ?_ | refine w1b ?_ | refine w1p ?_ | ((first | refine w1r ?_ | refine w1k ?_ | refine w1e ?_); (refine sy1 ?_; try exact True.intro)) | refine an2 ?_ | fail)
      refine ⟨rfl, trivial, List Int, [], cO, [RW], rfl, by omega, fun x _ => ⟨rfl, rfl⟩, rfl, ?_⟩
      (refine sy1 ?_; try exact True.intro)
      refine ⟨rfl, ⟨Nat.le_of_ble_eq_true rfl, rfl⟩, trivial, [RW], rfl, by first | omega | (simp; omega), by first | omega | (simp; omega), ?_⟩
      (refine sy1 ?_; try exact True.intro)
      rw [← hss]
      repeat' (first | refine w1g ?_ | refine w1l ?_ | refine w1q ?_ | refine w1b ?_ | refine w1p ?_ | ((first | refine w1r ?_ | refine w1k ?_ | refine w1e ?_); (refine sy1 ?_; try exact True.intro)) | refine an2 ?_ | fail)
      refine ⟨i + 1, by omega, by omega, by rfl, ?_⟩
      (refine syE ?_; try exact True.intro)
  · obtain rfl : i = j.tm.length := by omega
    repeat' (first | refine w1g ?_ | refine w1l ?_ | refine w1q ?_ | refine w1b ?_ | refine w1p ?_ | ((first | refine w1r ?_ | refine w1k ?_ | refine w1e ?_); (refine sy1 ?_; try exact True.intro)) | refine an2 ?_ | fail)
    refine W_le (le_frzR 4 [5] [] 25 16 j.tm.length 52 1 [] cO (orS j l j.tm.length) rfl rfl rfl rfl) ?_
    simp (maxSteps := 400000) (disch := omega) only [push_cast, ↓reduceIte, reduceCtorEq, Nat.reduceAdd, Nat.reduceSub, Nat.reduceEqDiff, Nat.reduceLeDiff, Nat.reduceLT, Nat.reduceBEq, Nat.reduceDiv, Nat.reduceMod, Nat.reducePow, Nat.reduceMul, Int.reduceToNat, Int.reduceLT, Int.reduceLE, List.map_cons, List.map_nil, keepM]
    exact W_ret ⟨[_, _], ⟨rfl, rfl, rfl⟩, rfl⟩
end Go.Proofs.Ytoiohkjomcbadaa

namespace Go.Proofs.Ytoiohkjomcbadaa
open Go Sy
set_option maxRecDepth 100000
set_option maxHeartbeats 4000000
set_option linter.unusedVariables false
set_option linter.unusedSimpArgs false
end Go.Proofs.Ytoiohkjomcbadaa

namespace Go.Proofs.Ytoiohkjomcbadaa
open Go Sy
set_option maxRecDepth 100000
set_option maxHeartbeats 4000000
set_option linter.unusedVariables false
set_option linter.unusedSimpArgs false
theorem or_len {j : Jb} {l : List Int} (h : Gj j) : (orL j l).length ≤ 1000000 ∧ ∀ i, i < (orL j l).length → ((orL j l).getD i []).length ≤ 1000000 := by
  have ht := h.t
  have hm := h.m
  unfold orL
  split
  · rw [orS_len]
    refine ⟨by omega, fun i hi => ?_⟩
    have := rwL_len j l (i : Nat)
    rw [show (orS j l j.tm.length).getD i [] = rwL j l (i : Nat) by unfold orS; simp [List.getD, hi]]
    omega
  · exact ⟨by simp, fun i hi => absurd hi (by simp)⟩
theorem fn10 (j : Jb) (o : List (List Int)) (l : List Int) (ws : List Wn) (mi fr : Int) (h1 : j.ts.length ≤ 140737488355328) (h2 : o.length ≤ 140737488355328) (h3 : l.length ≤ 140737488355328) (h4 : ws.length ≤ 140737488355328) : Sy.Fn Try.prog 10 [aJ j, aO o, aI l, aN ws, iv mi, iv fr] (bv true) := by
  refine Fn_of_W mixed Xt10 rfl ?_
  have c13 := fn13
  have c16 := fn16 j h1
  have c23 := fn23 o h2
  by_cases hq : grtB j = false ∧ widB o = false ∧ l.length ≤ 60 ∧ ws.length ≤ 60
  rotate_left
  · have e : (grtB j || widB o || decide ((60 : Int) < (l.length : Int)) || decide ((60 : Int) < (ws.length : Int))) = true := by
      cases hg : grtB j
      · cases hw : widB o
        · simp only [Bool.false_or, Bool.or_eq_true, decide_eq_true_eq]
          have : ¬ (l.length ≤ 60 ∧ ws.length ≤ 60) := fun z => hq ⟨hg, hw, z⟩
          omega
        · rfl
      · rfl
    generalize grtB j = b at *
    generalize widB o = b2 at *
    repeat' (first | refine w1g ?_ | refine w1l ?_ | refine w1q ?_ | refine w1b ?_ | refine w1p ?_ | ((first | refine w1r ?_ | refine w1k ?_ | refine w1e ?_ | refine CallC.now (c16) ?_ | refine CallC.now (c23) ?_); (refine sy1 ?_; try exact True.intro)) | refine an2 ?_ | fail)
    rw [e]
    refine W_cond (by rfl) (fun _ => ?_) (fun h => by cases h)
    repeat' (first | refine w1g ?_ | refine w1l ?_ | refine w1q ?_ | refine w1b ?_ | refine w1p ?_ | ((first | refine w1r ?_ | refine w1k ?_ | refine w1e ?_ | refine CallC.now (c13) ?_); (refine sy1 ?_; try exact True.intro)) | refine an2 ?_ | fail)
    exact W_ret ⟨[_], ⟨rfl, rfl⟩, rfl⟩
  obtain ⟨q1, q2, q3, q4⟩ := hq
  have hG := (grt_ok q1).1
  have hO := wid_ok q2
  have c37 := fn37 j o hG hO
  have c38 := fn38 j o hG hO
  have c39 := fn39 j hG
  have c17 := fn17 j hG
  have c40 := fn40 j o hG hO
  have c41 := fn41 j o hG hO
  have c42 := fn42 ws mi fr (by omega)
  have c43 := fn43 ws mi fr (by omega)
  have c15 := fn15 j o l hG hO (by omega)
  have c44 := fn44 j o l hG hO (by omega)
  have c45 := fn45 j l hG (by omega)
  have c46 := fn46 j l hG (by omega)
  have c14 := fn14 j o hG hO
  have c47 := fn47 j o hG hO
  have hol := or_len (l := l) hG
  have c21 := fn21 (orL j l) hol.1 hol.2
  have hea : (eaL j o).length ≤ 140737488355328 := by
    by_cases he : chkO j o = 0
    · by_cases hb : eaE j o = 0
      · rw [(ea_ok he hb).1]; omega
      · rw [(ea_no he hb).2.1]; simp
    · unfold eaL; rw [if_neg he]; simp
  have c22 := fn22 (eaL j o) (eaL j o) hea hea rfl
  have hvl : (lkV j o).length ≤ 1000000 := by
    unfold lkV
    split
    · rename_i he
      have := lks_len (chkO_ok he).1
      omega
    · simp
  rw [q1] at c16
  rw [q2] at c23
  have e1 : decide ((60 : Int) < (l.length : Int)) = false := decide_eq_false (by omega)
  have e2 : decide ((60 : Int) < (ws.length : Int)) = false := decide_eq_false (by omega)
  clear hea hol
  generalize lkV j o = LV at *
  generalize chkO j o = E1 at *
  generalize chkJ j = E2 at *
  generalize ftV ws mi fr = V3 at *
  generalize ftE ws mi fr = E3 at *
  generalize cpI j o l = V4 at *
  generalize cpE j o l = E4 at *
  generalize orL j l = V5 at *
  generalize orE j l = E5 at *
  generalize eaL j o = V6 at *
  generalize eaE j o = E6 at *
  repeat' (first | refine w1g ?_ | refine w1l ?_ | refine w1q ?_ | refine w1b ?_ | refine w1p ?_ | ((first | refine w1r ?_ | refine w1k ?_ | refine w1e ?_ | refine CallC.now (c16) ?_ | refine CallC.now (c23) ?_); simp (maxSteps := 400000) (disch := omega) only [push_cast, ↓reduceIte, reduceCtorEq, Nat.reduceAdd, Nat.reduceSub, Nat.reduceEqDiff, Nat.reduceLeDiff, Nat.reduceLT, Nat.reduceBEq, Nat.reduceDiv, Nat.reduceMod, Nat.reducePow, Nat.reduceMul, Int.reduceToNat, Int.reduceLT, Int.reduceLE, e1, e2]) | refine an2 ?_ | fail)
  refine W_cond (by rfl) (fun h => by cases h) (fun _ => ?_)
  repeat' (first | refine w1g ?_ | refine w1l ?_ | refine w1q ?_ | refine w1b ?_ | refine w1p ?_ | ((first | refine w1r ?_ | refine w1k ?_ | refine w1e ?_ | refine CallC.now (c37) ?_ | refine CallC.now (c38) ?_ | refine CallC.now (c39) ?_ | refine CallC.now (c17) ?_ | refine CallC.now (c40) ?_ | refine CallC.now (c41) ?_); simp (maxSteps := 400000) (disch := omega) only [push_cast, ↓reduceIte, reduceCtorEq, Nat.reduceAdd, Nat.reduceSub, Nat.reduceEqDiff, Nat.reduceLeDiff, Nat.reduceLT, Nat.reduceBEq, Nat.reduceDiv, Nat.reduceMod, Nat.reducePow, Nat.reduceMul, Int.reduceToNat, Int.reduceLT, Int.reduceLE, bne_self_eq_false]) | refine an2 ?_ | fail)
  refine W_cond (by rfl) (fun h => by cases h) (fun _ => ?_)
  repeat' (first | refine w1g ?_ | refine w1l ?_ | refine w1q ?_ | refine w1b ?_ | refine w1p ?_ | ((first | refine w1r ?_ | refine w1k ?_ | refine w1e ?_); (refine sy1 ?_; try exact True.intro)) | refine an2 ?_ | fail)
  refine W_loopU (fun i : Nat => [(17, iv i)]) (fun i => []) (fun i => i ≤ LV.length) (fun i => LV.length - i) 0 (by omega) (by rfl) (by rfl) (fun i hi => ?_)
  (refine sy1 ?_; try exact True.intro)
  repeat' (first | refine w1g ?_ | refine w1l ?_ | refine w1q ?_ | refine w1b ?_ | refine w1p ?_ | ((first | refine w1r ?_ | refine w1k ?_ | refine w1e ?_); (refine sy1 ?_; try exact True.intro)) | refine an2 ?_ | fail)
  refine W_condD (by rfl) (fun h5 => ?_) (fun h5 => ?_)
  · obtain ⟨a, ha⟩ : ∃ a, LV.getD i dAf = a := ⟨_, rfl⟩
    have hq : eqL 21 (cA a) (cA a) = some true := by simp [eqL, cA]
    repeat' (first | refine w1g ?_ | refine w1l ?_ | refine w1q ?_ | refine w1b ?_ | refine w1p ?_ | ((first | refine w1r ?_ | refine w1k ?_ | refine w1e ?_); simp (maxSteps := 400000) (disch := omega) only [push_cast, ↓reduceIte, reduceCtorEq, Nat.reduceAdd, Nat.reduceSub, Nat.reduceEqDiff, Nat.reduceLeDiff, Nat.reduceLT, Nat.reduceBEq, Nat.reduceDiv, Nat.reduceMod, Nat.reducePow, Nat.reduceMul, Int.reduceToNat, Int.reduceLT, Int.reduceLE, ha, hq, Bool.not_true]) | refine an2 ?_ | fail)
    refine W_cond (by rfl) (fun h => by cases h) (fun _ => ?_)
    repeat' (first | refine w1g ?_ | refine w1l ?_ | refine w1q ?_ | refine w1b ?_ | refine w1p ?_ | ((first | refine w1r ?_ | refine w1k ?_ | refine w1e ?_); (refine sy1 ?_; try exact True.intro)) | refine an2 ?_ | fail)
    refine ⟨i + 1, by omega, by omega, by rfl, ?_⟩
    (refine syE ?_; try exact True.intro)
  · repeat' (first | refine w1g ?_ | refine w1l ?_ | refine w1q ?_ | refine w1b ?_ | refine w1p ?_ | ((first | refine w1r ?_ | refine w1k ?_ | refine w1e ?_ | refine CallC.now (c42) ?_ | refine CallC.now (c43) ?_ | refine CallC.now (c15) ?_ | refine CallC.now (c44) ?_); simp (maxSteps := 400000) (disch := omega) only [push_cast, ↓reduceIte, reduceCtorEq, Nat.reduceAdd, Nat.reduceSub, Nat.reduceEqDiff, Nat.reduceLeDiff, Nat.reduceLT, Nat.reduceBEq, Nat.reduceDiv, Nat.reduceMod, Nat.reducePow, Nat.reduceMul, Int.reduceToNat, Int.reduceLT, Int.reduceLE, bne_self_eq_false]) | refine an2 ?_ | fail)
    refine W_cond (by rfl) (fun h => by cases h) (fun _ => ?_)
    repeat' (first | refine w1g ?_ | refine w1l ?_ | refine w1q ?_ | refine w1b ?_ | refine w1p ?_ | ((first | refine w1r ?_ | refine w1k ?_ | refine w1e ?_ | refine CallC.now (c45) ?_ | refine CallC.now (c46) ?_ | refine CallC.now (c14) ?_ | refine CallC.now (c47) ?_ | refine CallC.now (c21) ?_ | refine CallC.now (c22) ?_ | refine CallC.now (c13) ?_); simp (maxSteps := 400000) (disch := omega) only [push_cast, ↓reduceIte, reduceCtorEq, Nat.reduceAdd, Nat.reduceSub, Nat.reduceEqDiff, Nat.reduceLeDiff, Nat.reduceLT, Nat.reduceBEq, Nat.reduceDiv, Nat.reduceMod, Nat.reducePow, Nat.reduceMul, Int.reduceToNat, Int.reduceLT, Int.reduceLE, beq_self_eq_true]) | refine an2 ?_ | fail)
    exact W_ret ⟨[_], ⟨rfl, rfl⟩, rfl⟩
end Go.Proofs.Ytoiohkjomcbadaa

